/-
Assemble: the program's bytes of the lines of a text are the reference's, for every text and place.
-/
import Derived.Test.YtlglpolokcnlhaaDoorMBx5
import Derived.Test.YtlglpolokcnlhaaDoorMBx6
import Derived.Test.YtlglpolokcnlhaaDoorMBx7
import Derived.Test.YtlglpolokcnlhaaDoorMBx8
import Derived.Test.YtlglpolokcnlhaaDoorMBx13
import Derived.Test.YtlglpolokcnlhaaDoorMBx14
import Derived.Test.YtlglpolokcnlhaaDoorBAsmLine
import Derived.Test.YtlglpolokcnlhaaDoorBHarnByte
set_option linter.unusedSimpArgs false
set_option linter.unusedVariables false
namespace Go.Proofs.YtlglpolokcnlhaaDoor.Pure
open Go.RowKit Go.Proofs.YtlglpolokcnlhaaDoor.MB Go.Proofs.YtlglpolokcnlhaaDoor.MBL Go.Proofs.YtlglpolokcnlhaaDoor.MBV Go.Proofs.YtlglpolokcnlhaaDoor.MBH Go.Proofs.YtlglpolokcnlhaaDoor.MBO Go.Proofs.YtlglpolokcnlhaaDoor.MBS Go.Proofs.YtlglpolokcnlhaaDoorW.PrintWords Go.Proofs.YtlglpolokcnlhaaDoorW.PrintLast Go.Proofs.YtlglpolokcnlhaaDoor.Lst

abbrev P7 : List UInt8 := [46, 98, 121, 116, 101, 32, 36]
set_option maxRecDepth 100000 in
theorem dot_all : ∀ i : Fin 256, (nm i.val).data.toList.head? ≠ some 46 := by decide +kernel
/-- No operation's text begins with a point. -/
theorem dot_none (t : List UInt8) (ht : t.length < 4294967281) (hd : t.head? = some 46) (pc : Int) (hp : 0 ≤ pc ∧ pc < 65536) : Ev (fun k => spec_ReadOp.f k (BA t) pc) ([], false) ∧ Ev (fun k => impl_ReadOp.f k (BA t) pc) ([], false) := by
  obtain ⟨r, e1, e2, h⟩ := readOp_both (BA t) (by rw [size_list]; exact ht) pc hp
  rcases h with h | ⟨i, hi, hm, h, hs⟩
  · rw [h] at e1 e2
    exact ⟨e1, e2⟩
  · exfalso
    have hsh := show_shape i hi hm (BI i (numI (BA t).data.toList) pc) (len_BI _ _ _) (rd_BS0 i hm (numI (BA t).data.toList) pc).2.1 pc
    rw [hs] at hsh
    have et : (BA t).data.toList = t := by simp
    rw [et] at hsh
    have hn := name_all ⟨i, hi⟩
    simp only at hn
    rcases hn with ⟨h1, _⟩ | ⟨_, _, h3, _⟩
    · omega
    · have hh := dot_all ⟨i, hi⟩
      simp only at hh
      apply hh
      rw [hsh] at hd
      generalize (nm i).data.toList = q at h3 hd
      match q, h3 with
      | [a, b, c], _ => simpa using hd
theorem pre_iff (t : List UInt8) : Lib.hasPrefix t P7 = true ↔ t.take 7 = P7 := by
  unfold Lib.hasPrefix
  rw [List.isPrefixOf_iff_prefix, List.prefix_iff_eq_take]
  exact ⟨fun h => h.symm, fun h => h.symm⟩
theorem impl_line (l : List UInt8) (hl : l.length ≤ 1000000) (pc : Int) :
    (tx l = [] → Ev (fun k => impl_lineBytes.f k (BA l) pc) ([], true)) ∧
    (¬ tx l = [] → (tx l).take 7 = P7 → Ev (fun k => impl_lineBytes.f k (BA l) pc) ([rh (BA ((tx l).drop 7)) 2 % 256], decide (rh (BA ((tx l).drop 7)) 2 ≥ 0))) ∧
    (¬ tx l = [] → ¬ (tx l).take 7 = P7 → ∀ r, Ev (fun k => impl_ReadOp.f k (BA (tx l)) pc) r → Ev (fun k => impl_lineBytes.f k (BA l) pc) r) := by
  obtain ⟨r2, r3, h1, h2, h3⟩ := impl_text l hl
  have et : (BA (tx l)).toList = tx l := by rw [toList_data]
  have ed : (BA (tx l)).data.toList = tx l := by simp
  have ep : (⟨#[46, 98, 121, 116, 101, 32, 36]⟩ : ByteArray).data.toList = P7 := rfl
  unfold impl_lineBytes.f
  simp only [h1, Option.bind_some, h2, h3, et]
  refine ⟨fun h => ?_, fun h g => ?_, fun h g r e => ?_⟩
  · simp only [if_pos h]
    exact Ev.now _
  · have hc : strings_CutPrefix.f (BA (tx l)) (⟨#[46, 98, 121, 116, 101, 32, 36]⟩ : ByteArray) = some (BA ((tx l).drop 7), true) := by
      unfold strings_CutPrefix.f Giv.cutPrefixG
      rw [ed, ep]
      have hp := (pre_iff (tx l)).mpr g
      unfold Lib.trimPrefix
      rw [hp]
      rfl
    simp only [if_neg h, hc, Option.bind_some, if_true]
    refine Ev.bind (impl_rh _ 2 (by omega)) ?_
    exact Ev.now _
  · have hc : ∃ a, strings_CutPrefix.f (BA (tx l)) (⟨#[46, 98, 121, 116, 101, 32, 36]⟩ : ByteArray) = some (a, false) := by
      unfold strings_CutPrefix.f Giv.cutPrefixG
      rw [ed, ep]
      have hp : Lib.hasPrefix (tx l) P7 = false := by
        cases hh : Lib.hasPrefix (tx l) P7 with
        | false => rfl
        | true => exact absurd ((pre_iff (tx l)).mp hh) g
      rw [hp]
      exact ⟨_, rfl⟩
    obtain ⟨a, hc⟩ := hc
    simp only [if_neg h, hc, Option.bind_some, Bool.false_eq_true, if_false]
    refine Ev.bind e ?_
    exact Ev.now _
theorem rh_pos (s : ByteArray) (n : Nat) (h : rh s n ≥ 0) : s.size = n := by
  unfold rh at h
  by_cases c : s.size = n
  · exact c
  · rw [if_neg c] at h
    exact absurd h (by decide)
section
variable (x1 : Int) (lines : List ByteArray) (n : Int)
/-- What follows a line's bytes, in both. -/
theorem step_both (j : Nat) (hj : j < 1000000) (out : List Int) (ho : out.length ≤ 1024) (L : List Int) (hL : L.length ≤ 3) (ok : Bool)
    (ih : ∀ out' : List Int, out'.length ≤ 1024 → ∃ r : List Int × Int, Ev (fun k => spec_Assemble.l0 k x1 lines out' ((j + 1 : Nat) : Int)) r ∧ Ev (fun k => impl_Assemble.l0 k x1 out' lines n ((j + 1 : Nat) : Int)) r ∧ r.1.length ≤ 1024) :
    ∃ r : List Int × Int, Ev (fun k => spec_Assemble.j2 k x1 lines out (j : Int) L ok) r ∧ (∀ L', (ok = true → L' = L) → Ev (fun k => if ok = true then (if (wrap64 ((out.length : Int) + (L'.length : Int))) > 1024 then (some (([] : List Int), wrap64 ((j : Int) + 1))) else (if out.length + L'.length < 140737488355328 then (impl_Assemble.l0 k x1 (out ++ L') lines n (wrap64 ((j : Int) + 1))) else (none))) else (some (([] : List Int), wrap64 ((j : Int) + 1)))) r) ∧ r.1.length ≤ 1024 := by
  have hj63 : j < 9223372036854775807 := by omega
  have lo1 : -9223372036854775808 ≤ (out.length : Int) + (L.length : Int) := by omega
  have hi1 : (out.length : Int) + (L.length : Int) ≤ 9223372036854775807 := by omega
  have cast : (out.length : Int) + (L.length : Int) = ((out.length + L.length : Nat) : Int) := by omega
  have small : out.length + L.length < 140737488355328 := by omega
  by_cases c : ok = true
  · subst c
    by_cases g : out.length + L.length > 1024
    · have g1 : ((out.length + L.length : Nat) : Int) > 1024 := by omega
      have w := w1 hj63
      have wo : wrap64 ((out.length : Int) + (L.length : Int)) = ((out.length + L.length : Nat) : Int) := (wrap_in lo1 hi1).trans cast
      refine ⟨([], ((j + 1 : Nat) : Int)), Ev.step (f := fun _ => some ([], ((j + 1 : Nat) : Int))) (fun k => ?_) (Ev.now _), fun L' hL' => ?_, by simp⟩
      · simp only [spec_Assemble.j2, if_true, w, wo, if_pos g1]
      · obtain rfl := hL' rfl
        simp only [if_true, w, wo, if_pos g1]
        exact Ev.now _
    · have g1 : ¬ ((out.length + L.length : Nat) : Int) > 1024 := by omega
      obtain ⟨r, h1, h2, h3⟩ := ih (out ++ L) (by rw [List.length_append]; omega)
      have w := w1 hj63
      have wo : wrap64 ((out.length : Int) + (L.length : Int)) = ((out.length + L.length : Nat) : Int) := (wrap_in lo1 hi1).trans cast
      refine ⟨r, Ev.step (fun k => ?_) h1, fun L' hL' => ?_, h3⟩
      · simp only [spec_Assemble.j2, if_true, w, wo, if_neg g1, if_pos small]
      · obtain rfl := hL' rfl
        simp only [if_true, w, wo, if_neg g1, if_pos small]
        exact h2
  · have c' : ok = false := by simpa using c
    subst c'
    have w := w1 hj63
    refine ⟨([], ((j + 1 : Nat) : Int)), Ev.step (f := fun _ => some ([], ((j + 1 : Nat) : Int))) (fun k => ?_) (Ev.now _), fun L' hL' => ?_, by simp⟩
    · simp only [spec_Assemble.j2, Bool.false_eq_true, if_false, w]
    · simp only [Bool.false_eq_true, if_false, w]
      exact Ev.now _
end
theorem wrap16_range (x : Int) : 0 ≤ IntKind.u16.wrap x ∧ IntKind.u16.wrap x < 65536 := by
  have e : IntKind.u16.wrap x = x % 65536 := by simp [IntKind.wrap, IntKind.bits, IntKind.signed]
  rw [e]
  omega
theorem asm_both (x1 : Int) (lines : List (List UInt8)) (hlines : ∀ x ∈ lines, x.length ≤ 100000) (hn : lines.length ≤ 100000) : ∀ (d j : Nat) (out : List Int), j + d = lines.length → out.length ≤ 1024 →
    ∃ r : List Int × Int, Ev (fun k => spec_Assemble.l0 k x1 (lines.map BA) out (j : Int)) r ∧ Ev (fun k => impl_Assemble.l0 k x1 out (lines.map BA) (lines.length : Int) (j : Int)) r ∧ r.1.length ≤ 1024
  | 0, j, out, h, ho => by
    refine ⟨(out, 0), Ev.step (f := fun _ => some (out, 0)) (fun k => ?_) (Ev.now _), Ev.step (f := fun _ => some (out, 0)) (fun k => ?_) (Ev.now _), ho⟩
    · simp only [spec_Assemble.l0, List.length_map]
      rw [if_neg (by omega)]
    · simp only [impl_Assemble.l0]
      rw [if_neg (by omega)]
  | d + 1, j, out, h, ho => by
    have hj : j < lines.length := by omega
    have ih := fun out' ho' => asm_both x1 lines hlines hn d (j + 1) out' (by omega) ho'
    have hj63 : j < 9223372036854775807 := by omega
    obtain ⟨l, hl⟩ : ∃ l, lines[j] = l := ⟨_, rfl⟩
    have hll : l.length ≤ 100000 := by rw [← hl]; exact hlines _ (List.getElem_mem hj)
    have hrd : rdOf ByteArray.empty (lines.map BA) (j : Int) = BA l := by
      unfold rdOf
      rw [Int.toNat_natCast, List.getD_eq_getElem?_getD, List.getElem?_map, List.getElem?_eq_getElem hj, hl]
      rfl
    have hst := spec_text l (by omega)
    have htl := tx_le l
    have hp := wrap16_range (x1 + (IntKind.u16.wrap ((out.length : Int))))
    obtain ⟨i1, i2, i3⟩ := impl_line l (by omega) (IntKind.u16.wrap (x1 + (IntKind.u16.wrap ((out.length : Int)))))
    have et : (BA (tx l)).toList = tx l := by rw [toList_data]
    have hz : ((BA (tx l)).size : Int) = ((tx l).length : Int) := by rw [size_list]
    have e7 : ((BA (tx l)).extract 0 7).toList = (tx l).take 7 := by rw [toList_data, cut_list]; simp
    have d7 : (BA (tx l)).extract 7 (BA (tx l)).size = BA ((tx l).drop 7) := by
      rw [cut_list, size_list, List.take_of_length_le (by simp)]
    -- the program's step, over a line's bytes
    have impl_step : ∀ (L' : List Int) (ok : Bool) (r : List Int × Int), Ev (fun k => impl_lineBytes.f k (BA l) (IntKind.u16.wrap (x1 + (IntKind.u16.wrap ((out.length : Int)))))) (L', ok) →
        Ev (fun k => if ok = true then (if (wrap64 ((out.length : Int) + (L'.length : Int))) > 1024 then (some (([] : List Int), wrap64 ((j : Int) + 1))) else (if out.length + L'.length < 140737488355328 then (impl_Assemble.l0 k x1 (out ++ L') (lines.map BA) (lines.length : Int) (wrap64 ((j : Int) + 1))) else (none))) else (some (([] : List Int), wrap64 ((j : Int) + 1)))) r →
        Ev (fun k => impl_Assemble.l0 k x1 out (lines.map BA) (lines.length : Int) (j : Int)) r := fun L' ok r hb hr => by
      refine Ev.step (f := fun k => (impl_lineBytes.f k (BA l) (IntKind.u16.wrap (x1 + (IntKind.u16.wrap ((out.length : Int)))))).bind fun bt378 => (if bt378.2 = true then (if (wrap64 ((out.length : Int) + (bt378.1.length : Int))) > 1024 then (some (([] : List Int), wrap64 ((j : Int) + 1))) else (if out.length + bt378.1.length < 140737488355328 then (impl_Assemble.l0 k x1 (out ++ bt378.1) (lines.map BA) (lines.length : Int) (wrap64 ((j : Int) + 1))) else (none))) else (some (([] : List Int), wrap64 ((j : Int) + 1))))) (fun k => ?_) ?_
      · simp only [impl_Assemble.l0, hrd, List.length_map]
        rw [if_pos (by omega), if_pos (by omega), if_pos (by omega)]
      · exact Ev.bind hb hr
    -- the reference's step, over what is read
    have spec_step : ∀ (R : List Int × Bool) (r : List Int × Int), ¬ tx l = [] → Ev (fun k => spec_ReadOp.f k (BA (tx l)) (IntKind.u16.wrap (x1 + (IntKind.u16.wrap ((out.length : Int)))))) R →
        (if (tx l).length = 9 ∧ (tx l).take 7 = P7 ∧ rh (BA ((tx l).drop 7)) 2 ≥ 0 then Ev (fun k => spec_Assemble.j2 k x1 (lines.map BA) out (j : Int) [rh (BA ((tx l).drop 7)) 2 % 256] true) r else Ev (fun k => spec_Assemble.j2 k x1 (lines.map BA) out (j : Int) R.1 R.2) r) →
        Ev (fun k => spec_Assemble.l0 k x1 (lines.map BA) out (j : Int)) r := fun R r hne hR hr => by
      have no : ¬ ((tx l).length = 9 ∧ (tx l).take 7 = P7 ∧ rh (BA ((tx l).drop 7)) 2 ≥ 0) → Ev (fun k => spec_Assemble.j1 k x1 (lines.map BA) out (j : Int) (BA (tx l)) R.1 R.2 false) r := fun c => by
        rw [if_neg c] at hr
        refine Ev.step (fun k => ?_) hr
        simp only [spec_Assemble.j1, Bool.false_eq_true, if_false]
      refine Ev.step (f := fun k => (spec_l04Line.f k (BA l)).bind fun t251 => (if t251.toList = ([] : List UInt8) then (spec_Assemble.l0 k x1 (lines.map BA) out (wrap64 ((j : Int) + 1))) else ((spec_ReadOp.f k t251 (IntKind.u16.wrap (x1 + (IntKind.u16.wrap ((out.length : Int)))))).bind fun bt252 => (if (t251.size : Int) = 9 then (if 0 ≤ 7 then (if 7 ≤ (t251.size : Int) then (if (t251.extract 0 7).toList = ([46, 98, 121, 116, 101, 32, 36] : List UInt8) then ((spec_ReadHex.f k (t251.extract 7 t251.size) 2).bind fun t256 => (spec_Assemble.j1 k x1 (lines.map BA) out (j : Int) t251 bt252.1 bt252.2 (decide (t256 ≥ 0)))) else (spec_Assemble.j1 k x1 (lines.map BA) out (j : Int) t251 bt252.1 bt252.2 false)) else (none)) else (none)) else (spec_Assemble.j1 k x1 (lines.map BA) out (j : Int) t251 bt252.1 bt252.2 false))))) (fun k => ?_) ?_
      · simp only [spec_Assemble.l0, hrd, List.length_map]
        rw [if_pos (by omega), if_pos (by omega)]
      · refine Ev.bind hst ?_
        simp only [et, if_neg hne]
        refine Ev.bind hR ?_
        simp only [hz, e7, d7]
        by_cases c9 : (tx l).length = 9
        · simp only [if_pos (show ((tx l).length : Int) = 9 by omega), if_pos (show (0 : Nat) ≤ 7 by omega), if_pos (show (0 : Int) ≤ 7 by omega), if_pos (show (7 : Int) ≤ ((tx l).length : Int) by omega)]
          by_cases c7 : (tx l).take 7 = P7
          · simp only [if_pos c7]
            refine Ev.bind (spec_rh _ 2 (by omega)) ?_
            by_cases cn : rh (BA ((tx l).drop 7)) 2 ≥ 0
            · rw [if_pos ⟨c9, c7, cn⟩] at hr
              simp only [decide_eq_true cn]
              refine Ev.step (f := fun k => (spec_ReadHex.f k (BA ((tx l).drop 7)) 2).bind fun t257 => (spec_Assemble.j2 k x1 (lines.map BA) out (j : Int) (([(t257) % 256] : List Int)) true)) (fun k => ?_) ?_
              · simp only [spec_Assemble.j1, if_true, hz, d7]
                rw [if_pos (by omega)]
              · exact Ev.bind (spec_rh _ 2 (by omega)) hr
            · simp only [decide_eq_false cn]
              exact no (fun x => cn x.2.2)
          · simp only [if_neg c7]
            exact no (fun x => c7 x.2.1)
        · simp only [if_neg (show ¬ ((tx l).length : Int) = 9 by omega)]
          exact no (fun x => c9 x.1)
    by_cases c0 : tx l = []
    · obtain ⟨r, h1, h2, h3⟩ := ih out ho
      refine ⟨r, ?_, ?_, h3⟩
      · refine Ev.step (f := fun k => (spec_l04Line.f k (BA l)).bind fun t251 => (if t251.toList = ([] : List UInt8) then (spec_Assemble.l0 k x1 (lines.map BA) out ((j + 1 : Nat) : Int)) else ((spec_ReadOp.f k t251 (IntKind.u16.wrap (x1 + (IntKind.u16.wrap ((out.length : Int)))))).bind fun bt252 => (if (t251.size : Int) = 9 then (if 0 ≤ 7 then (if 7 ≤ (t251.size : Int) then (if (t251.extract 0 7).toList = ([46, 98, 121, 116, 101, 32, 36] : List UInt8) then ((spec_ReadHex.f k (t251.extract 7 t251.size) 2).bind fun t256 => (spec_Assemble.j1 k x1 (lines.map BA) out (j : Int) t251 bt252.1 bt252.2 (decide (t256 ≥ 0)))) else (spec_Assemble.j1 k x1 (lines.map BA) out (j : Int) t251 bt252.1 bt252.2 false)) else (none)) else (none)) else (spec_Assemble.j1 k x1 (lines.map BA) out (j : Int) t251 bt252.1 bt252.2 false))))) (fun k => ?_) ?_
        · have w := w1 hj63
          simp only [spec_Assemble.l0, hrd, List.length_map, w]
          clear w
          rw [if_pos (by omega), if_pos (by omega)]
        · refine Ev.bind hst ?_
          simp only [et, if_pos c0]
          exact h1
      · refine impl_step [] true r (i1 c0) ?_
        have g1 : ¬ (out.length : Int) > 1024 := by omega
        have g2 : out.length + ([] : List Int).length < 140737488355328 := by rw [List.length_nil]; omega
        have lo1 : -9223372036854775808 ≤ (out.length : Int) + ((([] : List Int).length : Nat) : Int) := by rw [List.length_nil]; omega
        have hi1 : (out.length : Int) + ((([] : List Int).length : Nat) : Int) ≤ 9223372036854775807 := by rw [List.length_nil]; omega
        have cast : (out.length : Int) + ((([] : List Int).length : Nat) : Int) = (out.length : Int) := by rw [List.length_nil]; omega
        have w := w1 hj63
        have wo : wrap64 ((out.length : Int) + ((([] : List Int).length : Nat) : Int)) = (out.length : Int) := (wrap_in lo1 hi1).trans cast
        simp only [if_true, wo, if_neg g1, if_pos g2, w, List.append_nil]
        exact h2
    · by_cases c7 : (tx l).take 7 = P7
      · have hd : (tx l).head? = some 46 := by
          have e : (tx l).take 7 = P7 := c7
          cases hq : tx l with
          | nil => exact absurd hq c0
          | cons a q =>
            rw [hq] at e
            have := List.cons.inj e
            rw [this.1]
            rfl
        obtain ⟨n1, n2⟩ := dot_none (tx l) (by omega) hd _ hp
        by_cases cn : rh (BA ((tx l).drop 7)) 2 ≥ 0
        · have c9 : (tx l).length = 9 := by
            have h2 := rh_pos _ 2 cn
            rw [size_list, List.length_drop] at h2
            omega
          obtain ⟨r, s1, s2, s3⟩ := step_both x1 (lines.map BA) (lines.length : Int) j (by omega) out ho [rh (BA ((tx l).drop 7)) 2 % 256] (by simp) true ih
          refine ⟨r, spec_step _ r c0 n1 (by rw [if_pos ⟨c9, c7, cn⟩]; exact s1), ?_, s3⟩
          have hb := i2 c0 c7
          rw [decide_eq_true cn] at hb
          exact impl_step _ true r hb (s2 _ (fun _ => rfl))
        · obtain ⟨r, s1, s2, s3⟩ := step_both x1 (lines.map BA) (lines.length : Int) j (by omega) out ho [] (by simp) false ih
          refine ⟨r, spec_step _ r c0 n1 (by rw [if_neg (fun x => cn x.2.2)]; exact s1), ?_, s3⟩
          have hb := i2 c0 c7
          rw [decide_eq_false cn] at hb
          exact impl_step _ false r hb (s2 _ (fun x => absurd x (by decide)))
      · obtain ⟨R, e1, e2, hR⟩ := readOp_both (BA (tx l)) (by rw [size_list]; omega) _ hp
        have hlen : R.1.length ≤ 3 := by
          rcases hR with h | ⟨i, _, _, h, _⟩
          · rw [h]; simp
          · rw [h]
            show (BI _ _ _).length ≤ 3
            rw [len_BI]
            exact sz_le _
        obtain ⟨L, ok⟩ := R
        obtain ⟨r, s1, s2, s3⟩ := step_both x1 (lines.map BA) (lines.length : Int) j (by omega) out ho L hlen ok ih
        refine ⟨r, spec_step _ r c0 e1 (by rw [if_neg (fun x => c7 x.2.1)]; exact s1), ?_, s3⟩
        exact impl_step L ok r (i3 c0 c7 _ e2) (s2 L (fun _ => rfl))
theorem assemble_both (s : ByteArray) (x1 : Int) : ∃ r : List Int × Int, Ev (fun k => spec_Assemble.f k s x1) r ∧ Ev (fun k => impl_Assemble.f k s x1) r ∧ r.1.length ≤ 1024 := by
  by_cases c : (s.size : Int) > 20000
  · refine ⟨([], 1), ?_, ?_, by simp⟩
    · unfold spec_Assemble.f
      simp only [if_pos c]
      exact Ev.now _
    · unfold impl_Assemble.f
      simp only [if_pos c]
      exact Ev.now _
  · obtain ⟨l, rfl⟩ : ∃ l, s = BA l := ⟨s.data.toList, BA_data s⟩
    have hl : l.length ≤ 20000 := by rw [size_list] at c; omega
    have hlen := ls_len l []
    have hsz := ls_size l []
    obtain ⟨r, h1, h2, h3⟩ := asm_both x1 (ls [] l) (fun x hx => by have := hsz x hx; simp at this; omega) (by omega) (ls [] l).length 0 [] (by omega) (by simp)
    refine ⟨r, ?_, ?_, h3⟩
    · unfold spec_Assemble.f
      simp only [if_neg c]
      exact Ev.bind (spec_lines l (by omega)) h1
    · unfold impl_Assemble.f
      simp only [if_neg c, impl_lines l (by omega), Option.bind_some, List.length_map]
      exact h2
theorem FnExactAssemble : laws_FnExactAssemble.Pure := by
  intro a0 a1 _ hw
  refine Ev.rounds (g := fun k => laws_FnExactAssemble.f k a0 a1) ?_
  unfold laws_FnExactAssemble.f
  by_cases c : (a0.size : Int) > 1048576
  · simp only [if_pos c]
    exact Ev.now _
  · obtain ⟨⟨L, b⟩, e1, e2, hlen⟩ := assemble_both a0 a1
    have hlen' : L.length ≤ 1024 := hlen
    have h3 := eqByteS_ev L (by omega)
    have h6 := markByteS_ev L 1 (by omega) (by omega)
    have h7 := heldByteS_ev L.length 1 (by omega) (by omega)
    have hb : (b != b) = false := by simp
    simp only [if_neg c]
    refine Ev.bind e1 (Ev.bind e2 (Ev.bind h3 ?_))
    simp only [if_true, hb]
    refine Ev.step (fun k => by simp only [laws_FnExactAssemble.j0, Bool.false_eq_true, if_false]; rfl) ?_
    refine Ev.bind h6 (Ev.bind h7 ?_)
    simp only [if_neg (show ¬ ((1 + L.length : Nat) : Int) < 0 by omega), if_true]
    refine Ev.bind e2 (Ev.bind h3 ?_)
    simp only [if_true, hb]
    refine Ev.step (fun k => by simp only [laws_FnExactAssemble.j1, Bool.false_eq_true, if_false]; rfl) ?_
    refine Ev.bind h7 ?_
    simp only [if_neg (show ¬ ((1 + L.length : Nat) : Int) < 0 by omega), if_true]
    exact Ev.now true
end Go.Proofs.YtlglpolokcnlhaaDoor.Pure
