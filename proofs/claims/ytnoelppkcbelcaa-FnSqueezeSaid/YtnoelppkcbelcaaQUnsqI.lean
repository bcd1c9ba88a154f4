/-
Cycles out of their small form: the same on both sides, for all bytes.
-/
import Derived.Test.YtnoelppkcbelcaaMQx2
import Derived.Test.YtnoelppkcbelcaaMQx3
import Derived.Test.YtnoelppkcbelcaaMQx4
import Derived.Test.YtnoelppkcbelcaaQUnsqReadI
set_option linter.unusedSimpArgs false
set_option linter.unusedVariables false
namespace Go.Proofs.Ytnoelppkcbelcaa.MQH
open Go.RowKit Go.Proofs.Ytnoelppkcbelcaa.MQ Go.Proofs.YtnoelppkcbelcaaW.PrintWords Go.Proofs.YtnoelppkcbelcaaW.PrintLast Go.Proofs.Ytnoelppkcbelcaa.Bit Go.Proofs.Ytnoelppkcbelcaa.Lst

def BIn (s : List Int) : Prop := ∀ x ∈ s, 0 ≤ x ∧ x < 256
theorem Ev.thru {α β : Type} {g : Nat → Option α} {a : α} {F f : Nat → Option β} {r : β} (h : Ev g a) (e : ∀ k, g k = some a → F (k + 1) = f k) (hf : Ev f r) : Ev F r := by
  obtain ⟨K, hK⟩ := h
  obtain ⟨K2, hK2⟩ := hf
  refine ⟨K + K2 + 1, fun k hk => ?_⟩
  obtain ⟨j, rfl⟩ : ∃ j, k = j + 1 := ⟨k - 1, by omega⟩
  rw [e j (hK j (by omega))]
  exact hK2 j (by omega)
theorem rd_at (s : List Int) (i : Nat) : rd s (i : Int) = at_ s i := by
  unfold rd at_
  rw [Int.toNat_natCast]
theorem zc_ok : CyOk zc := ⟨⟨by simp [zc], by simp [zc]⟩, by simp [zc], by simp [zc]⟩
theorem at_app {s t : List Int} {j : Nat} (h : j < s.length) : at_ (s ++ t) j = at_ s j := by
  unfold at_
  simp [List.getD_eq_getElem?_getD, List.getElem?_append_left h]
theorem dLen_head {s t : List Int} (h : at_ s 0 = at_ t 0) : dLen s = dLen t := by
  unfold dLen
  rw [h]
theorem sq_len_head (a c : Cy) : dLen (sq a c) = (sq a c).length := by
  have := sq_dLen a c []
  rwa [List.append_nil] at this

theorem bin_drop {b : List Int} (h : BIn b) (i : Nat) : BIn (b.drop i) := fun x hx => h x (List.mem_of_mem_drop hx)
/-- The program: what is left to do behind the last byte. -/
def fin (b : List Int) (M : List Cy) (k : Nat) : Option (List Cy × Bool) := (impl_Squeeze.f k M).bind fun t => (bytes_Equal.f t b).bind fun e => if e = true then some (M, true) else some ([], false)
theorem impl_end {b : List Int} {out : List Cy} {a : Cy} {R : List Cy × Bool} (h : Ev (fin b out) R) : Ev (fun k => impl_Unsqueeze.l0 k b out [] a.f0 a.f1 a.f2) R := by
  refine Ev.step (fun k => ?_) h
  simp only [impl_Unsqueeze.l0, fin]
  rw [if_neg (by simp)]
theorem impl_read_ev {a : Cy} {s : List Int} (ha : CyOk a) (h : BIn s) (h0 : 0 < s.length) (hl : s.length ≤ 4800) : Ev (fun k => impl_unsqueeze.f k a.f0 a.f1 a.f2 s) ((D a s).1.f0, (D a s).1.f1, (D a s).1.f2, ((D a s).2 : Int)) := by
  refine ⟨2, fun k hk => ?_⟩
  obtain ⟨j, rfl⟩ : ∃ j, k = j + 2 := ⟨k - 2, by omega⟩
  exact impl_unsq ha h h0 hl j
theorem impl_fail {a : Cy} {b s : List Int} {out : List Cy} (ha : CyOk a) (h : BIn s) (h0 : 0 < s.length) (hl : s.length ≤ 4800) (hz : (D a s).2 = 0) : Ev (fun k => impl_Unsqueeze.l0 k b out s a.f0 a.f1 a.f2) ([], false) :=
  Ev.thru (impl_read_ev ha h h0 hl) (f := fun _ => some ([], false)) (fun k hk => by
    simp only [impl_Unsqueeze.l0]
    rw [if_pos (by omega), hk, Option.bind_some, if_pos (by simp only []; omega)]) (Ev.now _)
theorem impl_round {a : Cy} {b s : List Int} {out : List Cy} {R : List Cy × Bool} (ha : CyOk a) (h : BIn s) (h0 : 0 < s.length) (hl : s.length ≤ 4800) (hz : (D a s).2 ≠ 0) (hle : (D a s).2 ≤ s.length) (ho : out.length ≤ 4800)
    (hR : Ev (fun k => impl_Unsqueeze.l0 k b (out ++ [(D a s).1]) (s.drop (D a s).2) (D a s).1.f0 (D a s).1.f1 (D a s).1.f2) R) : Ev (fun k => impl_Unsqueeze.l0 k b out s a.f0 a.f1 a.f2) R :=
  Ev.thru (impl_read_ev ha h h0 hl) (fun k hk => by
    simp only [impl_Unsqueeze.l0]
    rw [if_pos (by omega), hk, Option.bind_some, if_neg (by simp only []; omega), if_pos (by omega), if_pos (by simp only []; omega), if_pos (by simp only []; omega)]
    simp only [Int.toNat_natCast]) hR
theorem impl_yes {b : List Int} {R : List Cy × Bool} : ∀ (L out : List Cy) (a : Cy), CyOk a → (∀ x ∈ L, CyOk x) → out.length + L.length ≤ 1200 → (sqFrom a L).length ≤ 4800 → BIn (sqFrom a L) → Ev (fin b (out ++ L)) R → Ev (fun k => impl_Unsqueeze.l0 k b out (sqFrom a L) a.f0 a.f1 a.f2) R
  | [], out, a, ha, hL, ho, hs, hB, hR => by
    rw [List.append_nil] at hR
    exact impl_end hR
  | c :: L, out, a, ha, hL, ho, hs, hB, hR => by
    have hc := hL c (by simp)
    have hq := sq_len a c
    have hD : D a (sqFrom a (c :: L)) = (c, (sq a c).length) := D_sq ha hc _
    have hlen : (sqFrom a (c :: L)).length = (sq a c).length + (sqFrom c L).length := by simp [sqFrom]
    have hd : (sqFrom a (c :: L)).drop (sq a c).length = sqFrom c L := by simp [sqFrom]
    simp only [List.length_cons] at ho
    refine impl_round ha hB (by omega) hs (by rw [hD]; simp only []; omega) (by rw [hD]; simp only []; omega) (by omega) ?_
    rw [hD]
    simp only [hd]
    refine impl_yes L (out ++ [c]) c hc (fun x hx => hL x (by simp [hx])) (by simp; omega) (by omega) (by rw [← hd]; exact bin_drop hB _) ?_
    rw [List.append_assoc]
    exact hR
theorem sqFrom_in : ∀ (L : List Cy) (a : Cy), (∀ x ∈ L, CyOk x) → BIn (sqFrom a L)
  | [], a, h => fun x hx => by simp [sqFrom] at hx
  | c :: L, a, h => by
    intro x hx
    simp only [sqFrom] at hx
    rcases List.mem_append.1 hx with hx | hx
    · exact sq_in (h c (by simp)) x hx
    · exact sqFrom_in L c (fun y hy => h y (by simp [hy])) x hx
theorem fin_short {b : List Int} {M : List Cy} (hb : BIn b) (hM : ∀ x ∈ M, CyOk x) (hl : M.length ≤ 1200) : Ev (fin b M) (if sqFrom zc M = b then (M, true) else ([], false)) := by
  have h := impl_squeeze_ev M hl hM
  rw [sqTo_all] at h
  unfold fin
  refine Ev.bind h ?_
  simp only [bytes_eq (sqFrom_in M zc hM) hb, Option.bind_some]
  by_cases e : sqFrom zc M = b
  · simp only [e, decide_true, if_true]
    exact Ev.now _
  · simp only [e, decide_false, Bool.false_eq_true, if_false]
    exact Ev.now _
theorem impl_back (l : List Cy) (h1 : ∀ x ∈ l, CyOk x) (h2 : l.length ≤ 1200) : Ev (fun k => impl_Unsqueeze.f k (sqFrom zc l)) (l, true) := by
  have hb : BIn (sqFrom zc l) := sqFrom_in l zc h1
  have hl : (sqFrom zc l).length ≤ 4800 := by
    have := (sqTo_len l l.length).2
    rw [sqTo_all] at this
    omega
  have m0 : ∀ k, impl_Unsqueeze.f k (sqFrom zc l) = impl_Unsqueeze.l0 k (sqFrom zc l) [] (sqFrom zc l) zc.f0 zc.f1 zc.f2 := fun k => by
    unfold impl_Unsqueeze.f
    rw [if_neg (by omega)]
    rfl
  have hf := fin_short hb h1 h2
  rw [if_pos rfl] at hf
  exact Ev.congr m0 (impl_yes (b := sqFrom zc l) l [] zc zc_ok h1 (by simpa using h2) hl hb (by simpa using hf))
end Go.Proofs.Ytnoelppkcbelcaa.MQH
