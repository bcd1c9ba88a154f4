/-
CodeBytes: the reference's marks and the program's addresses of code come from one list.
-/
import Derived.Test.YtfahgmdnmceleaaDoorMDx0
import Derived.Test.YtfahgmdnmceleaaDoorMDx2
import Derived.Test.YtfahgmdnmceleaaDoorMDx3
import Derived.Test.YtfahgmdnmceleaaDoorMDx4
import Derived.Test.YtfahgmdnmceleaaDoorMDx6
import Derived.Test.YtfahgmdnmceleaaDoorMDx7
import Derived.Test.YtfahgmdnmceleaaDoorMDx10
import Derived.Test.YtfahgmdnmceleaaDoorDRiseSameH
import Derived.Test.YtfahgmdnmceleaaDoorDMarkAll
import Derived.Test.YtfahgmdnmceleaaDoorDCycRange
set_option linter.unusedSimpArgs false
set_option linter.unusedVariables false
namespace Go.Proofs.YtfahgmdnmceleaaDoor.MDS
open Go.Proofs.YtfahgmdnmceleaaDoor Go.RowKit Go.Proofs.YtfahgmdnmceleaaDoor.MD Go.Proofs.YtfahgmdnmceleaaDoorW.PrintWords Go.Proofs.YtfahgmdnmceleaaDoorW.PrintLast Go.Proofs.YtfahgmdnmceleaaDoor.Lst Go.Proofs.YtfahgmdnmceleaaDoor.MDO Go.Proofs.YtfahgmdnmceleaaDoor.MDH
abbrev at' (l : L) (i : Nat) := rd_T44 l (i : Int)
theorem in_at {l : L} (h : ∀ x ∈ l, InR x) {i : Nat} (hi : i < l.length) : (0 ≤ (at' l i).f0 ∧ (at' l i).f0 < 65536) ∧ (0 ≤ (at' l i).f1 ∧ (at' l i).f1 < 256) := inR_rd h hi
def szN (j : Nat) : Int := (spec_SizeOf.f 20 (j : Int)).getD 0
set_option maxRecDepth 100000 in
theorem sz_all : ∀ i : Fin 256, impl_SizeOf.f 20 (i.val : Int) = some (szN i.val) ∧ spec_SizeOf.f 20 (i.val : Int) = some (szN i.val) ∧ (0 ≤ szN i.val ∧ szN i.val ≤ 3) := by decide +kernel
theorem sz_impl {j : Nat} (h : j < 256) : Ev (fun k => impl_SizeOf.f k (j : Int)) (szN j) := Ev.of (fun k => impl_SizeOf.mono _ k) (sz_all ⟨j, h⟩).1
theorem sz_spec {j : Nat} (h : j < 256) : Ev (fun k => spec_SizeOf.f k (j : Int)) (szN j) := Ev.of (fun k => spec_SizeOf.mono _ k) (sz_all ⟨j, h⟩).2.1
def isOpB (l : L) (i : Nat) : Bool := !serveB l i && ((nm (at' l i).f1.toNat).toList != ([] : List UInt8))
theorem spec_op (l : L) (hl : l.length ≤ 1048576) (hr : ∀ x ∈ l, InR x) (i : Nat) (h : i < l.length) : Ev (fun k => spec_l14Op.f k l (i : Int)) ((at' l i).f1, isOpB l i) := by
  obtain ⟨_, h0, h1⟩ := in_at hr h
  obtain ⟨j, hj⟩ : ∃ j : Nat, (at' l i).f1 = (j : Int) := ⟨(at' l i).f1.toNat, by omega⟩
  by_cases c : serveB l i = true
  · refine Ev.congr (f := fun _ => some ((at' l i).f1, isOpB l i)) (fun k => ?_) (Ev.now _)
    unfold spec_l14Op.f isOpB
    rw [if_pos (by omega), if_pos (by omega), serve_spec l hl i h, Option.bind_some, if_pos c, c]
    rfl
  · refine Ev.congr (f := fun k => (spec_NameOf.f k (j : Int)).bind fun t => some ((at' l i).f1, (t.toList != ([] : List UInt8)))) (fun k => ?_) ?_
    · unfold spec_l14Op.f
      rw [if_pos (by omega), if_pos (by omega), serve_spec l hl i h, Option.bind_some, if_neg c, show (rd_T44 l (i : Int)).f1 = (j : Int) from hj]
    · refine Ev.bind (name_ev (by omega)) ?_
      rw [show isOpB l i = ((nm j).toList != ([] : List UInt8)) by unfold isOpB; rw [Bool.not_eq_true] at c; rw [c, hj, Int.toNat_natCast]; rfl]
      exact Ev.now _
theorem impl_op (l : L) (hl : l.length ≤ 1048576) (hr : ∀ x ∈ l, InR x) (i : Nat) (h : i < l.length) : Ev (fun k => impl_isOperation.f k l (i : Int)) (isOpB l i) := by
  obtain ⟨_, h0, h1⟩ := in_at hr h
  obtain ⟨j, hj⟩ : ∃ j : Nat, (at' l i).f1 = (j : Int) := ⟨(at' l i).f1.toNat, by omega⟩
  by_cases c : serveB l i = true
  · refine Ev.congr (f := fun _ => some (isOpB l i)) (fun k => ?_) (Ev.now _)
    unfold impl_isOperation.f isOpB
    rw [serve_impl l hl i h, Option.bind_some, if_pos c, c]
    rfl
  · refine Ev.congr (f := fun k => (impl_NameOf.f k (j : Int)).bind fun t => some (t.toList != ([] : List UInt8))) (fun k => ?_) ?_
    · unfold impl_isOperation.f
      rw [serve_impl l hl i h, Option.bind_some, if_neg c, if_pos (by omega), if_pos (by omega), show (rd_T44 l (i : Int)).f1 = (j : Int) from hj]
    · refine Ev.bind (a := nm j) ?_ ?_
      · exact Ev.bind (op_ev (by omega)) (Ev.now _)
      · rw [show isOpB l i = ((nm j).toList != ([] : List UInt8)) by unfold isOpB; rw [Bool.not_eq_true] at c; rw [c, hj, Int.toNat_natCast]; rfl]
        exact Ev.now _
def emitN (l : L) (i q : Nat) : List Int := (List.range q).map (fun z : Nat => ((at' l i).f0 + (z : Int)) % 65536)
def emit (l : L) (i : Nat) : List Int := if isOpB l i = true then emitN l i (szN (at' l i).f1.toNat).toNat else []
theorem emitN_step (l : L) (i q : Nat) : emitN l i (q + 1) = emitN l i q ++ [((at' l i).f0 + (q : Int)) % 65536] := by
  unfold emitN
  rw [List.range_succ, List.map_append]
  rfl
def outs (l : L) (s : List Int) : Nat → List Int
  | 0 => []
  | j + 1 => outs l s j ++ emit l (rd s (j : Int)).toNat
theorem emitN_range (l : L) (i q : Nat) : ∀ x ∈ emitN l i q, 0 ≤ x ∧ x < 65536 := by
  intro x hx
  unfold emitN at hx
  obtain ⟨z, _, rfl⟩ := List.mem_map.1 hx
  omega
theorem emit_range (l : L) (i : Nat) : ∀ x ∈ emit l i, 0 ≤ x ∧ x < 65536 := by
  intro x hx
  unfold emit at hx
  by_cases c : isOpB l i = true
  · rw [if_pos c] at hx; exact emitN_range l i _ x hx
  · rw [if_neg c] at hx; cases hx
theorem outs_range (l : L) (s : List Int) : ∀ j, ∀ x ∈ outs l s j, 0 ≤ x ∧ x < 65536
  | 0, x, hx => by cases hx
  | j + 1, x, hx => by
    rw [outs, List.mem_append] at hx
    rcases hx with h | h
    · exact outs_range l s j x h
    · exact emit_range l _ x h
theorem emit_len (l : L) (hr : ∀ x ∈ l, InR x) (i : Nat) (hi : i < l.length) : (emit l i).length ≤ 3 := by
  obtain ⟨_, h0, h1⟩ := in_at hr hi
  unfold emit
  by_cases c : isOpB l i = true
  · rw [if_pos c]
    unfold emitN
    rw [List.length_map, List.length_range]
    have h2 := (sz_all ⟨(at' l i).f1.toNat, by omega⟩).2.2
    simp only at h2
    omega
  · rw [if_neg c]; simp
theorem outs_len (l : L) (hr : ∀ x ∈ l, InR x) (s : List Int) (hin : ∀ j, j < s.length → inB l s j = true) : ∀ j, j ≤ s.length → (outs l s j).length ≤ 3 * j
  | 0, _ => by simp [outs]
  | j + 1, h => by
    have h1 := outs_len l hr s hin j (by omega)
    have h2 := hin j (by omega)
    unfold inB at h2
    simp only [Bool.and_eq_true, decide_eq_true_eq] at h2
    have h3 := emit_len l hr (rd s (j : Int)).toNat (by omega)
    rw [outs, List.length_append]
    omega
theorem small_of {l : List Int} (h : ∀ x ∈ l, 0 ≤ x ∧ x < 65536) : AscF.small l = true := by
  unfold AscF.small
  rw [List.all_eq_true]
  intro x hx
  obtain ⟨h0, h1⟩ := h x hx
  rw [decide_eq_true h0, decide_eq_true h1]
  rfl
theorem wrap_add {a : Int} {q : Nat} (h0 : 0 ≤ a) (h1 : a < 65536) (hq : q ≤ 3) : IntKind.u16.wrap (a + IntKind.u16.wrap (q : Int)) = (a + (q : Int)) % 65536 := by
  simp [IntKind.wrap, IntKind.bits, IntKind.signed]
theorem and_mask {z : Int} (h0 : 0 ≤ z) (h1 : z < 1000000) : Go.bits .and .i64 z 65535 = z % 65536 := by
  obtain ⟨n, rfl⟩ := Int.eq_ofNat_of_zero_le h0
  have e : Go.bits .and .i64 (n : Int) 65535 = IntKind.i64.wrap ((BitVec.ofInt 64 (n : Int) &&& BitVec.ofInt 64 65535).toNat : Int) := rfl
  rw [e, BitVec.toNat_and]
  have e1 : (BitVec.ofInt 64 (n : Int)).toNat = n := by
    rw [BitVec.toNat_ofInt]
    omega
  have e2 : (BitVec.ofInt 64 65535).toNat = 2 ^ 16 - 1 := by decide
  rw [e1, e2, Nat.and_two_pow_sub_one_eq_mod]
  have : n % 2 ^ 16 < 2 ^ 16 := Nat.mod_lt _ (by decide)
  simp [IntKind.wrap, IntKind.bits, IntKind.signed]
  omega
theorem spec_l1 (l : L) (s : List Int) (hr : ∀ x ∈ l, InR x) (hs : s.length ≤ 1048576) (O : List Int) {j i c : Nat} (hj : j < s.length) (hi : i < l.length) (e : rd s (j : Int) = (i : Int)) (hc : c < 256) {r : List Int}
    (h : Ev (fun k => spec_CodeBytes.l0 k l s (marks 65536 (O ++ emitN l i (szN c).toNat)) ((j + 1 : Nat) : Int)) r) :
    ∀ d q, q + d = (szN c).toNat → Ev (fun k => spec_CodeBytes.l1 k l s (marks 65536 (O ++ emitN l i q)) (j : Int) (c : Int) true (q : Int)) r
  | 0, q, hq => by
    have hz := (sz_all ⟨c, hc⟩).2.2
    simp only at hz
    refine Ev.step (fun k => by rw [spec_CodeBytes.l1]) ?_
    refine Ev.bind (sz_spec hc) ?_
    simp only [if_neg (show ¬ ((q : Int) < szN c) by omega)]
    rw [w1 (by omega)]
    obtain rfl : q = (szN c).toNat := by omega
    exact h
  | d + 1, q, hq => by
    have ih := spec_l1 l s hr hs O hj hi e hc h d (q + 1) (by omega)
    have hz := (sz_all ⟨c, hc⟩).2.2
    simp only at hz
    obtain ⟨⟨a0, a1⟩, _⟩ := in_at hr hi
    have hb : Go.bits .and .i64 (wrap64 (wrap64 ((rd_T44 l (i : Int)).f0) + (q : Int))) 65535 = ((at' l i).f0 + (q : Int)) % 65536 := by
      show Go.bits .and .i64 (wrap64 (wrap64 ((at' l i).f0) + (q : Int))) 65535 = _
      rw [wrap_in (i := (at' l i).f0) (by omega) (by omega), wrap_in (by omega) (by omega), and_mask (by omega) (by omega)]
    refine Ev.step (fun k => by rw [spec_CodeBytes.l1]) ?_
    refine Ev.bind (sz_spec hc) ?_
    simp only [if_pos (show (q : Int) < szN c by omega), if_true, e, hb, w1 (show q < 9223372036854775807 by omega)]
    simp only [if_pos (show (0 : Int) ≤ (j : Int) by omega), if_pos (show (j : Int) < (s.length : Int) by omega), if_pos (show (0 : Int) ≤ (i : Int) by omega), if_pos (show (i : Int) < (l.length : Int) by omega), marks_len]
    generalize hx : ((at' l i).f0 + (q : Int)) % 65536 = x
    have x0 : 0 ≤ x := by omega
    have x1 : x < ((65536 : Nat) : Int) := by omega
    simp only [if_pos x0, if_pos x1]
    rw [marks_set 65536 _ x x0 x1, List.append_assoc, ← hx, ← emitN_step]
    exact ih
theorem spec_main (l : L) (s : List Int) (hl : l.length ≤ 1048576) (hr : ∀ x ∈ l, InR x) (hs : s.length ≤ 1048576) (hin : ∀ j, j < s.length → inB l s j = true) :
    ∀ d j, j + d = s.length → Ev (fun k => spec_CodeBytes.l0 k l s (marks 65536 (outs l s j)) (j : Int)) (AscF.asc (outs l s s.length))
  | 0, j, hj => by
    obtain rfl : j = s.length := by omega
    refine Ev.step (fun k => by rw [spec_CodeBytes.l0]) ?_
    simp only [if_neg (show ¬ ((s.length : Int) < (s.length : Int)) by omega)]
    exact Ev.bind (f := fun _ t => some t) (all_ev 65536 (Nat.le_refl _) _) (Ev.now _)
  | d + 1, j, hj => by
    have ih := spec_main l s hl hr hs hin d (j + 1) (by omega)
    have h2 := hin j (by omega)
    unfold inB at h2
    simp only [Bool.and_eq_true, decide_eq_true_eq] at h2
    obtain ⟨i, hi⟩ : ∃ i : Nat, rd s (j : Int) = (i : Int) := ⟨(rd s (j : Int)).toNat, by omega⟩
    have hil : i < l.length := by omega
    obtain ⟨_, c0, c1⟩ := in_at hr hil
    obtain ⟨c, hc⟩ : ∃ c : Nat, (at' l i).f1 = (c : Int) := ⟨(at' l i).f1.toNat, by omega⟩
    have hc2 : c < 256 := by have : (at' l i).f1 < 256 := c1; omega
    have ho : outs l s (j + 1) = outs l s j ++ emit l i := by rw [outs, hi, Int.toNat_natCast]
    refine Ev.step (fun k => by rw [spec_CodeBytes.l0]) ?_
    simp only [if_pos (show (j : Int) < (s.length : Int) by omega), if_pos (show (0 : Int) ≤ (j : Int) by omega), hi]
    refine Ev.bind (spec_op l hl hr i hil) ?_
    simp only [hc]
    cases co : isOpB l i with
    | true =>
      have he : emit l i = emitN l i (szN c).toNat := by unfold emit; rw [if_pos co, hc, Int.toNat_natCast]
      have h := spec_l1 l s hr hs (outs l s j) (j := j) (by omega) hil hi hc2 (by rw [← he, ← ho]; exact ih) (szN c).toNat 0 (by omega)
      rw [show emitN l i 0 = [] from rfl, List.append_nil] at h
      exact h
    | false =>
      have he : emit l i = [] := by unfold emit; rw [if_neg (by rw [co]; simp)]
      rw [ho, he, List.append_nil] at ih
      refine Ev.step (fun k => by rw [spec_CodeBytes.l1]) ?_
      refine Ev.bind (sz_spec hc2) ?_
      simp only [Bool.false_eq_true, if_false, ite_self]
      rw [w1 (by omega)]
      exact ih
theorem impl_l1 (l : L) (s : List Int) (hr : ∀ x ∈ l, InR x) (hs : s.length ≤ 1048576) (O : List Int) (hO : O.length ≤ 3145728) {j i c : Nat} (hj : j < s.length) (hi : i < l.length) (hc : c < 256) {r : List Int}
    (h : Ev (fun k => impl_CodeBytes.l0 k l (O ++ emitN l i (szN c).toNat) s (s.length : Int) ((j + 1 : Nat) : Int)) r) :
    ∀ d q, q + d = (szN c).toNat → Ev (fun k => impl_CodeBytes.l1 k l (O ++ emitN l i q) (i : Int) s (s.length : Int) (j : Int) (szN c) (q : Int)) r
  | 0, q, hq => by
    have hz := (sz_all ⟨c, hc⟩).2.2
    simp only at hz
    refine Ev.step (fun k => by rw [impl_CodeBytes.l1]) ?_
    simp only [if_neg (show ¬ ((q : Int) < szN c) by omega)]
    rw [w1 (by omega)]
    obtain rfl : q = (szN c).toNat := by omega
    exact h
  | d + 1, q, hq => by
    have ih := impl_l1 l s hr hs O hO hj hi hc h d (q + 1) (by omega)
    have hz := (sz_all ⟨c, hc⟩).2.2
    simp only at hz
    obtain ⟨⟨a0, a1⟩, _⟩ := in_at hr hi
    have hn : (O ++ emitN l i q).length < 70368744177664 := by
      rw [List.length_append]
      unfold emitN
      rw [List.length_map, List.length_range]
      omega
    refine Ev.step (fun k => by rw [impl_CodeBytes.l1]) ?_
    simp only [if_pos (show (q : Int) < szN c by omega), if_pos (show (0 : Int) ≤ (i : Int) by omega), if_pos (show (i : Int) < (l.length : Int) by omega), if_pos hn, w1 (show q < 9223372036854775807 by omega)]
    rw [wrap_add a0 a1 (by omega), List.append_assoc, ← emitN_step]
    exact ih
theorem impl_main (l : L) (s : List Int) (hl : l.length ≤ 1048576) (hr : ∀ x ∈ l, InR x) (hs : s.length ≤ 1048576) (hin : ∀ j, j < s.length → inB l s j = true) :
    ∀ d j, j + d = s.length → Ev (fun k => impl_CodeBytes.l0 k l (outs l s j) s (s.length : Int) (j : Int)) (AscF.asc (outs l s s.length))
  | 0, j, hj => by
    obtain rfl : j = s.length := by omega
    have hn := outs_len l hr s hin s.length (Nat.le_refl _)
    refine Ev.step (f := fun _ => some (AscF.asc (outs l s s.length))) (fun k => ?_) (Ev.now _)
    rw [impl_CodeBytes.l0, if_neg (by omega)]
    unfold impl_ascending.f
    rw [if_pos (by omega), if_pos (small_of (outs_range l s s.length))]
    rfl
  | d + 1, j, hj => by
    have ih := impl_main l s hl hr hs hin d (j + 1) (by omega)
    have h2 := hin j (by omega)
    unfold inB at h2
    simp only [Bool.and_eq_true, decide_eq_true_eq] at h2
    obtain ⟨i, hi⟩ : ∃ i : Nat, rd s (j : Int) = (i : Int) := ⟨(rd s (j : Int)).toNat, by omega⟩
    have hil : i < l.length := by omega
    obtain ⟨_, c0, c1⟩ := in_at hr hil
    obtain ⟨c, hc⟩ : ∃ c : Nat, (at' l i).f1 = (c : Int) := ⟨(at' l i).f1.toNat, by omega⟩
    have hc2 : c < 256 := by have : (at' l i).f1 < 256 := c1; omega
    have ho : outs l s (j + 1) = outs l s j ++ emit l i := by rw [outs, hi, Int.toNat_natCast]
    refine Ev.step (fun k => by rw [impl_CodeBytes.l0]) ?_
    simp only [if_pos (show (j : Int) < (s.length : Int) by omega), if_pos (show (0 : Int) ≤ (j : Int) by omega), hi]
    refine Ev.bind (impl_op l hl hr i hil) ?_
    cases co : isOpB l i with
    | true =>
      have he : emit l i = emitN l i (szN c).toNat := by unfold emit; rw [if_pos co, hc, Int.toNat_natCast]
      have hn := outs_len l hr s hin j (by omega)
      have h := impl_l1 l s hr hs (outs l s j) (j := j) (by omega) (by omega) hil hc2 (by rw [← he, ← ho]; exact ih) (szN c).toNat 0 (by omega)
      rw [show emitN l i 0 = [] from rfl, List.append_nil] at h
      simp only [if_true, if_pos (show (0 : Int) ≤ (i : Int) by omega), if_pos (show (i : Int) < (l.length : Int) by omega), hc]
      exact Ev.bind (sz_impl hc2) h
    | false =>
      have he : emit l i = [] := by unfold emit; rw [if_neg (by rw [co]; simp)]
      rw [ho, he, List.append_nil] at ih
      simp only [Bool.false_eq_true, if_false]
      rw [w1 (by omega)]
      exact ih
/-- The addresses of the bytes of all operations. -/
def codeBytes (l : L) (s : List Int) : List Int := if riseB l s s.length 0 = true then AscF.asc (outs l s s.length) else []
theorem codeBytes_len (l : L) (s : List Int) : (codeBytes l s).length ≤ 65536 := by
  unfold codeBytes
  by_cases c : riseB l s s.length 0 = true
  · rw [if_pos c]; exact upTo_len _ 65536
  · rw [if_neg c]; simp
theorem spec_f_ev (l : L) (s : List Int) (hl : l.length ≤ 1048576) (hs : s.length ≤ 1048576) (hr : ∀ x ∈ l, InR x) : Ev (fun k => spec_CodeBytes.f k l s) (codeBytes l s) := by
  unfold spec_CodeBytes.f
  simp only [if_pos (show (65536 : Nat) ≤ 281474976710656 by decide)]
  refine Ev.bind (spec_rise l s hl hs s.length 0 (by omega)) ?_
  unfold codeBytes
  by_cases c : riseB l s s.length 0 = true
  · have h := spec_main l s hl hr hs (fun j hj => rise_in l s s.length 0 c j (by omega) (by omega)) s.length 0 (by omega)
    rw [show outs l s 0 = [] from rfl, marks_nil] at h
    simp only [c, if_true]
    exact h
  · simp only [c, if_false]
    exact Ev.now _
theorem impl_f_ev (l : L) (s : List Int) (hl : l.length ≤ 1048576) (hs : s.length ≤ 1048576) (hr : ∀ x ∈ l, InR x) : Ev (fun k => impl_CodeBytes.f k l s) (codeBytes l s) := by
  unfold impl_CodeBytes.f
  refine Ev.bind (impl_rise l s hl hs s.length 0 (by omega)) ?_
  unfold codeBytes
  by_cases c : riseB l s s.length 0 = true
  · have h := impl_main l s hl hr hs (fun j hj => rise_in l s s.length 0 c j (by omega) (by omega)) s.length 0 (by omega)
    simp only [c, if_true]
    exact h
  · simp only [c, if_false]
    exact Ev.now _
end Go.Proofs.YtfahgmdnmceleaaDoor.MDS
