/-
The law FnCodes as a statement on numbers alone: a byte that is an operation is found again by its name and mode, and its size and kind fit; all 256 bytes reckoned.
-/
import Derived.Test.YtfbhgmpgkhmikaaDoorMKx3
import Derived.Test.YtfbhgmpgkhmikaaDoorMKx4
import Derived.Test.YtfbhgmpgkhmikaaDoorMKx5
import Derived.Test.YtfbhgmpgkhmikaaDoorKCodeFirst
import Derived.Test.YtfbhgmpgkhmikaaDoorKDrawNew
set_option linter.unusedSimpArgs false
namespace Go.Proofs.YtfbhgmpgkhmikaaDoor.Pure
open Go.RowKit Go.Proofs.YtfbhgmpgkhmikaaDoor.MK Go.Proofs.YtfbhgmpgkhmikaaDoorW.PrintWords Go.Proofs.YtfbhgmpgkhmikaaDoorW.PrintLast Go.Proofs.YtfbhgmpgkhmikaaDoor.MKO Go.Proofs.YtfbhgmpgkhmikaaDoor.MKD

set_option maxRecDepth 100000 in
theorem bytes_all : ∀ i : Fin 256, impl_NameOf.f 20 (i.val : Int) = some (nm i.val) ∧ impl_ModeOf.f 20 (i.val : Int) = some (md i.val)
    ∧ ((nm i.val).toList = [] → md i.val = -1 ∧ impl_SizeOf.f 20 (i.val : Int) = some 0 ∧ impl_KindOf.f 20 (i.val : Int) = some 0)
    ∧ (¬ (nm i.val).toList = [] → (impl_SizeOf.f 20 (i.val : Int)).any (fun s => decide (1 ≤ s) && decide (s ≤ 3)) = true ∧ (impl_KindOf.f 20 (i.val : Int)).any (fun s => s != 0) = true) := by decide +kernel
theorem any_some {α : Type} {o : Option α} {p : α → Bool} (h : o.any p = true) : ∃ x, o = some x ∧ p x = true := by
  cases o with
  | none => simp at h
  | some x => exact ⟨x, rfl, by simpa using h⟩
theorem codes_one (i : Nat) (hi : i < 256) : Ev (fun k => laws_FnCodes.j0 k (i : Int) (nm i) (md i) false) true := by
  obtain ⟨_, _, h3, h4⟩ := bytes_all ⟨i, hi⟩
  simp only at h3 h4
  by_cases e : (nm i).toList = []
  · obtain ⟨e1, e2, e3⟩ := h3 e
    refine Ev.step (f := fun k => (impl_SizeOf.f k (i : Int)).bind fun t => if t = 0 then ((impl_KindOf.f k (i : Int)).bind fun u => some (u == 0)) else some false) (fun k => ?_) ?_
    · simp only [laws_FnCodes.j0, Bool.false_eq_true, if_false]
      rw [if_pos e, if_pos e1]
    · refine Ev.bind (Ev.of (fun k => impl_SizeOf.mono _ k) e2) ?_
      simp only [if_true]
      refine Ev.bind (Ev.of (fun k => impl_KindOf.mono _ k) e3) ?_
      exact Ev.now _
  · obtain ⟨e1, e2⟩ := h4 e
    obtain ⟨s, s1, s2⟩ := any_some e1
    obtain ⟨u, u1, u2⟩ := any_some e2
    have hs : 1 ≤ s ∧ s ≤ 3 := by simpa using s2
    have hc := code_of i hi e
    have hw : Go.RowKit.wrap64 (i : Int) = (i : Int) := Lst.wrap_in (by omega) (by omega)
    have evs : Ev (fun k => impl_SizeOf.f k (i : Int)) s := Ev.of (fun k => impl_SizeOf.mono _ k) s1
    refine Ev.step (f := fun k => (impl_CodeOf.f k (nm i) (md i)).bind fun t => if t = (i : Int) then ((impl_SizeOf.f k (i : Int)).bind fun t => if t ≥ 1 then ((impl_SizeOf.f k (i : Int)).bind fun t => if t ≤ 3 then ((impl_KindOf.f k (i : Int)).bind fun u => some (u != 0)) else some false) else some false) else some false) (fun k => ?_) ?_
    · simp only [laws_FnCodes.j0, Bool.false_eq_true, if_false]
      rw [if_neg e, hw]
    · refine Ev.bind (impl_codeOf _ _) ?_
      rw [hc]
      simp only [if_true]
      refine Ev.bind evs ?_
      simp only [ge_iff_le, hs.1, if_true]
      refine Ev.bind evs ?_
      simp only [hs.2, if_true]
      refine Ev.bind (Ev.of (fun k => impl_KindOf.mono _ k) u1) ?_
      rw [u2]
      exact Ev.now _
theorem FnCodes : laws_FnCodes.Pure := by
  intro l0 h0 h1 h2
  refine Ev.rounds (g := fun k => laws_FnCodes.f k l0) ?_
  unfold laws_FnCodes.f laws_big.f
  simp only [Option.bind_some]
  by_cases hb : (l0.length : Int) > 1048576
  · simp only [hb, decide_true, if_true]
    exact Ev.now _
  · simp only [hb, decide_false, Bool.false_eq_true, if_false]
    obtain ⟨hh, hn⟩ := new_ev l0 (by omega)
    obtain ⟨x, i', h', hx, _⟩ := byte_some l0 0 hh (by omega) (by omega)
    have hd : Ev (fun k => spec_DrawNameOf.f k l0) (x % 256) := by
      unfold spec_DrawNameOf.f
      refine Ev.bind hn ?_
      simp only [hx, Option.bind_some]
      exact Ev.now _
    obtain ⟨i, hi, he⟩ : ∃ i : Nat, i < 256 ∧ x % 256 = (i : Int) := ⟨(x % 256).toNat, by omega, by omega⟩
    rw [he] at hd
    obtain ⟨a1, a2, _, _⟩ := bytes_all ⟨i, hi⟩
    refine Ev.bind hd (Ev.bind (Ev.of (fun k => impl_NameOf.mono _ k) a1) (Ev.bind (Ev.of (fun k => impl_ModeOf.mono _ k) a2) (Ev.bind (name_ev hi) ?_)))
    simp only [if_true]
    refine Ev.bind (mode_ev hi) ?_
    simp only [bne_self_eq_false]
    exact codes_one i hi

end Go.Proofs.YtfbhgmpgkhmikaaDoor.Pure
