/-
FnSmall behind its draw: bytes that are a small form are that of what they tell, and no others.
-/
import Derived.Test.YtnoelppkcbelcaaMSx7
import Derived.Test.YtnoelppkcbelcaaSUnsqWhat
set_option linter.unusedSimpArgs false
set_option linter.unusedVariables false
namespace Go.Proofs.Ytnoelppkcbelcaa.Pure
open Go.RowKit Go.Proofs.Ytnoelppkcbelcaa.MS Go.Proofs.Ytnoelppkcbelcaa.MSH Go.Proofs.YtnoelppkcbelcaaW.PrintWords Go.Proofs.YtnoelppkcbelcaaW.PrintLast Go.Proofs.Ytnoelppkcbelcaa.Bit Go.Proofs.Ytnoelppkcbelcaa.Lst
theorem sameBytes_ev (l : List Int) (hl : l.length < 9223372036854775807) : Ev (fun k => laws_sameBytes.f k l l) true := by
  have h := ev_for (r := true) l.length (fun k i => laws_sameBytes.l0 k l l i)
    (fun k => by
      simp only [laws_sameBytes.l0]
      rw [if_neg (by omega)])
    (fun i hi k => by
      simp only [laws_sameBytes.l0, if_true]
      rw [if_pos (by omega), if_pos (by omega), if_pos (by omega), w1 (by omega)])
  refine Ev.congr (fun k => ?_) h
  unfold laws_sameBytes.f
  rw [if_pos rfl]
  rfl
theorem FnSmall (b : List Int) (hb : BIn b) : ∃ k, laws_FnSmall.f k b = some true := by
  refine Ev.rounds (g := fun k => laws_FnSmall.f k b) ?_
  obtain ⟨R, ok, h1, h2, h3, h4⟩ := unsq_what b hb
  simp only [laws_FnSmall.f]
  refine Ev.bind h2 (Ev.bind h1 ?_)
  simp only [bne_self_eq_false, Bool.false_eq_true, if_false]
  cases ok with
  | true =>
    obtain ⟨c1, c2, c3⟩ := h3 rfl
    have h5 := impl_squeeze_ev R c1 c2
    rw [sqTo_all, ← c3] at h5
    have hlen := (sqTo_len R R.length).2
    rw [sqTo_all, ← c3] at hlen
    simp only [if_true]
    refine Ev.bind h5 (Ev.bind (sameBytes_ev b (by omega)) ?_)
    simp only [if_true]
    exact Ev.now true
  | false =>
    simp only [Bool.false_eq_true, if_false]
    rw [h4 rfl]
    exact Ev.now true
end Go.Proofs.Ytnoelppkcbelcaa.Pure
