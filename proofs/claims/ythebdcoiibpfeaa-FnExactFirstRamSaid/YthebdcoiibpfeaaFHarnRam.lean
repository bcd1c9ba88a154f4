/-
The laws' helpers over a memory: one list of bytes.
-/
import Derived.Test.YthebdcoiibpfeaaMFx2
import Derived.Test.YthebdcoiibpfeaaFHarnByte
set_option linter.unusedSimpArgs false
set_option linter.unusedVariables false
namespace Go.Proofs.Ythebdcoiibpfeaa.MFH
open Go.RowKit Go.Proofs.Ythebdcoiibpfeaa.MF Go.Proofs.YthebdcoiibpfeaaW.PrintWords Go.Proofs.YthebdcoiibpfeaaW.PrintLast Go.Proofs.Ythebdcoiibpfeaa.Bit Go.Proofs.Ythebdcoiibpfeaa.Lst

theorem eqRam_ev (l : List Int) (hl : l.length < 9223372036854775807) : Ev (fun k => laws_eqRam.f k l l) true := by
  simp only [laws_eqRam.f]
  refine Ev.bind (eqByteS_ev l hl) ?_
  simp only [if_true]
  exact Ev.now true
theorem markRam_ev (l : List Int) (a : Nat) (hl : l.length ≤ 1000000000000000) (ha : a ≤ 1000000000000000) : Ev (fun k => laws_markRam.f k l a) (((a + l.length : Nat) : Int), (List.range l.length).map (markByte a)) := by
  simp only [laws_markRam.f]
  exact Ev.bind (markByteS_ev l a hl ha) (Ev.now _)
theorem heldRam_ev (n a : Nat) (hl : n ≤ 1000000000000000) (ha : a ≤ 1000000000000000) : Ev (fun k => laws_heldRam.f k ((List.range n).map (markByte a)) a) ((a + n : Nat) : Int) := by
  simp only [laws_heldRam.f]
  refine Ev.bind (heldByteS_ev n a hl ha) ?_
  simp only [if_neg (show ¬ ((a + n : Nat) : Int) < 0 by omega)]
  exact Ev.now _
end Go.Proofs.Ythebdcoiibpfeaa.MFH
