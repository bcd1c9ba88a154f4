/-
Touched: the program tells the addresses as the reference does, for all cycles.
-/
import Derived.Test.YtfahgmdnmceleaaMDx0
import Derived.Test.YtfahgmdnmceleaaMDx3
import Derived.Test.YtfahgmdnmceleaaMDx4
import Derived.Test.YtfahgmdnmceleaaDTouchSame
import Derived.Test.YtfahgmdnmceleaaDHarnU16
import Derived.Test.YtfahgmdnmceleaaDHarnCycMark
set_option linter.unusedSimpArgs false
set_option linter.unusedVariables false
namespace Go.Proofs.Ytfahgmdnmceleaa.Pure
open Go.RowKit Go.Proofs.Ytfahgmdnmceleaa Go.Proofs.Ytfahgmdnmceleaa.MD Go.Proofs.Ytfahgmdnmceleaa.MDH Go.Proofs.YtfahgmdnmceleaaW.PrintWords Go.Proofs.YtfahgmdnmceleaaW.PrintLast Go.Proofs.Ytfahgmdnmceleaa.Bit Go.Proofs.Ytfahgmdnmceleaa.Lst
theorem j0_ev (l : List S39) (w : Bool) (r : List Int) (hl : l.length * 4 ≤ 140737488351232) (hr : r.length ≤ 65536) (hi : Ev (fun k => impl_Touched.f k (l.map cycOf) w) r) : Ev (fun k => laws_FnExactTouched.j0 k l w r r false) true := by
  have hc := toCycS_ev l hl
  have he := eqUint16S_ev r (by omega)
  have hm := markUint16S_ev r 1 (by omega) (by omega)
  have hh := heldUint16S_ev r.length 1 (by omega) (by omega)
  refine Ev.step (fun k => by rw [laws_FnExactTouched.j0]) ?_
  simp only [Bool.false_eq_true, if_false]
  refine Ev.bind hm (Ev.bind hh ?_)
  simp only [if_neg (show ¬ ((1 + r.length : Nat) : Int) < 0 by omega), if_true]
  refine Ev.bind hc (Ev.bind hi (Ev.bind he ?_))
  simp only [if_true]
  refine Ev.bind hh ?_
  simp only [if_neg (show ¬ ((1 + r.length : Nat) : Int) < 0 by omega), if_true]
  exact Ev.now true
theorem FnExactTouched : laws_FnExactTouched.Pure := by
  intro l w hmx hl hg
  refine Ev.rounds (g := fun k => laws_FnExactTouched.f k l w) ?_
  by_cases hs : l.length ≤ 1048576
  · have hsz := szCycS_yes l 1048576 hs (by omega)
    simp only [laws_FnExactTouched.f, show ((1048576 : Int)) = ((1048576 : Nat) : Int) from rfl, hsz, Option.bind_some]
    simp only [if_neg (show ¬ ((1048576 - l.length : Nat) : Int) < 0 by omega)]
    have hc := toCycS_ev l hl
    have hml : (l.map cycOf).length = l.length := by simp
    have hin := inR_map hg
    have hi := impl_touched_ev (l.map cycOf) w (by omega) hin
    have hsp := spec_touched_ev (l.map cycOf) w (by omega) hin
    have hlen := asc_len (sel (l.map cycOf) w)
    generalize AscF.asc (sel (l.map cycOf) w) = r at hi hsp hlen
    have he := eqUint16S_ev r (by omega)
    have h4 := eqCycS_ev (l.map cycOf) (by omega)
    have h5 := markCycS_ev (l.map cycOf) 1 (by omega) (by omega)
    refine Ev.bind hc (Ev.bind hsp (Ev.bind hc (Ev.bind hi (Ev.bind he ?_))))
    simp only [if_true]
    refine Ev.bind hc (Ev.bind h4 ?_)
    simp only [if_true]
    refine Ev.bind h5 ?_
    simp only [if_neg (show ¬ ((1 + 3 * (l.map cycOf).length : Nat) : Int) < 0 by omega)]
    refine Ev.bind he ?_
    simp only [Bool.not_true]
    exact j0_ev l w r hl hlen hi
  · have hsz := szCycS_no l 1048576 (by omega) (by omega) hl
    simp only [laws_FnExactTouched.f, show ((1048576 : Int)) = ((1048576 : Nat) : Int) from rfl, hsz, Option.bind_some]
    exact Ev.now true
end Go.Proofs.Ytfahgmdnmceleaa.Pure
