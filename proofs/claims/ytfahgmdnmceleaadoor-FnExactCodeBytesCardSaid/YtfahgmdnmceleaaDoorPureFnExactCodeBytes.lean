/-
CodeBytes: the program tells the addresses of the bytes of all operations as the reference does, for all cycles and all starts.
-/
import Derived.Test.YtfahgmdnmceleaaDoorMDx0
import Derived.Test.YtfahgmdnmceleaaDoorMDx7
import Derived.Test.YtfahgmdnmceleaaDoorMDx9
import Derived.Test.YtfahgmdnmceleaaDoorDBytesSame
import Derived.Test.YtfahgmdnmceleaaDoorDHarnU16
import Derived.Test.YtfahgmdnmceleaaDoorDHarnIntN
import Derived.Test.YtfahgmdnmceleaaDoorDHarnToInt
import Derived.Test.YtfahgmdnmceleaaDoorDHarnCyc
import Derived.Test.YtfahgmdnmceleaaDoorDHarnCycMark
set_option linter.unusedSimpArgs false
set_option linter.unusedVariables false
namespace Go.Proofs.YtfahgmdnmceleaaDoor.Pure
open Go.RowKit Go.Proofs.YtfahgmdnmceleaaDoor Go.Proofs.YtfahgmdnmceleaaDoor.MD Go.Proofs.YtfahgmdnmceleaaDoor.MDH Go.Proofs.YtfahgmdnmceleaaDoor.MDO Go.Proofs.YtfahgmdnmceleaaDoor.MDS Go.Proofs.YtfahgmdnmceleaaDoorW.PrintWords Go.Proofs.YtfahgmdnmceleaaDoorW.PrintLast Go.Proofs.YtfahgmdnmceleaaDoor.Bit Go.Proofs.YtfahgmdnmceleaaDoor.Lst
theorem j0_ev (l : List S47) (s : List Int) (r : List Int) (hl : l.length * 4 ≤ 140737488351232) (hs : s.length * 8 ≤ 140737488351232) (hr : r.length ≤ 65536) (hi : Ev (fun k => impl_CodeBytes.f k (l.map cycOf) s) r) : Ev (fun k => laws_FnExactCodeBytes.j0 k l s r r false) true := by
  have hc := toCycS_ev l hl
  have ht := toIntS_ev s hs
  have he := eqUint16S_ev r (by omega)
  have hm := markUint16S_ev r 1 (by omega) (by omega)
  have hh := heldUint16S_ev r.length 1 (by omega) (by omega)
  refine Ev.step (fun k => by rw [laws_FnExactCodeBytes.j0]) ?_
  simp only [Bool.false_eq_true, if_false]
  refine Ev.bind hm (Ev.bind hh ?_)
  simp only [if_neg (show ¬ ((1 + r.length : Nat) : Int) < 0 by omega), if_true]
  refine Ev.bind hc (Ev.bind ht (Ev.bind hi (Ev.bind he ?_)))
  simp only [if_true]
  refine Ev.bind hh ?_
  simp only [if_neg (show ¬ ((1 + r.length : Nat) : Int) < 0 by omega), if_true]
  exact Ev.now true
theorem FnExactCodeBytes : laws_FnExactCodeBytes.Pure := by
  intro l s hmx hl hg hsm hsl hsw
  refine Ev.rounds (g := fun k => laws_FnExactCodeBytes.f k l s) ?_
  by_cases hs1 : s.length ≤ 1048576
  · have hn : ¬ (s.length : Int) > 1048576 := by omega
    simp only [laws_FnExactCodeBytes.f, if_neg hn]
    by_cases hs : l.length ≤ 1048576
    · have hsz := szCycS_yes l 1048576 hs (by omega)
      simp only [show ((1048576 : Int)) = ((1048576 : Nat) : Int) from rfl, hsz, Option.bind_some]
      simp only [if_neg (show ¬ ((1048576 - l.length : Nat) : Int) < 0 by omega)]
      have hc := toCycS_ev l hl
      have ht := toIntS_ev s hsl
      have hml : (l.map cycOf).length = l.length := by simp
      have hin := inR_map hg
      have hi := impl_f_ev (l.map cycOf) s (by omega) hs1 hin
      have hsp := spec_f_ev (l.map cycOf) s (by omega) hs1 hin
      have hlen := codeBytes_len (l.map cycOf) s
      generalize codeBytes (l.map cycOf) s = r at hi hsp hlen
      have he := eqUint16S_ev r (by omega)
      have h4 := eqCycS_ev (l.map cycOf) (by omega)
      have h4s := eqIntS_ev s (by omega)
      have h5 := markCycS_ev (l.map cycOf) 1 (by omega) (by omega)
      have h5s := markIntS_ev s (1 + 3 * (l.map cycOf).length) (by omega) (by omega)
      refine Ev.bind hc (Ev.bind ht (Ev.bind hsp (Ev.bind hc (Ev.bind ht (Ev.bind hi (Ev.bind he ?_))))))
      simp only [if_true]
      refine Ev.bind hc (Ev.bind h4 ?_)
      simp only [if_true]
      refine Ev.bind ht (Ev.bind h4s ?_)
      simp only [if_true]
      refine Ev.bind h5 (Ev.bind h5s ?_)
      simp only [if_neg (show ¬ ((1 + 3 * (l.map cycOf).length + s.length : Nat) : Int) < 0 by omega)]
      refine Ev.bind he ?_
      simp only [Bool.not_true]
      exact j0_ev l s r hl hsl hlen hi
    · have hsz := szCycS_no l 1048576 (by omega) (by omega) hl
      simp only [show ((1048576 : Int)) = ((1048576 : Nat) : Int) from rfl, hsz, Option.bind_some]
      exact Ev.now true
  · have hy : (s.length : Int) > 1048576 := by omega
    simp only [laws_FnExactCodeBytes.f, if_pos hy]
    exact Ev.now true
end Go.Proofs.YtfahgmdnmceleaaDoor.Pure
