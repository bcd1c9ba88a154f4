/-
The law FnExactBefore as a statement on numbers alone: for every list of cycles, place and knowledge the program's Before answers what the reference's does.
-/
import Derived.Test.YtaclekdigolhkaaDoorMCx0
import Derived.Test.YtaclekdigolhkaaDoorMCx10
import Derived.Test.YtaclekdigolhkaaDoorMCx12
import Derived.Test.YtaclekdigolhkaaDoorCHarnCyc
import Derived.Test.YtaclekdigolhkaaDoorCBeforeSame
namespace Go.Proofs.YtaclekdigolhkaaDoor.Pure
open Go.RowKit Go.Proofs.YtaclekdigolhkaaDoor.MC Go.Proofs.YtaclekdigolhkaaDoor.MCH Go.Proofs.YtaclekdigolhkaaDoorW.PrintWords Go.Proofs.YtaclekdigolhkaaDoorW.PrintLast
theorem eqKnow_self (a0 a1 a2 a3 a4 a5 a6 a7 a8 a9 a10 : Int) : laws_eqKnow.f a0 a1 a2 a3 a4 a5 a6 a7 a8 a9 a10 a0 a1 a2 a3 a4 a5 a6 a7 a8 a9 a10 = some true := by
  unfold laws_eqKnow.f
  simp
theorem FnExactBefore : laws_FnExactBefore.Pure := by
  intro l p v a0 a1 a2 a3 a4 a5 a6 a7 a8 a9 a10 b0 b1 b2 b3 b4 b5 b6 b7 b8 b9 b10 hm hl hg w0' w1' w2' w3' w4' w5' w6' w7' w8' w9' w10' w11' w12' w13' w14' w15' w16' w17' w18' w19' w20' w21' w22'
  refine Ev.rounds (g := fun k => laws_FnExactBefore.f k l p v a0 a1 a2 a3 a4 a5 a6 a7 a8 a9 a10 b0 b1 b2 b3 b4 b5 b6 b7 b8 b9 b10) ?_
  by_cases hs : l.length ≤ 1048576
  · have hsz := szCycS_yes l 1048576 hs (by omega)
    have hc := toCycS_ev l hl
    have hml : (l.map cycOf).length = l.length := by simp
    have hr : ∀ i : Int, 0 ≤ i → i < ((l.map cycOf).length : Int) → 0 ≤ (rd_T40 (l.map cycOf) i).f1 ∧ (rd_T40 (l.map cycOf) i).f1 ≤ 255 := by
      intro i h0 h1
      obtain ⟨n, rfl⟩ : ∃ n : Nat, i = n := ⟨i.toNat, by omega⟩
      have hn : n < l.length := by omega
      rw [rd_cyc_of l n hn, cycOf_f1]
      have he : rd_T47 l (n : Int) = l[n] := by unfold rd_T47; rw [Int.toNat_natCast, List.getD_eq_getElem?_getD, List.getElem?_eq_getElem hn]; rfl
      rw [he]
      have := (hg l[n] (List.getElem_mem hn)).2
      simpa [Lit.wf, IntKind.min, IntKind.max, IntKind.bits, IntKind.signed] using this
    have h1 := spec_bef (l.map cycOf) p v a0 a1 a2 a3 a4 a5 a6 a7 a8 a9 a10 b0 b1 b2 b3 b4 b5 b6 b7 b8 b9 b10 (by omega) hr
    have h2 := impl_bef (l.map cycOf) p v a0 a1 a2 a3 a4 a5 a6 a7 a8 a9 a10 b0 b1 b2 b3 b4 b5 b6 b7 b8 b9 b10 (by omega) hr
    have h4 := eqCycS_ev (l.map cycOf) (by omega)
    simp only [laws_FnExactBefore.f, show ((1048576 : Int)) = ((1048576 : Nat) : Int) from rfl, hsz, Option.bind_some]
    simp only [if_neg (show ¬ ((1048576 - l.length : Nat) : Int) < 0 by omega)]
    refine Ev.bind hc (Ev.bind h1 (Ev.bind h2 ?_))
    simp only [eqKnow_self, Option.bind_some]
    refine Ev.bind h4 ?_
    exact Ev.congr (fun k => if_pos (by simp)) (Ev.now true)
  · have hsz := szCycS_no l 1048576 (by omega) (by omega) hl
    simp only [laws_FnExactBefore.f, show ((1048576 : Int)) = ((1048576 : Nat) : Int) from rfl, hsz, Option.bind_some]
    exact Ev.now true
end Go.Proofs.YtaclekdigolhkaaDoor.Pure
