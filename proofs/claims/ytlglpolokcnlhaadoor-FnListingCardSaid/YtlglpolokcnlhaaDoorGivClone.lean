/-
What the walks take of Go's library at this seat, more of it: slices.Clone at bytes.
-/
import Derived.Test.YtlglpolokcnlhaaDoorProg
import Derived.Test.YtlglpolokcnlhaaDoorWAll
import Derived.Lib.SliceRun
import Derived.WalkKit
set_option linter.unusedVariables false
set_option linter.unusedSimpArgs false
namespace Go.Proofs.YtlglpolokcnlhaaDoor.Giv
open Go.RowKit Go.Proofs.YtlglpolokcnlhaaDoorW.PrintWords
def cloneB (l0 : List Int) : Option (List Int) := if 0 < l0.length ∧ l0.length ≤ 1000 then some l0 else none
set_option maxHeartbeats 2000000 in
set_option maxRecDepth 100000 in
theorem cloneB_calls (A0 : Option Addr) (c0 : Nat) (l0 : List Int) (r : List Int) (w : World) (hr0 : Kd.C (Kd.int .u8) w A0 l0.length l0) (hc0 : l0.length ≤ c0) (h : cloneB l0 = some r) :
    Calls Tryd.prog 33 #[.slice A0 l0.length c0] w fun e w' => ∃ v0_ : Value, e = .returned (v0_) ∧ Kd.R (Kd.int .u8) 5 w' w.heap.size (fun _ => True) v0_ r ∧ Below w.heap.size w w' := by
  unfold cloneB at h
  split at h
  · rename_i hc
    obtain rfl := Option.some.inj h
    clear h
    obtain ⟨_, _, hpos⟩ := hr0
    obtain ⟨ad, rfl, hcell⟩ := hpos hc.1
    clear hpos
    have A := Aside0.mk (show ∀ j u, (l0.map (Value.int .u8))[j]? = some u → w.cell? (ad.add j) = some u from fun j u hj => by
      rw [List.getElem?_map] at hj
      obtain ⟨x, hx, rfl⟩ := Option.map_eq_some_iff.mp hj
      obtain ⟨c, _, hR, hcs⟩ := hcell j x hx
      have e : c = [Value.int .u8 x] := hR
      have := hcs 0 (Value.int .u8 x) (by rw [e]; rfl)
      simpa [Kd.int, Kd.scalar] using this)
    clear hcell
    obtain ⟨i0, hi, hz, hs, hby⟩ : ∃ i0, Tryd.prog.info? 5 = some i0 ∧ i0.zero = some (.int .u8 0) ∧ i0.size = 1 ∧ i0.bytes = 1 := by
      have e : (Tryd.prog.info? 5).map (fun i => (i.zero, i.size, i.bytes)) = some (some (.int .u8 0), 1, 1) := by kernel_rfl
      obtain ⟨i, h1, h2⟩ := Option.map_eq_some_iff.mp e
      simp only [Prod.mk.injEq] at h2
      exact ⟨i, h1, h2.1, h2.2.1, h2.2.2⟩
    have q23 : ∀ (w : World) (a : Option Addr) (n c n' c' : Nat), (binOp .eql 23 (.slice a n c) (.slice none n' c')).run Tryd.prog w = .ok (.bool a.isNone) w := fun w a n c n' c' => Lib.run_eql_slice_nil w _ _ a n c n' c' Tryd.underlying23
    have u23 : ∀ w, Sem.run Tryd.prog (underlying 23) w = .ok (TypeDesc.slice 5) w := run_underlying Tryd.underlying23
    go_enter Tryd.func33, Tryd.ntmps33
    go_wp2_with (at_builtin; refine wpList_append_own _ rfl _ _ 23 rfl w.heap.size 5 i0 (.int .u8 0) 1 1 Tryd.underlying23 hi hz hs hby rfl (by decide) _ _ _ rfl (World.ownsRow_made w #[] 0 (Nat.le_refl _) (Nat.zero_le _) (by simp)) ad l0.length c0 (l0.map (Value.int .u8)) rfl (by simp) ?qc2 ?qc3 ?qc4 ?qc5 (Nat.le_of_lt (by simp)) ?_)
    case qc2 =>
      first
      | (intro j u hj; exact Lib.cell?_alloc_some _ (A.out j u hj))
      | (intro j x hj; exact Lib.cell?_alloc_some _ (A.out j (.int .u8 x) (by rw [List.getElem?_map, hj]; rfl)))
      | (intro j u x hj e; exact Lib.cell?_alloc_some _ (A.out j u (by rw [List.getElem?_map, hj]; simpa using e)))
    case qc3 =>
      first
      | (intro x hx; rfl)
      | (intro u hu; obtain ⟨x, _, rfl⟩ := List.mem_map.mp hu; rfl)
    case qc4 => simp only [maxLen]; omega
    case qc5 => omega
    intro v' w1 hown hgrow hnil
    go_wp2
    go_ret
    refine ⟨v', rfl, ?_, ?_⟩
    · refine Kd.R_of_own ?_ (fun _ _ => trivial)
      simpa [encs] using hown
    · exact ((Below.refl _ w).alloc (Nat.le_refl _) _).grown hgrow (by simp) (by intro k hk; simp [Value.ownBlock] at hk; omega)
  · exact absurd h (by simp)
end Go.Proofs.YtlglpolokcnlhaaDoor.Giv
