/-
slices.Sort at []uint16: what the walks say of a row of numbers in memory, and of two of them being exchanged.
-/
import Derived.Sort.AssemblyPlain
import Derived.Sort.Row
import Derived.CellFam
import Derived.WalkKit
import Derived.BigGuard
import Derived.BigCall
import Derived.Deep.Draws
import Derived.Deep.QuietTactic
import Derived.BigQuiet
import Derived.BigRegion
import Derived.Deep.LoopGhost
import Derived.Test.YtnoelppkcbelcaaProg
import Derived.Test.YtnoelppkcbelcaaWAll
set_option linter.unusedVariables false
set_option linter.unusedSimpArgs false
namespace Go.Proofs.Ytnoelppkcbelcaa.Srt
open Go.RowKit Go.Proofs.YtnoelppkcbelcaaW.PrintWords Go.Proofs.YtnoelppkcbelcaaW.PrintLast Go.Proofs.YtnoelppkcbelcaaW.PrintMore
abbrev E : Int → Value := Value.int .u16
/-- Behind w the row at (g, off) holds d (it held d0); else nothing has turned but draws. -/
structure Rw (w : World) (g off : Nat) (d0 d : Array Int) (W : World) : Prop where
  size : d.size = d0.size
  eq : ∃ m, W = Sort.putRow E (Sort.ahead w m) g off d
section
variable {w W W2 : World} {g off : Nat} {d0 d d' : Array Int}
theorem Rw.start (h : Sort.Holds E w g off d) : Rw w g off d d w := ⟨rfl, 0, (Sort.putRow_self E _ g off d h).symm⟩
theorem Rw.drewN (h : Rw w g off d0 d W) (q : Nat) : Rw w g off d0 d (W.drewN q) := by
  obtain ⟨hs, m, rfl⟩ := h
  refine ⟨hs, m + q, ?_⟩
  have e : (Sort.putRow E (Sort.ahead w m) g off d).drewN q = Sort.putRow E (Sort.ahead (Sort.ahead w m) q) g off d := by
    rw [Sort.putRow_ahead, Sort.putRow_ahead, Sort.putRow_ahead]
    simp [World.drewN, Sort.ahead, Sort.putRow, Sort.mapBlock]
  rw [e, Sort.ahead_ahead]
theorem Rw.drew (h : Rw w g off d0 d W) : Rw w g off d0 d W.drew := by
  have := h.drewN 1
  exact this
theorem Rw.holds (h0 : Sort.Holds E w g off d0) (h : Rw w g off d0 d W) : Sort.Holds E W g off d := by
  obtain ⟨hs, m, rfl⟩ := h
  exact Sort.holds_putRow E _ g off d0 d (Sort.holds_ahead E w m g off d0 h0) hs
theorem Rw.cell (h0 : Sort.Holds E w g off d0) (h : Rw w g off d0 d W) (t : Nat) (ht : t < d0.size) : W.cell? ⟨g, off + t, none⟩ = some (.int .u16 d[t]!) := ((h.holds h0) t (by rw [h.size]; exact ht)).1
theorem Rw.froz (h0 : Sort.Holds E w g off d0) (h : Rw w g off d0 d W) (t : Nat) (ht : t < d0.size) : W.frozen? ⟨g, off + t, none⟩ = false := ((h.holds h0) t (by rw [h.size]; exact ht)).2
theorem sw_get (d : Array Int) (x y : Nat) (hx : x < d.size) : (d.setIfInBounds x d[y]!)[y]! = d[y]! := by
  by_cases e : y = x
  · subst e
    exact Sort.getElem!_set_same d y _ hx
  · exact Sort.getElem!_set_other d x y _ e
theorem Rw.swcell (h0 : Sort.Holds E w g off d0) (h : Rw w g off d0 d W) (x y : Nat) (hx : x < d0.size) (hy : y < d0.size) : (W.setCell ⟨g, off + x, none⟩ (.int .u16 d[y]!)).cell? ⟨g, off + y, none⟩ = some (.int .u16 d[y]!) := by
  have hH := h.holds h0
  have hs := h.size
  have e : W.setCell ⟨g, off + x, none⟩ (.int .u16 d[y]!) = Sort.putRow E W g off (d.setIfInBounds x d[y]!) := by
    rw [← Sort.putRow_set E W g off d x d[y]! (by omega), Sort.putRow_self E W g off d hH]
  rw [e, Sort.cell?_putRow E W g off d _ hH (by simp) y (by simp; omega), sw_get d x y (by omega)]
theorem Rw.swap (h : Rw w g off d0 d W) (i j : Nat) (hi : i < d0.size) (hj : j < d0.size) : Rw w g off d0 (Sort.swp d i j) ((W.setCell ⟨g, off + i, none⟩ (.int .u16 d[j]!)).setCell ⟨g, off + j, none⟩ (.int .u16 d[i]!)) := by
  obtain ⟨hs, m, rfl⟩ := h
  exact ⟨by rw [Sort.size_swp, hs], m, Sort.putRow_swp E _ g off d i j (by rw [hs]; exact hi) (by rw [hs]; exact hj)⟩
theorem Rw.then_ (h : Rw w g off d0 d W) (k : Rw W g off d d' W2) : Rw w g off d0 d' W2 := by
  obtain ⟨hs, m, rfl⟩ := h
  obtain ⟨hs2, m2, rfl⟩ := k
  refine ⟨hs2.trans hs, m + m2, ?_⟩
  rw [Sort.putRow_ahead_putRow E w m m2 g off d d' hs2]
end
end Go.Proofs.Ytnoelppkcbelcaa.Srt
