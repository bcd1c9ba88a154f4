/-
A marked row of bytes (a constant text's bytes): its cells, what a store makes of it.
-/
import Derived.Test.YtidencofapcliaaWAll
import Derived.Lib.SlBytesConst
set_option linter.unusedSimpArgs false
set_option linter.unusedVariables false
namespace Go.Proofs.Ytidencofapcliaa.FK
open Go Go.RowKit Go.Proofs.YtidencofapcliaaW.PrintWords
theorem gen_ {P : Program} {c : Code} {Q : Exit → Act → World → Prop} {a : Act} {w : World} (F : World → Prop) (hF : F w) (h : ∀ w', F w' → c.wp P Q a w') : c.wp P Q a w := h w hF
theorem m_set {w : World} {g : Nat} {t : TypeId} {cs cs' : Array Value} {m : Nat × Nat} (h : w.heap[g]? = some (.cells cs t m)) (i : Nat) (u : Value) (e : cs.setIfInBounds i u = cs') : (w.setCell ⟨g, i, none⟩ u).heap[g]? = some (.cells cs' t m) := by
  subst e
  simp [World.setCell, Array.getElem?_modify, h]
theorem m_far {w : World} {g : Nat} {o : Obj} (h : w.heap[g]? = some o) {p : Addr} (hp : g ≠ p.block) (u : Value) : (w.setCell p u).heap[g]? = some o := (Below.heap_setCell w p u g hp).trans h
theorem m_cell {w : World} {g : Nat} {t : TypeId} {cs : Array Value} {m : Nat × Nat} (h : w.heap[g]? = some (.cells cs t m)) (i : Nat) : w.cell? ⟨g, i, none⟩ = cs[i]? := cell_of_row w g i cs t m h
theorem m_frozen {w : World} {g : Nat} {t : TypeId} {cs : Array Value} (h : w.heap[g]? = some (.cells cs t (6, 7))) (i : Nat) (hi : i < 6) : w.frozen? ⟨g, i, none⟩ = false := by
  simp [World.frozen?, h]
  omega
def fv (b : Bool) (c : Int) (i j : Nat) : Int := if j < i then (if b = true then c else 45) else c
def cells (f0 f1 f2 f3 f4 f5 : Bool) (i : Nat) : Array Value := #[.int .u8 (fv f0 78 i 0), .int .u8 (fv f1 86 i 1), .int .u8 (fv f2 68 i 2), .int .u8 (fv f3 73 i 3), .int .u8 (fv f4 90 i 4), .int .u8 (fv f5 67 i 5)]
theorem cells_at (f0 f1 f2 f3 f4 f5 : Bool) (i : Nat) (h : i < 6) : ∃ (b : Bool) (c : Int), (#[.bool f0, .bool f1, .bool f2, .bool f3, .bool f4, .bool f5] : Array Value)[i]? = some (.bool b) ∧ (cells f0 f1 f2 f3 f4 f5 i)[i]? = some (.int .u8 c) ∧ (b = true → cells f0 f1 f2 f3 f4 f5 i = cells f0 f1 f2 f3 f4 f5 (i + 1)) ∧ (b = false → (cells f0 f1 f2 f3 f4 f5 i).setIfInBounds i (.int .u8 45) = cells f0 f1 f2 f3 f4 f5 (i + 1)) := by
  match i, h with
  | 0, _ => exact ⟨f0, _, rfl, rfl, fun e => by simp [cells, fv, e], fun e => by simp [cells, fv, e]⟩
  | 1, _ => exact ⟨f1, _, rfl, rfl, fun e => by simp [cells, fv, e], fun e => by simp [cells, fv, e]⟩
  | 2, _ => exact ⟨f2, _, rfl, rfl, fun e => by simp [cells, fv, e], fun e => by simp [cells, fv, e]⟩
  | 3, _ => exact ⟨f3, _, rfl, rfl, fun e => by simp [cells, fv, e], fun e => by simp [cells, fv, e]⟩
  | 4, _ => exact ⟨f4, _, rfl, rfl, fun e => by simp [cells, fv, e], fun e => by simp [cells, fv, e]⟩
  | 5, _ => exact ⟨f5, _, rfl, rfl, fun e => by simp [cells, fv, e], fun e => by simp [cells, fv, e]⟩
  | n + 6, h => omega
def fb (f : Bool) (c : UInt8) : UInt8 := if f = true then c else 45
theorem fv_fb (f : Bool) (c : UInt8) (i j : Nat) (h : j < i) : fv f (c.toNat : Int) i j = ((fb f c).toNat : Int) := by
  unfold fv fb
  rw [if_pos h]
  cases f <;> rfl
theorem back {P : Program} {w : World} {g : Nat} {f0 f1 f2 f3 f4 f5 : Bool} {m : Nat × Nat} (h : w.heap[g]? = some (.cells (cells f0 f1 f2 f3 f4 f5 6) 5 m)) (src dst e : TypeId) (cap : Nat) (hs : P.underlying src = some (.slice e)) (he : P.underlying e = some (.int .u8)) (hd : P.underlying dst = some .string) :
    (convert src dst (.slice (some ⟨g, 0, none⟩) 6 cap)).run P w = .ok (.string ⟨#[fb f0 78, fb f1 86, fb f2 68, fb f3 73, fb f4 90, fb f5 67]⟩) w := by
  refine run_convert_bytes_back w src dst e ⟨g, 0, none⟩ cap [fb f0 78, fb f1 86, fb f2 68, fb f3 73, fb f4 90, fb f5 67] hs he hd (fun j hj => ?_)
  match j, hj with
  | 0, _ => exact (m_cell h 0).trans (congrArg (fun x => some (Value.int .u8 x)) (fv_fb f0 78 6 0 (by decide)))
  | 1, _ => exact (m_cell h 1).trans (congrArg (fun x => some (Value.int .u8 x)) (fv_fb f1 86 6 1 (by decide)))
  | 2, _ => exact (m_cell h 2).trans (congrArg (fun x => some (Value.int .u8 x)) (fv_fb f2 68 6 2 (by decide)))
  | 3, _ => exact (m_cell h 3).trans (congrArg (fun x => some (Value.int .u8 x)) (fv_fb f3 73 6 3 (by decide)))
  | 4, _ => exact (m_cell h 4).trans (congrArg (fun x => some (Value.int .u8 x)) (fv_fb f4 90 6 4 (by decide)))
  | 5, _ => exact (m_cell h 5).trans (congrArg (fun x => some (Value.int .u8 x)) (fv_fb f5 67 6 5 (by decide)))
end Go.Proofs.Ytidencofapcliaa.FK
