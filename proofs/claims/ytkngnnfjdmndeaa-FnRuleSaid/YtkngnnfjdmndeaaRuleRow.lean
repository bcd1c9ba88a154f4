/-
A row of two bytes, made of a text (its mark is that of a conversion): what its cells are, and that they stay.
-/
import Derived.Test.YtkngnnfjdmndeaaWWords
import Derived.Laws.IdiomStrings
set_option linter.unusedSimpArgs false
set_option linter.unusedVariables false
namespace Go.Proofs.Ytkngnnfjdmndeaa.RowTwo
open Go Go.RowKit Go.Proofs.YtkngnnfjdmndeaaW.PrintWords

def Row2 (w : World) (g : Nat) (b0 b1 : UInt8) : Prop := ∃ C : Array Value, w.heap[g]? = some (.cells C 5 (C.size, C.size + 1)) ∧ C[0]? = some (.int .u8 (b0.toNat : Int)) ∧ C[1]? = some (.int .u8 (b1.toNat : Int))
theorem Row2.cell0 {w : World} {g : Nat} {b0 b1 : UInt8} (h : Row2 w g b0 b1) : w.cell? ⟨g, 0, none⟩ = some (.int .u8 (b0.toNat : Int)) := by
  obtain ⟨C, h1, h2, h3⟩ := h
  rw [cell_of_row w g 0 C 5 _ h1, h2]
theorem Row2.cell1 {w : World} {g : Nat} {b0 b1 : UInt8} (h : Row2 w g b0 b1) : w.cell? ⟨g, 1, none⟩ = some (.int .u8 (b1.toNat : Int)) := by
  obtain ⟨C, h1, h2, h3⟩ := h
  rw [cell_of_row w g 1 C 5 _ h1, h3]
theorem Row2.frozen {w : World} {g : Nat} {b0 b1 : UInt8} (h : Row2 w g b0 b1) (i : Nat) (hi : i < 2) : w.frozen? ⟨g, i, none⟩ = false := by
  obtain ⟨C, h1, h2, h3⟩ := h
  have hs : 1 < C.size := (Array.getElem?_eq_some_iff.1 h3).1
  simp [World.frozen?, h1]
  omega
theorem Row2.lt {w : World} {g : Nat} {b0 b1 : UInt8} (h : Row2 w g b0 b1) : g < w.heap.size := by
  obtain ⟨C, h1, _⟩ := h
  exact blk_lt h1
theorem Row2.set0 {w : World} {g : Nat} {b0 b1 : UInt8} (h : Row2 w g b0 b1) (u : UInt8) : Row2 (w.setCell ⟨g, 0, none⟩ (.int .u8 (u.toNat : Int))) g u b1 := by
  obtain ⟨C, h1, h2, h3⟩ := h
  have hs : 0 < C.size := (Array.getElem?_eq_some_iff.1 h2).1
  refine ⟨C.setIfInBounds 0 (.int .u8 (u.toNat : Int)), ?_, ?_, ?_⟩
  · simp [World.setCell, Array.getElem?_modify, h1]
  · simp [hs]
  · rw [Array.getElem?_setIfInBounds_ne (by omega)]; exact h3
theorem Row2.set1 {w : World} {g : Nat} {b0 b1 : UInt8} (h : Row2 w g b0 b1) (u : UInt8) : Row2 (w.setCell ⟨g, 1, none⟩ (.int .u8 (u.toNat : Int))) g b0 u := by
  obtain ⟨C, h1, h2, h3⟩ := h
  have hs : 1 < C.size := (Array.getElem?_eq_some_iff.1 h3).1
  refine ⟨C.setIfInBounds 1 (.int .u8 (u.toNat : Int)), ?_, ?_, ?_⟩
  · simp [World.setCell, Array.getElem?_modify, h1]
  · rw [Array.getElem?_setIfInBounds_ne (by omega)]; exact h2
  · simp [hs]
theorem Row2.below {w w1 : World} {g : Nat} {b0 b1 : UInt8} (h : Row2 w g b0 b1) (hb : Below w.heap.size w w1) : Row2 w1 g b0 b1 := by
  obtain ⟨C, h1, h2, h3⟩ := h
  exact ⟨C, blk_below h1 hb, h2, h3⟩
theorem Row2.drew {w : World} {g : Nat} {b0 b1 : UInt8} (h : Row2 w g b0 b1) : Row2 w.drew g b0 b1 := h
theorem Row2.back {P : Program} {w : World} {g : Nat} {b0 b1 : UInt8} (h : Row2 w g b0 b1) (src dst e : TypeId) (cap : Nat) (hs : P.underlying src = some (.slice e)) (he : P.underlying e = some (.int .u8)) (hd : P.underlying dst = some .string) :
    (convert src dst (.slice (some ⟨g, 0, none⟩) 2 cap)).run P w = .ok (.string ⟨#[b0, b1]⟩) w := by
  refine run_convert_bytes_back w src dst e ⟨g, 0, none⟩ cap [b0, b1] hs he hd (fun j hj => ?_)
  match j, hj with
  | 0, _ => exact h.cell0
  | 1, _ => exact h.cell1
def bAt (s : ByteArray) (i : Nat) : UInt8 := (s.data[i]?).getD 0
theorem row_of {P : Program} (w : World) (s : ByteArray) (hn : s.size = 2) (src dst : TypeId) (hs : P.underlying src = some .string) (hd : P.underlying dst = some (.slice 5)) (he : P.underlying 5 = some (.int .u8)) :
    ∃ cap w', (convert src dst (.string s)).run P w = .ok (.slice (some ⟨w.heap.size, 0, none⟩) 2 cap) w' ∧ Row2 w' w.heap.size (bAt s 0) (bAt s 1) ∧ Below w.heap.size w w' := by
  have h := run_bytes_of_string (P := P) w src dst 5 s hs hd he
  refine ⟨_, _, by rw [h, hn], ⟨_, blk_new w.drew _, ?_, ?_⟩, below_alloc (below_drew1 (Below.refl _ _)) _⟩
  · have h0 : 0 < s.data.size := by have : s.data.size = 2 := hn; omega
    rw [bytesRow_at s _ 0 h0, bAt, Array.getElem?_eq_getElem h0]; rfl
  · have h0 : 1 < s.data.size := by have : s.data.size = 2 := hn; omega
    rw [bytesRow_at s _ 1 h0, bAt, Array.getElem?_eq_getElem h0]; rfl
theorem conv_event {P : Program} {ops : Array Oper} {Q : Exit → Act → World → Prop} {o : Oper} {rest : List Oper} {a : Act} {W : World} (hgd : o.guard = none) {N : Tmp} (_hd : o.dst = some N) {s : ByteArray} (hn : s.size = 2) {src dst : TypeId} (hs : P.underlying src = some .string) (hd : P.underlying dst = some (.slice 5)) (he : P.underlying 5 = some (.int .u8))
    {x : Operand} (ho : o.op = .convert src dst x) (hx : a.eval x = .string s)
    (h : ∀ g, g = W.heap.size → ∀ cap w1, Row2 w1 g (bAt s 0) (bAt s 1) → Below W.heap.size W w1 → wpList P ops Q rest (a.put o.dst (.slice (some ⟨g, 0, none⟩) 2 cap)) w1) : wpList P ops Q (o :: rest) a W := by
  obtain ⟨cap, w', h1, h2, h3⟩ := row_of W s hn src dst hs hd he
  have hrun : (execOp a.eval o).run P W = .ok (.value (.slice (some ⟨W.heap.size, 0, none⟩) 2 cap)) w' := by
    unfold execOp
    rw [ho]
    simp [hx, h1]
  exact Kd.event_run hgd hrun (h _ rfl cap w' h2 h3)
end Go.Proofs.Ytkngnnfjdmndeaa.RowTwo
