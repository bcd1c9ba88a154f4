/-
What the walks take of Go's library at this seat: the shelf's contracts in the printed texts' own form; and what they ask of the world: two of the library's variables.
-/
import Derived.Test.YtnoelppkcbelcaaGreatDoorShelf
import Derived.Test.YtnoelppkcbelcaaGreatDoorWAll
import Derived.Lib.LaidTab
import Derived.WalkSmall
set_option linter.unusedVariables false
set_option linter.unusedSimpArgs false
namespace Go.Proofs.YtnoelppkcbelcaaGreatDoor.Giv
open Go.RowKit Go.Proofs.YtnoelppkcbelcaaGreatDoorW.PrintWords
/-- What Go's library reads of its own variables. -/
structure TabW (w : World) : Prop where
  tab : Lib.TabIs Tryz.prog w "strings.asciiSpace" .u8 Lib.asciiSpaceTab
  most : ∃ m, w.cell? ⟨1, 0, none⟩ = some (.int .i64 m)
theorem gTab : Tryz.prog.globalNamed "strings.asciiSpace" = some 0 := by kernel_rfl
theorem TabW.below {w w1 : World} (h : TabW w) (hb : Below w.heap.size w w1) : TabW w1 := by
  refine ⟨?_, ?_⟩
  · have hv := h.tab
    unfold Lib.TabIs at hv ⊢
    have hlt : 0 < w.heap.size := by
      unfold World.var? at hv
      rw [gTab] at hv
      simp only [Option.bind_some] at hv
      cases hh : w.heap[0]? with
      | none => rw [hh] at hv; simp at hv
      | some o => exact (Array.getElem?_eq_some_iff.mp hh).1
    exact var?_below hb gTab hlt hv
  · obtain ⟨m, hm⟩ := h.most
    refine ⟨m, ?_⟩
    have hlt : 1 < w.heap.size := by
      unfold World.cell? at hm
      cases hh : w.heap[1]? with
      | none => simp [hh] at hm
      | some o => exact (Array.getElem?_eq_some_iff.mp hh).1
    rw [hb.cell (p := ⟨1, 0, none⟩) hlt]
    exact hm
theorem at_ {w w1 : World} (h : Aside0 (TabW w)) (hb : Below w.heap.size w w1) : Aside0 (TabW w1) := Aside0.mk (h.out.below hb)
def fields (a0 : ByteArray) : Option (List ByteArray) := if a0.size < 4294967281 ∧ a0.data.toList.all (fun b => decide (b.toNat < 128)) = true then some ((Lib.fields a0.data.toList).map fun l => ⟨l.toArray⟩) else none
theorem row_string {E base : Nat} {w : World} (xs : List ByteArray) (hb : base ≤ w.heap.size) (hm : xs.length ≤ 9223372036854775807) :
    Kd.R Kd.string E (w.alloc (.cells (xs.map Value.string).toArray E)) base (fun _ => True) (.slice (some ⟨w.heap.size, 0, none⟩) xs.length xs.length) xs := by
  have h := OwnRow.lit (R := fun (x : ByteArray) (cs : List Value) => cs = [Value.string x]) (e := E) (size := 1) w base (inner := encs Value.string xs) (Kd.reps_scalar xs) hb hm
  refine ⟨fun _ _ => trivial, ?_⟩
  unfold encs at h
  exact h
theorem fields_le (l : List UInt8) : (Lib.fields l).length ≤ l.length := by
  rw [Lib.fields_length]
  have key : ∀ (l : List UInt8) (b : Bool), Lib.cntF b l ≤ l.length := fun l => by
    induction l with
    | nil => intro b; simp [Lib.cntF]
    | cons x t ih => intro b; have := ih (Lib.isSp x); simp only [Lib.cntF, List.length_cons]; split <;> omega
  exact key l true
theorem fields_calls (a0 : ByteArray) (r : List ByteArray) (w : World) (h : fields a0 = some r) (HT : Aside0 (TabW w)) :
    Calls Tryz.prog 77 #[.string a0] w fun e w' => ∃ v0_ : Value, e = .returned (v0_) ∧ Kd.R Kd.string 9 w' w.heap.size (fun _ => True) v0_ r ∧ Below w.heap.size w w' := by
  unfold fields at h
  split at h
  · rename_i hc
    obtain rfl := Option.some.inj h
    refine (Tryz.strings_Fields a0 w hc.1 (fun j b hj => ?_) HT.out.tab).mono fun e w' hd => ?_
    · have := List.all_eq_true.mp hc.2 b (List.mem_of_getElem? hj)
      simpa using this
    · obtain ⟨rfl, rfl⟩ := hd
      refine ⟨_, rfl, ?_, ?_⟩
      · have hl : (Lib.fields a0.data.toList).length ≤ 9223372036854775807 := by
          have h1 := fields_le a0.data.toList
          have h2 : a0.data.toList.length = a0.size := by rw [Array.length_toList]; rfl
          have h3 := hc.1
          omega
        have hr := row_string (E := 9) (base := w.heap.size) (w := w) ((Lib.fields a0.data.toList).map fun l => (⟨l.toArray⟩ : ByteArray)) (Nat.le_refl _) (by simpa using hl)
        simp only [List.map_map, List.length_map] at hr
        exact hr
      · exact (Below.refl _ _).alloc (Nat.le_refl _) _
  · exact absurd h (by simp)
def contains (a0 a1 : ByteArray) : Option Bool := if a0.size < 4294967281 then some (Lib.contains a0.data.toList a1.data.toList) else none
theorem contains_calls (a0 a1 : ByteArray) (r : Bool) (w : World) (h : contains a0 a1 = some r) (HT : Aside0 (TabW w)) :
    Calls Tryz.prog 39 #[.string a0, .string a1] w fun e w' => e = .returned (.bool r) ∧ Below w.heap.size w w' := by
  unfold contains at h
  split at h
  · rename_i hc
    obtain rfl := Option.some.inj h
    obtain ⟨m, hm⟩ := HT.out.most
    refine (Tryz.strings_Contains a0 a1 m w hc hm).mono fun e w' hd => ?_
    obtain ⟨rfl, rfl⟩ := hd
    exact ⟨rfl, Below.refl _ _⟩
  · exact absurd h (by simp)
end Go.Proofs.YtnoelppkcbelcaaGreatDoor.Giv
