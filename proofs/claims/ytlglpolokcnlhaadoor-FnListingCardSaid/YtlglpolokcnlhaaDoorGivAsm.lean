/-
What the walks take of Go's library at this seat, more of it: strings.Split, CutPrefix, Join, and impl.Words over strings.FieldsFunc.
-/
import Derived.Test.YtlglpolokcnlhaaDoorGivF
import Derived.Test.YtlglpolokcnlhaaDoorShelf2
import Derived.Lib.SplitLaws
import Derived.WalkKit
set_option linter.unusedVariables false
set_option linter.unusedSimpArgs false
namespace Go.Proofs.YtlglpolokcnlhaaDoor.Giv
open Go.RowKit Go.Proofs.YtlglpolokcnlhaaDoorW.PrintWords
def splitG (a0 a1 : ByteArray) : Option (List ByteArray) := if a0.size < 4294967281 ∧ a1.size = 1 then some (Lib.splitB a1 0 (Lib.countB a0 a1) a0) else none
theorem splitG_calls (a0 a1 : ByteArray) (r : List ByteArray) (w : World) (h : splitG a0 a1 = some r) (HT : Aside0 (TabW w)) :
    Calls Tryd.prog 60 #[.string a0, .string a1] w fun e w' => ∃ v0_ : Value, e = .returned (v0_) ∧ Kd.R Kd.string 9 w' w.heap.size (fun _ => True) v0_ r ∧ Below w.heap.size w w' := by
  unfold splitG at h
  split at h
  · rename_i hc
    obtain rfl := Option.some.inj h
    obtain ⟨m, hm⟩ := HT.out.most
    refine (Tryd.strings_Split a0 a1 m w hc.1 hm (by omega)).mono fun e w' hd => ?_
    obtain ⟨rfl, rfl⟩ := hd
    have hl : (Lib.splitB a1 0 (Lib.countB a0 a1) a0).length = Lib.countB a0 a1 + 1 := Lib.splitB_all a1 (by omega) 0 (Lib.countB a0 a1) a0 rfl
    have hc2 := Lib.countB_le a1 (by omega) a0.size a0 (Nat.le_refl _)
    have hr := row_string (E := 9) (base := w.heap.size) (w := w) (Lib.splitB a1 0 (Lib.countB a0 a1) a0) (Nat.le_refl _) (by omega)
    rw [hl] at hr
    exact ⟨_, rfl, hr, (Below.refl _ _).alloc (Nat.le_refl _) _⟩
  · exact absurd h (by simp)
def cutPrefixG (a0 a1 : ByteArray) : Option (ByteArray × Bool) := some (⟨(Lib.trimPrefix a0.data.toList a1.data.toList).toArray⟩, Lib.hasPrefix a0.data.toList a1.data.toList)
theorem cutPrefixG_calls (a0 a1 r1 : ByteArray) (r2 : Bool) (w : World) (h : cutPrefixG a0 a1 = some (r1, r2)) :
    Calls Tryd.prog 63 #[.string a0, .string a1] w fun e w' => e = .returned (.tuple #[.string r1, .bool r2]) ∧ Below w.heap.size w w' := by
  have e := Option.some.inj h
  simp only [Prod.mk.injEq] at e
  obtain ⟨rfl, rfl⟩ := e
  refine (Tryd.strings_CutPrefix a0 a1 w).mono fun e w' hd => ?_
  obtain ⟨rfl, rfl⟩ := hd
  exact ⟨rfl, Below.refl _ _⟩
def joinG (l0 : List ByteArray) (a1 : ByteArray) : Option ByteArray := if (Lib.join (l0.map (·.data.toList)) a1.data.toList).length ≤ 140737488355328 ∧ l0.length ≤ 140737488355328 then some ⟨(Lib.join (l0.map (·.data.toList)) a1.data.toList).toArray⟩ else none
theorem joinG_calls (A0 : Option Addr) (c0 : Nat) (l0 : List ByteArray) (a1 : ByteArray) (r : ByteArray) (w : World) (hr0 : Kd.C Kd.string w A0 l0.length l0) (hc0 : l0.length ≤ c0) (h : joinG l0 a1 = some r) :
    Calls Tryd.prog 61 #[.slice A0 l0.length c0, .string a1] w fun e w' => e = .returned (.string r) ∧ Below w.heap.size w w' := by
  unfold joinG at h
  split at h
  · rename_i hc
    obtain rfl := Option.some.inj h
    clear h
    by_cases e0 : l0.length = 0
    · obtain rfl : l0 = [] := List.eq_nil_of_length_eq_zero e0
      refine (Tryd.strings_Join_none A0 c0 a1 w).mono fun e w' hd => ?_
      obtain ⟨rfl, rfl⟩ := hd
      exact ⟨rfl, Below.refl _ _⟩
    · obtain ⟨_, _, hpos⟩ := hr0
      obtain ⟨ad, rfl, hcell⟩ := hpos (by omega)
      have cells : ∀ (j : Nat) (x : ByteArray), l0[j]? = some x → w.cell? (ad.add j) = some (.string x) := fun j x hj => by
        obtain ⟨c, _, hR, hcs⟩ := hcell j x hj
        have e : c = [Value.string x] := hR
        have := hcs 0 (Value.string x) (by rw [e]; rfl)
        simpa [Kd.string, Kd.scalar] using this
      have c0' := cells 0 l0[0] (by rw [List.getElem?_eq_getElem (by omega)])
      obtain ⟨bk, o, sp⟩ := ad
      have hsp : sp = none ∧ bk < w.heap.size := by
        unfold World.cell? at c0'
        simp only [Addr.add, if_true] at c0'
        cases hh : w.heap[bk]? with
        | none => rw [hh] at c0'; simp at c0'
        | some ob =>
          have hlt := (Array.getElem?_eq_some_iff.mp hh).1
          rw [hh] at c0'
          cases ob with
          | cells c t f =>
            cases sp with
            | none => exact ⟨rfl, hlt⟩
            | some q => simp at c0'
          | _ => simp at c0'
      obtain ⟨rfl, hbk⟩ := hsp
      refine (Tryd.strings_Join bk o c0 l0 a1 w (fun j x hj => ?_) hbk hc.2 hc0 hc.1).mono fun e w' hd => hd
      have h_ := cells j x hj
      rw [Addr.add_lit] at h_
      exact h_
  · exact absurd h (by simp)
/-- What parts words. -/
def wordP (r : Nat) : Bool := decide ((r : Int) = 32) || decide ((r : Int) = 9)
set_option maxHeartbeats 1000000 in
theorem wordP_calls (x : Int) (w : World) : Calls Tryd.prog 86 #[.int .i32 x] w fun e w' => e = .returned (.bool (decide (x = 32) || decide (x = 9))) ∧ Drawn0 w w' := by
  go_enter Tryd.func86, Tryd.ntmps86
  by_cases h1 : x = 32
  · subst h1
    go_wp2
    go_ret
    exact ⟨by first | rfl | (simp; done), by repeat (first | exact Drawn0.refl _ | apply Drawn0.step)⟩
  · have b1 : (x == 32) = false := beq_eq_false_iff_ne.mpr h1
    by_cases h2 : x = 9
    · subst h2
      go_wp2
      go_ret
      exact ⟨by first | rfl | (simp; done), by repeat (first | exact Drawn0.refl _ | apply Drawn0.step)⟩
    · have b2 : (x == 9) = false := beq_eq_false_iff_ne.mpr h2
      go_wp2
      (first | rw [b1] | (simp only [i64_w, i32_w]; rw [b1]) | skip)
      go_wp2
      (first | rw [b2] | (simp only [i64_w, i32_w]; rw [b2]) | skip)
      (try go_wp2)
      go_ret
      exact ⟨by first | rfl | (simp [h1, h2]; done) | (simp [b1, b2, h1, h2]; done), by repeat (first | exact Drawn0.refl _ | apply Drawn0.step)⟩
def wordsG (a0 : ByteArray) : Option (List ByteArray) := if a0.size ≤ 4294967296 then some (Lib.goFieldsP wordP a0) else none
set_option maxHeartbeats 1000000 in
theorem wordsG_calls (a0 : ByteArray) (r : List ByteArray) (w : World) (h : wordsG a0 = some r) :
    Calls Tryd.prog 62 #[.string a0] w fun e w' => ∃ v0_ : Value, e = .returned (v0_) ∧ Kd.R Kd.string 9 w' w.heap.size (fun _ => True) v0_ r ∧ Below w.heap.size w w' := by
  unfold wordsG at h
  split at h
  · rename_i hc
    obtain rfl := Option.some.inj h
    clear h
    have eg : ∀ args w, (callFunc 86 args).run Tryd.prog w = .ok (.enter 86 args) w := fun args w => enters_of Tryd.func86 (by kernel_rfl) rfl args w
    have hp : PredAt Tryd.prog 86 #[] encR wordP w := fun W x _ => by
      refine (wordP_calls (x : Int) W).mono fun e w' hd => ?_
      exact ⟨hd.1, hd.2.out⟩
    go_enter Tryd.func62, Tryd.ntmps62
    go_wp2_with (go_at_call 85; refine (Tryd.strings_FieldsFunc 86 #[] eg wordP a0 _ hc ?_).mono ?_)
    · exact hp
    · rintro e w' ⟨A, rfl, hA, hown, hb⟩
      have e1 : encs Value.string (Lib.goFieldsP wordP a0) = (Lib.goFieldsP wordP a0).map Value.string := rfl
      rw [← e1] at hown
      go_wp2
      go_ret
      exact ⟨_, rfl, Kd.R_of_own hown (fun _ _ => trivial), hb⟩
  · exact absurd h (by simp)
end Go.Proofs.YtlglpolokcnlhaaDoor.Giv
