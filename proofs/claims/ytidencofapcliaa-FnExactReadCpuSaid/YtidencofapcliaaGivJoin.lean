/-
What the walks take of Go's library at this seat: strings.Join.
-/
import Derived.Test.YtidencofapcliaaWAll
import Derived.Test.YtidencofapcliaaShelfJoin
set_option linter.unusedVariables false
set_option linter.unusedSimpArgs false
namespace Go.Proofs.Ytidencofapcliaa.Giv
open Go.RowKit Go.Proofs.YtidencofapcliaaW.PrintWords
def joinG (l0 : List ByteArray) (a1 : ByteArray) : Option ByteArray := if (Lib.join (l0.map (·.data.toList)) a1.data.toList).length ≤ 140737488355328 ∧ l0.length ≤ 140737488355328 then some ⟨(Lib.join (l0.map (·.data.toList)) a1.data.toList).toArray⟩ else none
theorem joinG_calls (A0 : Option Addr) (c0 : Nat) (l0 : List ByteArray) (a1 : ByteArray) (r : ByteArray) (w : World) (hr0 : Kd.C Kd.string w A0 l0.length l0) (hc0 : l0.length ≤ c0) (h : joinG l0 a1 = some r) :
    Calls Try.prog 34 #[.slice A0 l0.length c0, .string a1] w fun e w' => e = .returned (.string r) ∧ Below w.heap.size w w' := by
  unfold joinG at h
  split at h
  · rename_i hc
    obtain rfl := Option.some.inj h
    clear h
    by_cases e0 : l0.length = 0
    · obtain rfl : l0 = [] := List.eq_nil_of_length_eq_zero e0
      refine (Try.strings_Join_none A0 c0 a1 w).mono fun e w' hd => ?_
      obtain ⟨rfl, rfl⟩ := hd
      exact ⟨rfl, Below.refl _ _⟩
    · obtain ⟨_, _, hpos⟩ := hr0
      obtain ⟨ad, rfl, hcell⟩ := hpos (by omega)
      have cells : ∀ (j : Nat) (x : ByteArray), l0[j]? = some x → w.cell? (ad.add j) = some (.string x) := fun j x hj => by
        obtain ⟨c, _, hR, hcs⟩ := hcell j x hj
        have e : c = [Value.string x] := hR
        have := hcs 0 (Value.string x) (by rw [e]; rfl)
        simpa [Kd.string, Kd.scalar] using this
      have c0' := cells 0 l0[0] (by rw [List.getElem?_eq_getElem (by omega)])
      obtain ⟨bk, o, sp⟩ := ad
      have hsp : sp = none ∧ bk < w.heap.size := by
        unfold World.cell? at c0'
        simp only [Addr.add, if_true] at c0'
        cases hh : w.heap[bk]? with
        | none => rw [hh] at c0'; simp at c0'
        | some ob =>
          have hlt := (Array.getElem?_eq_some_iff.mp hh).1
          rw [hh] at c0'
          cases ob with
          | cells c t f =>
            cases sp with
            | none => exact ⟨rfl, hlt⟩
            | some q => simp at c0'
          | _ => simp at c0'
      obtain ⟨rfl, hbk⟩ := hsp
      refine (Try.strings_Join bk o c0 l0 a1 w (fun j x hj => ?_) hbk hc.2 hc0 hc.1).mono fun e w' hd => hd
      have h_ := cells j x hj
      rw [Addr.add_lit] at h_
      exact h_
  · exact absurd h (by simp)
end Go.Proofs.Ytidencofapcliaa.Giv
