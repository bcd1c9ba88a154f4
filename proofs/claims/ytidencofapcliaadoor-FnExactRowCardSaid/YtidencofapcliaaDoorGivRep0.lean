/-
What the walks take of Go's library at this seat, more of it: strings.Repeat.
-/
import Derived.Test.YtidencofapcliaaDoorWWords
import Derived.Test.YtidencofapcliaaDoorShelfRep
set_option linter.unusedVariables false
set_option linter.unusedSimpArgs false
namespace Go.Proofs.YtidencofapcliaaDoor.Giv
open Go.RowKit Go.Proofs.YtidencofapcliaaDoorW.PrintWords
def rep (a0 : ByteArray) (a1 : Int) : Option ByteArray := if 0 ≤ a1 ∧ a1 ≤ 9223372036854775807 ∧ a0.size * a1.toNat ≤ 140737488355328 then some ⟨(Lib.repeatL a0.data.toList a1.toNat).toArray⟩ else none
theorem rep_calls (a0 : ByteArray) (a1 : Int) (r : ByteArray) (w : World) (h : rep a0 a1 = some r) :
    Calls Tryd.prog 24 #[.string a0, .int .i64 a1] w fun e w' => e = .returned (.string r) ∧ Below w.heap.size w w' := by
  unfold rep at h
  split at h
  · rename_i hc
    obtain rfl := Option.some.inj h
    have c := Tryd.strings_Repeat a0 a1.toNat w (by omega) hc.2.2
    have e : ((a1.toNat : Nat) : Int) = a1 := by omega
    rw [e] at c
    exact c
  · exact absurd h (by simp)
end Go.Proofs.YtidencofapcliaaDoor.Giv
