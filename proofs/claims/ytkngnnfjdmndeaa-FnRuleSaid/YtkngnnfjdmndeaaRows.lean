/-
  No cell of these rows narrows 'for every input' (looked for: loops, veiled, ifaces, maps, wideKeys, modest, calm, conditions, laid).
  DERIVED. THE GIVEN ROWS OF THIS SEAT. 2 by the template 'for every input the law returns true; each argument reads behind the call as it read before'; 0 by the template 'total and deterministic' (their statements: YtkngnnfjdmndeaaTotals.lean).
  GIVEN WITH THE SEED: the statements are not yours to turn. If you find one false, say at which input.
  Laid BY PROGRAM, IN A SANDBOX (cutbox-rows.mjs): the forced cells as the released guide's own fill.sh prints them over the translation 2886ba7a29eb4cb2… (all of the seat's roots in one cut). By AI agents, Wed Nov 11 2026. No macro, syntax, notation, axiom, sorry.
-/
import Derived.Test.YtkngnnfjdmndeaaChecked
import GoSem.Claim
import GoSem.ClaimJoined
import GoSem.ClaimMapViews
import Derived.JoinedTies
import Derived.KernelRfl
namespace Go.Proofs.Ytkngnnfjdmndeaa
/- THE CELL 'sum', in the pinned program and in every row, IS THE sha256 OF THE DUMP (.gsa) THAT YtkngnnfjdmndeaaProg.lean LOADS. Nothing in Lean hashes anything: it is a label: what it is worth is what the hold of that sum in a sandbox is worth. -/
noncomputable def Try.pinned : Pinned := { name := "ytkngnnfjdmndeaa", sum := "2886ba7a29eb4cb21a8ac020effba7247b69f6c005df1fc974c7c4640c091e14", checked := Try.checked }
namespace Rows
def none {H : Type} : Left H := { results := [], args := [] }

/-- 'laws.FnExactReadRule': WHATEVER THE INPUT: true; the input reads as it did. -/
def fnExactReadRuleSpec : ChangeSpec := { name := "fnExactReadRule", fn := fun _ => fun
  | [d] => { results := [.lit (.bool true)], args := [d] }
  | _ => none }
def fnExactReadRuleRow : OpenClaim := { program := "ytkngnnfjdmndeaa", sum := "2886ba7a29eb4cb21a8ac020effba7247b69f6c005df1fc974c7c4640c091e14", func := "loop.example/g00693/laws.FnExactReadRule", spec := "fnExactReadRule", inPlace := ["internal/bytealg.IndexByteString"], apart := false }
def FnExactReadRuleSaid : Prop := fnExactReadRuleRow.holds Try.pinned (OpenSpec.ofChange fnExactReadRuleSpec)

/-- ITS FALSE NEIGHBOUR: 'it returns false'. Refute it at one input. -/
def fnExactReadRuleWrong : ChangeSpec := { name := "fnExactReadRule", fn := fun _ => fun
  | [d] => { results := [.lit (.bool false)], args := [d] }
  | _ => none }
def FnExactReadRuleWrongFalsely : Prop := fnExactReadRuleRow.holds Try.pinned (OpenSpec.ofChange fnExactReadRuleWrong)

/-- 'laws.FnRule': WHATEVER THE INPUT: true; the input reads as it did. -/
def fnRuleSpec : ChangeSpec := { name := "fnRule", fn := fun _ => fun
  | [d] => { results := [.lit (.bool true)], args := [d] }
  | _ => none }
def fnRuleRow : OpenClaim := { program := "ytkngnnfjdmndeaa", sum := "2886ba7a29eb4cb21a8ac020effba7247b69f6c005df1fc974c7c4640c091e14", func := "loop.example/g00693/laws.FnRule", spec := "fnRule", inPlace := ["internal/bytealg.IndexByteString"], unfollowed := true, recurses := true, apart := false }
def FnRuleSaid : Prop := fnRuleRow.holds Try.pinned (OpenSpec.ofChange fnRuleSpec)

/-- ITS FALSE NEIGHBOUR: 'it returns false'. Refute it at one input. -/
def fnRuleWrong : ChangeSpec := { name := "fnRule", fn := fun _ => fun
  | [d] => { results := [.lit (.bool false)], args := [d] }
  | _ => none }
def FnRuleWrongFalsely : Prop := fnRuleRow.holds Try.pinned (OpenSpec.ofChange fnRuleWrong)

/- THE SECOND FORM. 'bulk': how many values and letters a reading holds, each counted each time it is reached (what is shared counts as often as it is met; a slice's spare places count too). A statement '..UptoSaid' is the law's where the arguments, and the package variables that the reading takes, are together of bulk at most 1048576: NARROWER than '..Said'. Prove '..Said' where nothing that the law and all that it calls make is longer than what came in: it says more and counts as full. Else prove '..UptoSaid'. A law counts once. -/
mutual
def uptoBulk {H : Type} : DataW H → Nat
  | .lit (.string bytes) => bytes.length + 1
  | .lit _ => 1
  | .nil => 1
  | .ptr d => uptoBulk d + 1
  | .slice elems spare => uptoBulkAll elems + uptoBulkAll spare + 1
  | .agg parts => uptoBulkAll parts + 1
  | .iface _ d => uptoBulk d + 1
  | .map entries => uptoBulkEntries entries + 1
  | .held _ => 1
def uptoBulkAll {H : Type} : List (DataW H) → Nat
  | [] => 0
  | d :: r => uptoBulk d + uptoBulkAll r
def uptoBulkEntries {H : Type} : List (Lit × DataW H) → Nat
  | [] => 0
  | x :: r => uptoBulkEntry x + uptoBulkEntries r
def uptoBulkEntry {H : Type} : Lit × DataW H → Nat
  | (.string bytes, d) => bytes.length + uptoBulk d + 1
  | (_, d) => uptoBulk d + 1
 end
def uptoSmall : (H : Type) → List (DataW H) → Bool := fun _ ds => decide (uptoBulkAll ds ≤ 1048576)
def OpenSpec.upto (s : _root_.Go.ChangeSpec) : _root_.Go.OpenSpec := { _root_.Go.OpenSpec.ofChange s with cond := some uptoSmall }

/-- 'laws.FnExactReadRule', WHERE WHAT IT READS IS OF BULK AT MOST 1048576: true; the input reads as it did. -/
def fnExactReadRuleUptoRow : OpenClaim := { program := "ytkngnnfjdmndeaa", sum := "2886ba7a29eb4cb21a8ac020effba7247b69f6c005df1fc974c7c4640c091e14", func := "loop.example/g00693/laws.FnExactReadRule", spec := "fnExactReadRule", inPlace := ["internal/bytealg.IndexByteString"], apart := false, narrowed := true }
def FnExactReadRuleUptoSaid : Prop := fnExactReadRuleUptoRow.holds Try.pinned (OpenSpec.upto fnExactReadRuleSpec)

/-- 'laws.FnRule', WHERE WHAT IT READS IS OF BULK AT MOST 1048576: true; the input reads as it did. -/
def fnRuleUptoRow : OpenClaim := { program := "ytkngnnfjdmndeaa", sum := "2886ba7a29eb4cb21a8ac020effba7247b69f6c005df1fc974c7c4640c091e14", func := "loop.example/g00693/laws.FnRule", spec := "fnRule", inPlace := ["internal/bytealg.IndexByteString"], unfollowed := true, recurses := true, apart := false, narrowed := true }
def FnRuleUptoSaid : Prop := fnRuleUptoRow.holds Try.pinned (OpenSpec.upto fnRuleSpec)

end Rows
end Go.Proofs.Ytkngnnfjdmndeaa
