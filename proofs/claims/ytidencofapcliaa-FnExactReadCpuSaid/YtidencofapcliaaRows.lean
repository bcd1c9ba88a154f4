/-
  No cell of these rows narrows 'for every input' (looked for: loops, veiled, ifaces, maps, wideKeys, modest, calm, conditions, laid).
  DERIVED. THE GIVEN ROWS OF THIS SEAT. 2 by the template 'for every input the law returns true; each argument reads behind the call as it read before'; 0 by the template 'total and deterministic' (their statements: YtidencofapcliaaTotals.lean).
  GIVEN WITH THE SEED: the statements are not yours to turn. If you find one false, say at which input.
  Laid BY PROGRAM, IN A SANDBOX (cutbox-rows.mjs): the forced cells as the released guide's own fill.sh prints them over the translation a31efe39e206d2c2… (all of the seat's roots in one cut). By AI agents, Wed Nov 11 2026. No macro, syntax, notation, axiom, sorry.
-/
import Derived.Test.YtidencofapcliaaChecked
import GoSem.Claim
import GoSem.ClaimJoined
import GoSem.ClaimMapViews
import Derived.JoinedTies
import Derived.KernelRfl
namespace Go.Proofs.Ytidencofapcliaa
/- THE CELL 'sum', in the pinned program and in every row, IS THE sha256 OF THE DUMP (.gsa) THAT YtidencofapcliaaProg.lean LOADS. Nothing in Lean hashes anything: it is a label: what it is worth is what the hold of that sum in a sandbox is worth. -/
noncomputable def Try.pinned : Pinned := { name := "ytidencofapcliaa", sum := "a31efe39e206d2c2008929a7ee46c695abab4925620ffb383b46af85de6686d2", checked := Try.checked }
namespace Rows
def none {H : Type} : Left H := { results := [], args := [] }

/-- 'laws.FnExactReadKnow': WHATEVER THE INPUT: true; the input reads as it did. -/
def fnExactReadKnowSpec : ChangeSpec := { name := "fnExactReadKnow", fn := fun _ => fun
  | [d] => { results := [.lit (.bool true)], args := [d] }
  | _ => none }
def fnExactReadKnowRow : OpenClaim := { program := "ytidencofapcliaa", sum := "a31efe39e206d2c2008929a7ee46c695abab4925620ffb383b46af85de6686d2", func := "loop.example/g00693/laws.FnExactReadKnow", spec := "fnExactReadKnow", inPlace := ["internal/abi.NoEscape", "internal/bytealg.MakeNoZero", "internal/bytealg.IndexByteString"], apart := false }
def FnExactReadKnowSaid : Prop := fnExactReadKnowRow.holds Try.pinned (OpenSpec.ofChange fnExactReadKnowSpec)

/-- ITS FALSE NEIGHBOUR: 'it returns false'. Refute it at one input. -/
def fnExactReadKnowWrong : ChangeSpec := { name := "fnExactReadKnow", fn := fun _ => fun
  | [d] => { results := [.lit (.bool false)], args := [d] }
  | _ => none }
def FnExactReadKnowWrongFalsely : Prop := fnExactReadKnowRow.holds Try.pinned (OpenSpec.ofChange fnExactReadKnowWrong)

/-- 'laws.FnExactReadCpu': WHATEVER THE INPUT: true; the input reads as it did. -/
def fnExactReadCpuSpec : ChangeSpec := { name := "fnExactReadCpu", fn := fun _ => fun
  | [d] => { results := [.lit (.bool true)], args := [d] }
  | _ => none }
def fnExactReadCpuRow : OpenClaim := { program := "ytidencofapcliaa", sum := "a31efe39e206d2c2008929a7ee46c695abab4925620ffb383b46af85de6686d2", func := "loop.example/g00693/laws.FnExactReadCpu", spec := "fnExactReadCpu", inPlace := ["internal/abi.NoEscape", "internal/bytealg.MakeNoZero", "internal/bytealg.IndexByteString"], apart := false }
def FnExactReadCpuSaid : Prop := fnExactReadCpuRow.holds Try.pinned (OpenSpec.ofChange fnExactReadCpuSpec)

/-- ITS FALSE NEIGHBOUR: 'it returns false'. Refute it at one input. -/
def fnExactReadCpuWrong : ChangeSpec := { name := "fnExactReadCpu", fn := fun _ => fun
  | [d] => { results := [.lit (.bool false)], args := [d] }
  | _ => none }
def FnExactReadCpuWrongFalsely : Prop := fnExactReadCpuRow.holds Try.pinned (OpenSpec.ofChange fnExactReadCpuWrong)

/- THE SECOND FORM. 'bulk': how many values and letters a reading holds, each counted each time it is reached (what is shared counts as often as it is met; a slice's spare places count too). A statement '..UptoSaid' is the law's where the arguments, and the package variables that the reading takes, are together of bulk at most 1048576: NARROWER than '..Said'. Prove '..Said' where nothing that the law and all that it calls make is longer than what came in: it says more and counts as full. Else prove '..UptoSaid'. A law counts once. -/
mutual
def uptoBulk {H : Type} : DataW H → Nat
  | .lit (.string bytes) => bytes.length + 1
  | .lit _ => 1
  | .nil => 1
  | .ptr d => uptoBulk d + 1
  | .slice elems spare => uptoBulkAll elems + uptoBulkAll spare + 1
  | .agg parts => uptoBulkAll parts + 1
  | .iface _ d => uptoBulk d + 1
  | .map entries => uptoBulkEntries entries + 1
  | .held _ => 1
def uptoBulkAll {H : Type} : List (DataW H) → Nat
  | [] => 0
  | d :: r => uptoBulk d + uptoBulkAll r
def uptoBulkEntries {H : Type} : List (Lit × DataW H) → Nat
  | [] => 0
  | x :: r => uptoBulkEntry x + uptoBulkEntries r
def uptoBulkEntry {H : Type} : Lit × DataW H → Nat
  | (.string bytes, d) => bytes.length + uptoBulk d + 1
  | (_, d) => uptoBulk d + 1
 end
def uptoSmall : (H : Type) → List (DataW H) → Bool := fun _ ds => decide (uptoBulkAll ds ≤ 1048576)
def OpenSpec.upto (s : _root_.Go.ChangeSpec) : _root_.Go.OpenSpec := { _root_.Go.OpenSpec.ofChange s with cond := some uptoSmall }

/-- 'laws.FnExactReadKnow', WHERE WHAT IT READS IS OF BULK AT MOST 1048576: true; the input reads as it did. -/
def fnExactReadKnowUptoRow : OpenClaim := { program := "ytidencofapcliaa", sum := "a31efe39e206d2c2008929a7ee46c695abab4925620ffb383b46af85de6686d2", func := "loop.example/g00693/laws.FnExactReadKnow", spec := "fnExactReadKnow", inPlace := ["internal/abi.NoEscape", "internal/bytealg.MakeNoZero", "internal/bytealg.IndexByteString"], apart := false, narrowed := true }
def FnExactReadKnowUptoSaid : Prop := fnExactReadKnowUptoRow.holds Try.pinned (OpenSpec.upto fnExactReadKnowSpec)

/-- 'laws.FnExactReadCpu', WHERE WHAT IT READS IS OF BULK AT MOST 1048576: true; the input reads as it did. -/
def fnExactReadCpuUptoRow : OpenClaim := { program := "ytidencofapcliaa", sum := "a31efe39e206d2c2008929a7ee46c695abab4925620ffb383b46af85de6686d2", func := "loop.example/g00693/laws.FnExactReadCpu", spec := "fnExactReadCpu", inPlace := ["internal/abi.NoEscape", "internal/bytealg.MakeNoZero", "internal/bytealg.IndexByteString"], apart := false, narrowed := true }
def FnExactReadCpuUptoSaid : Prop := fnExactReadCpuUptoRow.holds Try.pinned (OpenSpec.upto fnExactReadCpuSpec)

end Rows
end Go.Proofs.Ytidencofapcliaa
