/-
  No cell of these rows narrows 'for every input' (looked for: loops, veiled, ifaces, maps, wideKeys, modest, calm, conditions, laid).
  DERIVED. THE GIVEN ROWS OF THIS SEAT. 6 by the template 'for every input the law returns true; each argument reads behind the call as it read before'; 0 by the template 'total and deterministic' (their statements: YtdedhoeaapkdiaaTotals.lean).
  GIVEN WITH THE SEED: the statements are not yours to turn. If you find one false, say at which input.
  Laid BY PROGRAM, IN A SANDBOX (cutbox-rows.mjs): the forced cells as the released guide's own fill.sh prints them over the translation de9e36cf3fcbc0a5… (all of the seat's roots in one cut). By AI agents, Wed Nov 11 2026. No macro, syntax, notation, axiom, sorry.
-/
import Derived.Test.YtdedhoeaapkdiaaChecked
import GoSem.Claim
import GoSem.ClaimJoined
import GoSem.ClaimMapViews
import Derived.JoinedTies
import Derived.KernelRfl
namespace Go.Proofs.Ytdedhoeaapkdiaa
/- THE CELL 'sum', in the pinned program and in every row, IS THE sha256 OF THE DUMP (.gsa) THAT YtdedhoeaapkdiaaProg.lean LOADS. Nothing in Lean hashes anything: it is a label: what it is worth is what the hold of that sum in a sandbox is worth. -/
noncomputable def Try.pinned : Pinned := { name := "ytdedhoeaapkdiaa", sum := "de9e36cf3fcbc0a53a58a766dfb55920abeea95d575c964bacd6eb13d9fadcc1", checked := Try.checked }
namespace Rows
def none {H : Type} : Left H := { results := [], args := [] }

/-- 'laws.FnExactRuleOk': WHATEVER THE INPUT: true; the input reads as it did. -/
def fnExactRuleOkSpec : ChangeSpec := { name := "fnExactRuleOk", fn := fun _ => fun
  | [d] => { results := [.lit (.bool true)], args := [d] }
  | _ => none }
def fnExactRuleOkRow : OpenClaim := { program := "ytdedhoeaapkdiaa", sum := "de9e36cf3fcbc0a53a58a766dfb55920abeea95d575c964bacd6eb13d9fadcc1", func := "loop.example/g00693/laws.FnExactRuleOk", spec := "fnExactRuleOk", apart := false }
def FnExactRuleOkSaid : Prop := fnExactRuleOkRow.holds Try.pinned (OpenSpec.ofChange fnExactRuleOkSpec)

/-- ITS FALSE NEIGHBOUR: 'it returns false'. Refute it at one input. -/
def fnExactRuleOkWrong : ChangeSpec := { name := "fnExactRuleOk", fn := fun _ => fun
  | [d] => { results := [.lit (.bool false)], args := [d] }
  | _ => none }
def FnExactRuleOkWrongFalsely : Prop := fnExactRuleOkRow.holds Try.pinned (OpenSpec.ofChange fnExactRuleOkWrong)

/-- 'laws.FnExactTakes': WHATEVER THE INPUT: true; the input reads as it did. -/
def fnExactTakesSpec : ChangeSpec := { name := "fnExactTakes", fn := fun _ => fun
  | [d1, d2] => { results := [.lit (.bool true)], args := [d1, d2] }
  | _ => none }
def fnExactTakesRow : OpenClaim := { program := "ytdedhoeaapkdiaa", sum := "de9e36cf3fcbc0a53a58a766dfb55920abeea95d575c964bacd6eb13d9fadcc1", func := "loop.example/g00693/laws.FnExactTakes", spec := "fnExactTakes", apart := false }
def FnExactTakesSaid : Prop := fnExactTakesRow.holds Try.pinned (OpenSpec.ofChange fnExactTakesSpec)

/-- ITS FALSE NEIGHBOUR: 'it returns false'. Refute it at one input. -/
def fnExactTakesWrong : ChangeSpec := { name := "fnExactTakes", fn := fun _ => fun
  | [d1, d2] => { results := [.lit (.bool false)], args := [d1, d2] }
  | _ => none }
def FnExactTakesWrongFalsely : Prop := fnExactTakesRow.holds Try.pinned (OpenSpec.ofChange fnExactTakesWrong)

/-- 'laws.FnExactRuleText': WHATEVER THE INPUT: true; the input reads as it did. -/
def fnExactRuleTextSpec : ChangeSpec := { name := "fnExactRuleText", fn := fun _ => fun
  | [d] => { results := [.lit (.bool true)], args := [d] }
  | _ => none }
def fnExactRuleTextRow : OpenClaim := { program := "ytdedhoeaapkdiaa", sum := "de9e36cf3fcbc0a53a58a766dfb55920abeea95d575c964bacd6eb13d9fadcc1", func := "loop.example/g00693/laws.FnExactRuleText", spec := "fnExactRuleText", apart := false }
def FnExactRuleTextSaid : Prop := fnExactRuleTextRow.holds Try.pinned (OpenSpec.ofChange fnExactRuleTextSpec)

/-- ITS FALSE NEIGHBOUR: 'it returns false'. Refute it at one input. -/
def fnExactRuleTextWrong : ChangeSpec := { name := "fnExactRuleText", fn := fun _ => fun
  | [d] => { results := [.lit (.bool false)], args := [d] }
  | _ => none }
def FnExactRuleTextWrongFalsely : Prop := fnExactRuleTextRow.holds Try.pinned (OpenSpec.ofChange fnExactRuleTextWrong)

/-- 'laws.FnExactSteady': WHATEVER THE INPUT: true; the input reads as it did. -/
def fnExactSteadySpec : ChangeSpec := { name := "fnExactSteady", fn := fun _ => fun
  | [d1, d2] => { results := [.lit (.bool true)], args := [d1, d2] }
  | _ => none }
def fnExactSteadyRow : OpenClaim := { program := "ytdedhoeaapkdiaa", sum := "de9e36cf3fcbc0a53a58a766dfb55920abeea95d575c964bacd6eb13d9fadcc1", func := "loop.example/g00693/laws.FnExactSteady", spec := "fnExactSteady", apart := false }
def FnExactSteadySaid : Prop := fnExactSteadyRow.holds Try.pinned (OpenSpec.ofChange fnExactSteadySpec)

/-- ITS FALSE NEIGHBOUR: 'it returns false'. Refute it at one input. -/
def fnExactSteadyWrong : ChangeSpec := { name := "fnExactSteady", fn := fun _ => fun
  | [d1, d2] => { results := [.lit (.bool false)], args := [d1, d2] }
  | _ => none }
def FnExactSteadyWrongFalsely : Prop := fnExactSteadyRow.holds Try.pinned (OpenSpec.ofChange fnExactSteadyWrong)

/-- 'laws.FnExactHits': WHATEVER THE INPUT: true; the input reads as it did. -/
def fnExactHitsSpec : ChangeSpec := { name := "fnExactHits", fn := fun _ => fun
  | [d1, d2, d3, d4] => { results := [.lit (.bool true)], args := [d1, d2, d3, d4] }
  | _ => none }
def fnExactHitsRow : OpenClaim := { program := "ytdedhoeaapkdiaa", sum := "de9e36cf3fcbc0a53a58a766dfb55920abeea95d575c964bacd6eb13d9fadcc1", func := "loop.example/g00693/laws.FnExactHits", spec := "fnExactHits", apart := false }
def FnExactHitsSaid : Prop := fnExactHitsRow.holds Try.pinned (OpenSpec.ofChange fnExactHitsSpec)

/-- ITS FALSE NEIGHBOUR: 'it returns false'. Refute it at one input. -/
def fnExactHitsWrong : ChangeSpec := { name := "fnExactHits", fn := fun _ => fun
  | [d1, d2, d3, d4] => { results := [.lit (.bool false)], args := [d1, d2, d3, d4] }
  | _ => none }
def FnExactHitsWrongFalsely : Prop := fnExactHitsRow.holds Try.pinned (OpenSpec.ofChange fnExactHitsWrong)

/-- 'laws.FnExactOdd': WHATEVER THE INPUT: true; the input reads as it did. -/
def fnExactOddSpec : ChangeSpec := { name := "fnExactOdd", fn := fun _ => fun
  | [d1, d2] => { results := [.lit (.bool true)], args := [d1, d2] }
  | _ => none }
def fnExactOddRow : OpenClaim := { program := "ytdedhoeaapkdiaa", sum := "de9e36cf3fcbc0a53a58a766dfb55920abeea95d575c964bacd6eb13d9fadcc1", func := "loop.example/g00693/laws.FnExactOdd", spec := "fnExactOdd", apart := false }
def FnExactOddSaid : Prop := fnExactOddRow.holds Try.pinned (OpenSpec.ofChange fnExactOddSpec)

/-- ITS FALSE NEIGHBOUR: 'it returns false'. Refute it at one input. -/
def fnExactOddWrong : ChangeSpec := { name := "fnExactOdd", fn := fun _ => fun
  | [d1, d2] => { results := [.lit (.bool false)], args := [d1, d2] }
  | _ => none }
def FnExactOddWrongFalsely : Prop := fnExactOddRow.holds Try.pinned (OpenSpec.ofChange fnExactOddWrong)

/- THE SECOND FORM. 'bulk': how many values and letters a reading holds, each counted each time it is reached (what is shared counts as often as it is met; a slice's spare places count too). A statement '..UptoSaid' is the law's where the arguments, and the package variables that the reading takes, are together of bulk at most 1048576: NARROWER than '..Said'. Prove '..Said' where nothing that the law and all that it calls make is longer than what came in: it says more and counts as full. Else prove '..UptoSaid'. A law counts once. -/
mutual
def uptoBulk {H : Type} : DataW H → Nat
  | .lit (.string bytes) => bytes.length + 1
  | .lit _ => 1
  | .nil => 1
  | .ptr d => uptoBulk d + 1
  | .slice elems spare => uptoBulkAll elems + uptoBulkAll spare + 1
  | .agg parts => uptoBulkAll parts + 1
  | .iface _ d => uptoBulk d + 1
  | .map entries => uptoBulkEntries entries + 1
  | .held _ => 1
def uptoBulkAll {H : Type} : List (DataW H) → Nat
  | [] => 0
  | d :: r => uptoBulk d + uptoBulkAll r
def uptoBulkEntries {H : Type} : List (Lit × DataW H) → Nat
  | [] => 0
  | x :: r => uptoBulkEntry x + uptoBulkEntries r
def uptoBulkEntry {H : Type} : Lit × DataW H → Nat
  | (.string bytes, d) => bytes.length + uptoBulk d + 1
  | (_, d) => uptoBulk d + 1
 end
def uptoSmall : (H : Type) → List (DataW H) → Bool := fun _ ds => decide (uptoBulkAll ds ≤ 1048576)
def OpenSpec.upto (s : _root_.Go.ChangeSpec) : _root_.Go.OpenSpec := { _root_.Go.OpenSpec.ofChange s with cond := some uptoSmall }

/-- 'laws.FnExactRuleOk', WHERE WHAT IT READS IS OF BULK AT MOST 1048576: true; the input reads as it did. -/
def fnExactRuleOkUptoRow : OpenClaim := { program := "ytdedhoeaapkdiaa", sum := "de9e36cf3fcbc0a53a58a766dfb55920abeea95d575c964bacd6eb13d9fadcc1", func := "loop.example/g00693/laws.FnExactRuleOk", spec := "fnExactRuleOk", apart := false, narrowed := true }
def FnExactRuleOkUptoSaid : Prop := fnExactRuleOkUptoRow.holds Try.pinned (OpenSpec.upto fnExactRuleOkSpec)

/-- 'laws.FnExactTakes', WHERE WHAT IT READS IS OF BULK AT MOST 1048576: true; the input reads as it did. -/
def fnExactTakesUptoRow : OpenClaim := { program := "ytdedhoeaapkdiaa", sum := "de9e36cf3fcbc0a53a58a766dfb55920abeea95d575c964bacd6eb13d9fadcc1", func := "loop.example/g00693/laws.FnExactTakes", spec := "fnExactTakes", apart := false, narrowed := true }
def FnExactTakesUptoSaid : Prop := fnExactTakesUptoRow.holds Try.pinned (OpenSpec.upto fnExactTakesSpec)

/-- 'laws.FnExactRuleText', WHERE WHAT IT READS IS OF BULK AT MOST 1048576: true; the input reads as it did. -/
def fnExactRuleTextUptoRow : OpenClaim := { program := "ytdedhoeaapkdiaa", sum := "de9e36cf3fcbc0a53a58a766dfb55920abeea95d575c964bacd6eb13d9fadcc1", func := "loop.example/g00693/laws.FnExactRuleText", spec := "fnExactRuleText", apart := false, narrowed := true }
def FnExactRuleTextUptoSaid : Prop := fnExactRuleTextUptoRow.holds Try.pinned (OpenSpec.upto fnExactRuleTextSpec)

/-- 'laws.FnExactSteady', WHERE WHAT IT READS IS OF BULK AT MOST 1048576: true; the input reads as it did. -/
def fnExactSteadyUptoRow : OpenClaim := { program := "ytdedhoeaapkdiaa", sum := "de9e36cf3fcbc0a53a58a766dfb55920abeea95d575c964bacd6eb13d9fadcc1", func := "loop.example/g00693/laws.FnExactSteady", spec := "fnExactSteady", apart := false, narrowed := true }
def FnExactSteadyUptoSaid : Prop := fnExactSteadyUptoRow.holds Try.pinned (OpenSpec.upto fnExactSteadySpec)

/-- 'laws.FnExactHits', WHERE WHAT IT READS IS OF BULK AT MOST 1048576: true; the input reads as it did. -/
def fnExactHitsUptoRow : OpenClaim := { program := "ytdedhoeaapkdiaa", sum := "de9e36cf3fcbc0a53a58a766dfb55920abeea95d575c964bacd6eb13d9fadcc1", func := "loop.example/g00693/laws.FnExactHits", spec := "fnExactHits", apart := false, narrowed := true }
def FnExactHitsUptoSaid : Prop := fnExactHitsUptoRow.holds Try.pinned (OpenSpec.upto fnExactHitsSpec)

/-- 'laws.FnExactOdd', WHERE WHAT IT READS IS OF BULK AT MOST 1048576: true; the input reads as it did. -/
def fnExactOddUptoRow : OpenClaim := { program := "ytdedhoeaapkdiaa", sum := "de9e36cf3fcbc0a53a58a766dfb55920abeea95d575c964bacd6eb13d9fadcc1", func := "loop.example/g00693/laws.FnExactOdd", spec := "fnExactOdd", apart := false, narrowed := true }
def FnExactOddUptoSaid : Prop := fnExactOddUptoRow.holds Try.pinned (OpenSpec.upto fnExactOddSpec)

end Rows
end Go.Proofs.Ytdedhoeaapkdiaa
