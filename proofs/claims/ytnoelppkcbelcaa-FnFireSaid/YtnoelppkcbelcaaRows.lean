/-
  No cell of these rows narrows 'for every input' (looked for: loops, veiled, ifaces, maps, wideKeys, modest, calm, conditions, laid).
  DERIVED. THE GIVEN ROWS OF THIS SEAT. 5 by the template 'for every input the law returns true; each argument reads behind the call as it read before'; 0 by the template 'total and deterministic' (their statements: YtnoelppkcbelcaaTotals.lean).
  GIVEN WITH THE SEED: the statements are not yours to turn. If you find one false, say at which input.
  Laid BY PROGRAM, IN A SANDBOX (cutbox-rows.mjs): the forced cells as the released guide's own fill.sh prints them over the translation ff0dd72928968281… (all of the seat's roots in one cut). By AI agents, Wed Nov 11 2026. No macro, syntax, notation, axiom, sorry.
-/
import Derived.Test.YtnoelppkcbelcaaChecked
import GoSem.Claim
import GoSem.ClaimJoined
import GoSem.ClaimMapViews
import Derived.JoinedTies
import Derived.KernelRfl
namespace Go.Proofs.Ytnoelppkcbelcaa
/- THE CELL 'sum', in the pinned program and in every row, IS THE sha256 OF THE DUMP (.gsa) THAT YtnoelppkcbelcaaProg.lean LOADS. Nothing in Lean hashes anything: it is a label: what it is worth is what the hold of that sum in a sandbox is worth. -/
noncomputable def Try.pinned : Pinned := { name := "ytnoelppkcbelcaa", sum := "ff0dd72928968281cbf3d790504a0495e94571e8073043983a133067919cf950", checked := Try.checked }
namespace Rows
def none {H : Type} : Left H := { results := [], args := [] }

/-- 'laws.FnOdd': WHATEVER THE INPUT: true; the input reads as it did. -/
def fnOddSpec : ChangeSpec := { name := "fnOdd", fn := fun _ => fun
  | [d] => { results := [.lit (.bool true)], args := [d] }
  | _ => none }
def fnOddRow : OpenClaim := { program := "ytnoelppkcbelcaa", sum := "ff0dd72928968281cbf3d790504a0495e94571e8073043983a133067919cf950", func := "loop.example/g00693/laws.FnOdd", spec := "fnOdd", apart := false }
def FnOddSaid : Prop := fnOddRow.holds Try.pinned (OpenSpec.ofChange fnOddSpec)

/-- ITS FALSE NEIGHBOUR: 'it returns false'. Refute it at one input. -/
def fnOddWrong : ChangeSpec := { name := "fnOdd", fn := fun _ => fun
  | [d] => { results := [.lit (.bool false)], args := [d] }
  | _ => none }
def FnOddWrongFalsely : Prop := fnOddRow.holds Try.pinned (OpenSpec.ofChange fnOddWrong)

/-- 'laws.FnSqueeze': WHATEVER THE INPUT: true; the input reads as it did. -/
def fnSqueezeSpec : ChangeSpec := { name := "fnSqueeze", fn := fun _ => fun
  | [d] => { results := [.lit (.bool true)], args := [d] }
  | _ => none }
def fnSqueezeRow : OpenClaim := { program := "ytnoelppkcbelcaa", sum := "ff0dd72928968281cbf3d790504a0495e94571e8073043983a133067919cf950", func := "loop.example/g00693/laws.FnSqueeze", spec := "fnSqueeze", apart := false }
def FnSqueezeSaid : Prop := fnSqueezeRow.holds Try.pinned (OpenSpec.ofChange fnSqueezeSpec)

/-- ITS FALSE NEIGHBOUR: 'it returns false'. Refute it at one input. -/
def fnSqueezeWrong : ChangeSpec := { name := "fnSqueeze", fn := fun _ => fun
  | [d] => { results := [.lit (.bool false)], args := [d] }
  | _ => none }
def FnSqueezeWrongFalsely : Prop := fnSqueezeRow.holds Try.pinned (OpenSpec.ofChange fnSqueezeWrong)

/-- 'laws.FnFire': WHATEVER THE INPUT: true; the input reads as it did. -/
def fnFireSpec : ChangeSpec := { name := "fnFire", fn := fun _ => fun
  | [d] => { results := [.lit (.bool true)], args := [d] }
  | _ => none }
def fnFireRow : OpenClaim := { program := "ytnoelppkcbelcaa", sum := "ff0dd72928968281cbf3d790504a0495e94571e8073043983a133067919cf950", func := "loop.example/g00693/laws.FnFire", spec := "fnFire", unfollowed := true, recurses := true, apart := false }
def FnFireSaid : Prop := fnFireRow.holds Try.pinned (OpenSpec.ofChange fnFireSpec)

/-- ITS FALSE NEIGHBOUR: 'it returns false'. Refute it at one input. -/
def fnFireWrong : ChangeSpec := { name := "fnFire", fn := fun _ => fun
  | [d] => { results := [.lit (.bool false)], args := [d] }
  | _ => none }
def FnFireWrongFalsely : Prop := fnFireRow.holds Try.pinned (OpenSpec.ofChange fnFireWrong)

/-- 'laws.FnSmall': WHATEVER THE INPUT: true; the input reads as it did. -/
def fnSmallSpec : ChangeSpec := { name := "fnSmall", fn := fun _ => fun
  | [d] => { results := [.lit (.bool true)], args := [d] }
  | _ => none }
def fnSmallRow : OpenClaim := { program := "ytnoelppkcbelcaa", sum := "ff0dd72928968281cbf3d790504a0495e94571e8073043983a133067919cf950", func := "loop.example/g00693/laws.FnSmall", spec := "fnSmall", apart := false }
def FnSmallSaid : Prop := fnSmallRow.holds Try.pinned (OpenSpec.ofChange fnSmallSpec)

/-- ITS FALSE NEIGHBOUR: 'it returns false'. Refute it at one input. -/
def fnSmallWrong : ChangeSpec := { name := "fnSmall", fn := fun _ => fun
  | [d] => { results := [.lit (.bool false)], args := [d] }
  | _ => none }
def FnSmallWrongFalsely : Prop := fnSmallRow.holds Try.pinned (OpenSpec.ofChange fnSmallWrong)

/-- 'laws.FnHits': WHATEVER THE INPUT: true; the input reads as it did. -/
def fnHitsSpec : ChangeSpec := { name := "fnHits", fn := fun _ => fun
  | [d] => { results := [.lit (.bool true)], args := [d] }
  | _ => none }
def fnHitsRow : OpenClaim := { program := "ytnoelppkcbelcaa", sum := "ff0dd72928968281cbf3d790504a0495e94571e8073043983a133067919cf950", func := "loop.example/g00693/laws.FnHits", spec := "fnHits", recurses := true, apart := false }
def FnHitsSaid : Prop := fnHitsRow.holds Try.pinned (OpenSpec.ofChange fnHitsSpec)

/-- ITS FALSE NEIGHBOUR: 'it returns false'. Refute it at one input. -/
def fnHitsWrong : ChangeSpec := { name := "fnHits", fn := fun _ => fun
  | [d] => { results := [.lit (.bool false)], args := [d] }
  | _ => none }
def FnHitsWrongFalsely : Prop := fnHitsRow.holds Try.pinned (OpenSpec.ofChange fnHitsWrong)

/- THE SECOND FORM. 'bulk': how many values and letters a reading holds, each counted each time it is reached (what is shared counts as often as it is met; a slice's spare places count too). A statement '..UptoSaid' is the law's where the arguments, and the package variables that the reading takes, are together of bulk at most 1048576: NARROWER than '..Said'. Prove '..Said' where nothing that the law and all that it calls make is longer than what came in: it says more and counts as full. Else prove '..UptoSaid'. A law counts once. -/
mutual
def uptoBulk {H : Type} : DataW H → Nat
  | .lit (.string bytes) => bytes.length + 1
  | .lit _ => 1
  | .nil => 1
  | .ptr d => uptoBulk d + 1
  | .slice elems spare => uptoBulkAll elems + uptoBulkAll spare + 1
  | .agg parts => uptoBulkAll parts + 1
  | .iface _ d => uptoBulk d + 1
  | .map entries => uptoBulkEntries entries + 1
  | .held _ => 1
def uptoBulkAll {H : Type} : List (DataW H) → Nat
  | [] => 0
  | d :: r => uptoBulk d + uptoBulkAll r
def uptoBulkEntries {H : Type} : List (Lit × DataW H) → Nat
  | [] => 0
  | x :: r => uptoBulkEntry x + uptoBulkEntries r
def uptoBulkEntry {H : Type} : Lit × DataW H → Nat
  | (.string bytes, d) => bytes.length + uptoBulk d + 1
  | (_, d) => uptoBulk d + 1
 end
def uptoSmall : (H : Type) → List (DataW H) → Bool := fun _ ds => decide (uptoBulkAll ds ≤ 1048576)
def OpenSpec.upto (s : _root_.Go.ChangeSpec) : _root_.Go.OpenSpec := { _root_.Go.OpenSpec.ofChange s with cond := some uptoSmall }

/-- 'laws.FnOdd', WHERE WHAT IT READS IS OF BULK AT MOST 1048576: true; the input reads as it did. -/
def fnOddUptoRow : OpenClaim := { program := "ytnoelppkcbelcaa", sum := "ff0dd72928968281cbf3d790504a0495e94571e8073043983a133067919cf950", func := "loop.example/g00693/laws.FnOdd", spec := "fnOdd", apart := false, narrowed := true }
def FnOddUptoSaid : Prop := fnOddUptoRow.holds Try.pinned (OpenSpec.upto fnOddSpec)

/-- 'laws.FnSqueeze', WHERE WHAT IT READS IS OF BULK AT MOST 1048576: true; the input reads as it did. -/
def fnSqueezeUptoRow : OpenClaim := { program := "ytnoelppkcbelcaa", sum := "ff0dd72928968281cbf3d790504a0495e94571e8073043983a133067919cf950", func := "loop.example/g00693/laws.FnSqueeze", spec := "fnSqueeze", apart := false, narrowed := true }
def FnSqueezeUptoSaid : Prop := fnSqueezeUptoRow.holds Try.pinned (OpenSpec.upto fnSqueezeSpec)

/-- 'laws.FnFire', WHERE WHAT IT READS IS OF BULK AT MOST 1048576: true; the input reads as it did. -/
def fnFireUptoRow : OpenClaim := { program := "ytnoelppkcbelcaa", sum := "ff0dd72928968281cbf3d790504a0495e94571e8073043983a133067919cf950", func := "loop.example/g00693/laws.FnFire", spec := "fnFire", unfollowed := true, recurses := true, apart := false, narrowed := true }
def FnFireUptoSaid : Prop := fnFireUptoRow.holds Try.pinned (OpenSpec.upto fnFireSpec)

/-- 'laws.FnSmall', WHERE WHAT IT READS IS OF BULK AT MOST 1048576: true; the input reads as it did. -/
def fnSmallUptoRow : OpenClaim := { program := "ytnoelppkcbelcaa", sum := "ff0dd72928968281cbf3d790504a0495e94571e8073043983a133067919cf950", func := "loop.example/g00693/laws.FnSmall", spec := "fnSmall", apart := false, narrowed := true }
def FnSmallUptoSaid : Prop := fnSmallUptoRow.holds Try.pinned (OpenSpec.upto fnSmallSpec)

/-- 'laws.FnHits', WHERE WHAT IT READS IS OF BULK AT MOST 1048576: true; the input reads as it did. -/
def fnHitsUptoRow : OpenClaim := { program := "ytnoelppkcbelcaa", sum := "ff0dd72928968281cbf3d790504a0495e94571e8073043983a133067919cf950", func := "loop.example/g00693/laws.FnHits", spec := "fnHits", recurses := true, apart := false, narrowed := true }
def FnHitsUptoSaid : Prop := fnHitsUptoRow.holds Try.pinned (OpenSpec.upto fnHitsSpec)

end Rows
end Go.Proofs.Ytnoelppkcbelcaa
