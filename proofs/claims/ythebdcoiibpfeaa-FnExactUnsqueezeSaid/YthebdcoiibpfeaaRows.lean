/-
  No cell of these rows narrows 'for every input' (looked for: loops, veiled, ifaces, maps, wideKeys, modest, calm, conditions, laid).
  DERIVED. THE GIVEN ROWS OF THIS SEAT. 6 by the template 'for every input the law returns true; each argument reads behind the call as it read before'; 0 by the template 'total and deterministic' (their statements: YthebdcoiibpfeaaTotals.lean).
  GIVEN WITH THE SEED: the statements are not yours to turn. If you find one false, say at which input.
  Laid BY PROGRAM, IN A SANDBOX (cutbox-rows.mjs): the forced cells as the released guide's own fill.sh prints them over the translation 3e6fbf73df19f706… (all of the seat's roots in one cut). By AI agents, Wed Nov 11 2026. No macro, syntax, notation, axiom, sorry.
-/
import Derived.Test.YthebdcoiibpfeaaChecked
import GoSem.Claim
import GoSem.ClaimJoined
import GoSem.ClaimMapViews
import Derived.JoinedTies
import Derived.KernelRfl
namespace Go.Proofs.Ythebdcoiibpfeaa
/- THE CELL 'sum', in the pinned program and in every row, IS THE sha256 OF THE DUMP (.gsa) THAT YthebdcoiibpfeaaProg.lean LOADS. Nothing in Lean hashes anything: it is a label: what it is worth is what the hold of that sum in a sandbox is worth. -/
noncomputable def Try.pinned : Pinned := { name := "ythebdcoiibpfeaa", sum := "3e6fbf73df19f7064019c14bc6764a463ae77024ace4e3a7a11228013c13335b", checked := Try.checked }
namespace Rows
def none {H : Type} : Left H := { results := [], args := [] }

/-- 'laws.FnExactGain': WHATEVER THE INPUT: true; the input reads as it did. -/
def fnExactGainSpec : ChangeSpec := { name := "fnExactGain", fn := fun _ => fun
  | [d] => { results := [.lit (.bool true)], args := [d] }
  | _ => none }
def fnExactGainRow : OpenClaim := { program := "ythebdcoiibpfeaa", sum := "3e6fbf73df19f7064019c14bc6764a463ae77024ace4e3a7a11228013c13335b", func := "loop.example/g00693/laws.FnExactGain", spec := "fnExactGain", apart := false }
def FnExactGainSaid : Prop := fnExactGainRow.holds Try.pinned (OpenSpec.ofChange fnExactGainSpec)

/-- ITS FALSE NEIGHBOUR: 'it returns false'. Refute it at one input. -/
def fnExactGainWrong : ChangeSpec := { name := "fnExactGain", fn := fun _ => fun
  | [d] => { results := [.lit (.bool false)], args := [d] }
  | _ => none }
def FnExactGainWrongFalsely : Prop := fnExactGainRow.holds Try.pinned (OpenSpec.ofChange fnExactGainWrong)

/-- 'laws.FnExactSqueeze': WHATEVER THE INPUT: true; the input reads as it did. -/
def fnExactSqueezeSpec : ChangeSpec := { name := "fnExactSqueeze", fn := fun _ => fun
  | [d] => { results := [.lit (.bool true)], args := [d] }
  | _ => none }
def fnExactSqueezeRow : OpenClaim := { program := "ythebdcoiibpfeaa", sum := "3e6fbf73df19f7064019c14bc6764a463ae77024ace4e3a7a11228013c13335b", func := "loop.example/g00693/laws.FnExactSqueeze", spec := "fnExactSqueeze", apart := false }
def FnExactSqueezeSaid : Prop := fnExactSqueezeRow.holds Try.pinned (OpenSpec.ofChange fnExactSqueezeSpec)

/-- ITS FALSE NEIGHBOUR: 'it returns false'. Refute it at one input. -/
def fnExactSqueezeWrong : ChangeSpec := { name := "fnExactSqueeze", fn := fun _ => fun
  | [d] => { results := [.lit (.bool false)], args := [d] }
  | _ => none }
def FnExactSqueezeWrongFalsely : Prop := fnExactSqueezeRow.holds Try.pinned (OpenSpec.ofChange fnExactSqueezeWrong)

/-- 'laws.FnExactUnsqueeze': WHATEVER THE INPUT: true; the input reads as it did. -/
def fnExactUnsqueezeSpec : ChangeSpec := { name := "fnExactUnsqueeze", fn := fun _ => fun
  | [d] => { results := [.lit (.bool true)], args := [d] }
  | _ => none }
def fnExactUnsqueezeRow : OpenClaim := { program := "ythebdcoiibpfeaa", sum := "3e6fbf73df19f7064019c14bc6764a463ae77024ace4e3a7a11228013c13335b", func := "loop.example/g00693/laws.FnExactUnsqueeze", spec := "fnExactUnsqueeze", apart := false }
def FnExactUnsqueezeSaid : Prop := fnExactUnsqueezeRow.holds Try.pinned (OpenSpec.ofChange fnExactUnsqueezeSpec)

/-- ITS FALSE NEIGHBOUR: 'it returns false'. Refute it at one input. -/
def fnExactUnsqueezeWrong : ChangeSpec := { name := "fnExactUnsqueeze", fn := fun _ => fun
  | [d] => { results := [.lit (.bool false)], args := [d] }
  | _ => none }
def FnExactUnsqueezeWrongFalsely : Prop := fnExactUnsqueezeRow.holds Try.pinned (OpenSpec.ofChange fnExactUnsqueezeWrong)

/-- 'laws.FnExactLastRam': WHATEVER THE INPUT: true; the input reads as it did. -/
def fnExactLastRamSpec : ChangeSpec := { name := "fnExactLastRam", fn := fun _ => fun
  | [d1, d2] => { results := [.lit (.bool true)], args := [d1, d2] }
  | _ => none }
def fnExactLastRamRow : OpenClaim := { program := "ythebdcoiibpfeaa", sum := "3e6fbf73df19f7064019c14bc6764a463ae77024ace4e3a7a11228013c13335b", func := "loop.example/g00693/laws.FnExactLastRam", spec := "fnExactLastRam", apart := false }
def FnExactLastRamSaid : Prop := fnExactLastRamRow.holds Try.pinned (OpenSpec.ofChange fnExactLastRamSpec)

/-- ITS FALSE NEIGHBOUR: 'it returns false'. Refute it at one input. -/
def fnExactLastRamWrong : ChangeSpec := { name := "fnExactLastRam", fn := fun _ => fun
  | [d1, d2] => { results := [.lit (.bool false)], args := [d1, d2] }
  | _ => none }
def FnExactLastRamWrongFalsely : Prop := fnExactLastRamRow.holds Try.pinned (OpenSpec.ofChange fnExactLastRamWrong)

/-- 'laws.FnExactFirstRam': WHATEVER THE INPUT: true; the input reads as it did. -/
def fnExactFirstRamSpec : ChangeSpec := { name := "fnExactFirstRam", fn := fun _ => fun
  | [d1, d2] => { results := [.lit (.bool true)], args := [d1, d2] }
  | _ => none }
def fnExactFirstRamRow : OpenClaim := { program := "ythebdcoiibpfeaa", sum := "3e6fbf73df19f7064019c14bc6764a463ae77024ace4e3a7a11228013c13335b", func := "loop.example/g00693/laws.FnExactFirstRam", spec := "fnExactFirstRam", apart := false }
def FnExactFirstRamSaid : Prop := fnExactFirstRamRow.holds Try.pinned (OpenSpec.ofChange fnExactFirstRamSpec)

/-- ITS FALSE NEIGHBOUR: 'it returns false'. Refute it at one input. -/
def fnExactFirstRamWrong : ChangeSpec := { name := "fnExactFirstRam", fn := fun _ => fun
  | [d1, d2] => { results := [.lit (.bool false)], args := [d1, d2] }
  | _ => none }
def FnExactFirstRamWrongFalsely : Prop := fnExactFirstRamRow.holds Try.pinned (OpenSpec.ofChange fnExactFirstRamWrong)

/-- 'laws.FnExactTimes': WHATEVER THE INPUT: true; the input reads as it did. -/
def fnExactTimesSpec : ChangeSpec := { name := "fnExactTimes", fn := fun _ => fun
  | [d1, d2] => { results := [.lit (.bool true)], args := [d1, d2] }
  | _ => none }
def fnExactTimesRow : OpenClaim := { program := "ythebdcoiibpfeaa", sum := "3e6fbf73df19f7064019c14bc6764a463ae77024ace4e3a7a11228013c13335b", func := "loop.example/g00693/laws.FnExactTimes", spec := "fnExactTimes", unfollowed := true, recurses := true, apart := false }
def FnExactTimesSaid : Prop := fnExactTimesRow.holds Try.pinned (OpenSpec.ofChange fnExactTimesSpec)

/-- ITS FALSE NEIGHBOUR: 'it returns false'. Refute it at one input. -/
def fnExactTimesWrong : ChangeSpec := { name := "fnExactTimes", fn := fun _ => fun
  | [d1, d2] => { results := [.lit (.bool false)], args := [d1, d2] }
  | _ => none }
def FnExactTimesWrongFalsely : Prop := fnExactTimesRow.holds Try.pinned (OpenSpec.ofChange fnExactTimesWrong)

/- THE SECOND FORM. 'bulk': how many values and letters a reading holds, each counted each time it is reached (what is shared counts as often as it is met; a slice's spare places count too). A statement '..UptoSaid' is the law's where the arguments, and the package variables that the reading takes, are together of bulk at most 1048576: NARROWER than '..Said'. Prove '..Said' where nothing that the law and all that it calls make is longer than what came in: it says more and counts as full. Else prove '..UptoSaid'. A law counts once. -/
mutual
def uptoBulk {H : Type} : DataW H → Nat
  | .lit (.string bytes) => bytes.length + 1
  | .lit _ => 1
  | .nil => 1
  | .ptr d => uptoBulk d + 1
  | .slice elems spare => uptoBulkAll elems + uptoBulkAll spare + 1
  | .agg parts => uptoBulkAll parts + 1
  | .iface _ d => uptoBulk d + 1
  | .map entries => uptoBulkEntries entries + 1
  | .held _ => 1
def uptoBulkAll {H : Type} : List (DataW H) → Nat
  | [] => 0
  | d :: r => uptoBulk d + uptoBulkAll r
def uptoBulkEntries {H : Type} : List (Lit × DataW H) → Nat
  | [] => 0
  | x :: r => uptoBulkEntry x + uptoBulkEntries r
def uptoBulkEntry {H : Type} : Lit × DataW H → Nat
  | (.string bytes, d) => bytes.length + uptoBulk d + 1
  | (_, d) => uptoBulk d + 1
 end
def uptoSmall : (H : Type) → List (DataW H) → Bool := fun _ ds => decide (uptoBulkAll ds ≤ 1048576)
def OpenSpec.upto (s : _root_.Go.ChangeSpec) : _root_.Go.OpenSpec := { _root_.Go.OpenSpec.ofChange s with cond := some uptoSmall }

/-- 'laws.FnExactGain', WHERE WHAT IT READS IS OF BULK AT MOST 1048576: true; the input reads as it did. -/
def fnExactGainUptoRow : OpenClaim := { program := "ythebdcoiibpfeaa", sum := "3e6fbf73df19f7064019c14bc6764a463ae77024ace4e3a7a11228013c13335b", func := "loop.example/g00693/laws.FnExactGain", spec := "fnExactGain", apart := false, narrowed := true }
def FnExactGainUptoSaid : Prop := fnExactGainUptoRow.holds Try.pinned (OpenSpec.upto fnExactGainSpec)

/-- 'laws.FnExactSqueeze', WHERE WHAT IT READS IS OF BULK AT MOST 1048576: true; the input reads as it did. -/
def fnExactSqueezeUptoRow : OpenClaim := { program := "ythebdcoiibpfeaa", sum := "3e6fbf73df19f7064019c14bc6764a463ae77024ace4e3a7a11228013c13335b", func := "loop.example/g00693/laws.FnExactSqueeze", spec := "fnExactSqueeze", apart := false, narrowed := true }
def FnExactSqueezeUptoSaid : Prop := fnExactSqueezeUptoRow.holds Try.pinned (OpenSpec.upto fnExactSqueezeSpec)

/-- 'laws.FnExactUnsqueeze', WHERE WHAT IT READS IS OF BULK AT MOST 1048576: true; the input reads as it did. -/
def fnExactUnsqueezeUptoRow : OpenClaim := { program := "ythebdcoiibpfeaa", sum := "3e6fbf73df19f7064019c14bc6764a463ae77024ace4e3a7a11228013c13335b", func := "loop.example/g00693/laws.FnExactUnsqueeze", spec := "fnExactUnsqueeze", apart := false, narrowed := true }
def FnExactUnsqueezeUptoSaid : Prop := fnExactUnsqueezeUptoRow.holds Try.pinned (OpenSpec.upto fnExactUnsqueezeSpec)

/-- 'laws.FnExactLastRam', WHERE WHAT IT READS IS OF BULK AT MOST 1048576: true; the input reads as it did. -/
def fnExactLastRamUptoRow : OpenClaim := { program := "ythebdcoiibpfeaa", sum := "3e6fbf73df19f7064019c14bc6764a463ae77024ace4e3a7a11228013c13335b", func := "loop.example/g00693/laws.FnExactLastRam", spec := "fnExactLastRam", apart := false, narrowed := true }
def FnExactLastRamUptoSaid : Prop := fnExactLastRamUptoRow.holds Try.pinned (OpenSpec.upto fnExactLastRamSpec)

/-- 'laws.FnExactFirstRam', WHERE WHAT IT READS IS OF BULK AT MOST 1048576: true; the input reads as it did. -/
def fnExactFirstRamUptoRow : OpenClaim := { program := "ythebdcoiibpfeaa", sum := "3e6fbf73df19f7064019c14bc6764a463ae77024ace4e3a7a11228013c13335b", func := "loop.example/g00693/laws.FnExactFirstRam", spec := "fnExactFirstRam", apart := false, narrowed := true }
def FnExactFirstRamUptoSaid : Prop := fnExactFirstRamUptoRow.holds Try.pinned (OpenSpec.upto fnExactFirstRamSpec)

/-- 'laws.FnExactTimes', WHERE WHAT IT READS IS OF BULK AT MOST 1048576: true; the input reads as it did. -/
def fnExactTimesUptoRow : OpenClaim := { program := "ythebdcoiibpfeaa", sum := "3e6fbf73df19f7064019c14bc6764a463ae77024ace4e3a7a11228013c13335b", func := "loop.example/g00693/laws.FnExactTimes", spec := "fnExactTimes", unfollowed := true, recurses := true, apart := false, narrowed := true }
def FnExactTimesUptoSaid : Prop := fnExactTimesUptoRow.holds Try.pinned (OpenSpec.upto fnExactTimesSpec)

end Rows
end Go.Proofs.Ythebdcoiibpfeaa
