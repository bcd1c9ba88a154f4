/-
What the machine's functions return.
-/
import Derived.Test.YtnoelppkcbelcaaGreatDoorTyE0
import Derived.Test.YtnoelppkcbelcaaGreatDoorTyE1
import Derived.Test.YtnoelppkcbelcaaGreatDoorTyE2
import Derived.Test.YtnoelppkcbelcaaGreatDoorTyE3
import Derived.Test.YtnoelppkcbelcaaGreatDoorTyE4
import Derived.Test.YtnoelppkcbelcaaGreatDoorTyE5
import Derived.Test.YtnoelppkcbelcaaGreatDoorTyE6
import Derived.Test.YtnoelppkcbelcaaGreatDoorTyE7
import Derived.Test.YtnoelppkcbelcaaGreatDoorTyE8
import Derived.Test.YtnoelppkcbelcaaGreatDoorTyE9
import Derived.Test.YtnoelppkcbelcaaGreatDoorTyE10
import Derived.Test.YtnoelppkcbelcaaGreatDoorTyE11
import Derived.Test.YtnoelppkcbelcaaGreatDoorTyE12
set_option linter.unusedVariables false
set_option linter.unusedSimpArgs false
set_option maxHeartbeats 0
set_option maxRecDepth 100000
namespace Go.Proofs.YtnoelppkcbelcaaGreatDoor.Ty
open Go Go.RowKit
theorem mix_ : Tryz.prog.follows .mixedOrders = true := by kernel_rfl
theorem ent_ {f : FuncId} {fn : Func} (hf : Tryz.prog.funcs[f]? = some fn) (hname : (fn.name == "runtime.NumGoroutine") = false) (hb : fn.body.isSome = true) (vs : Array Value) (w : World) : (callFunc f vs).run Tryz.prog w = .ok (.enter f vs) w := by
  have h1 : fn.name ≠ "runtime.NumGoroutine" := by simpa using hname
  obtain ⟨c, hc⟩ := Option.isSome_iff_exists.1 hb
  simp [callFunc, hf, h1, hc]
structure Hyp (CP : (Nat → Option KT) → List Value → Prop) : Prop where
  cpm : ∀ (K K' : Nat → Option KT), (∀ g k, K g = some k → K' g = some k) → ∀ vs, CP K vs → CP K' vs
  h61 : CallOK Tryz.prog CP 37 [cur] none outByte
  h39 : ∀ hi, CallOK Tryz.prog CP 20 [cur, ii 1 hi] none [⟨ii 0 (hi - 1), [], some 1⟩]
theorem L0_ok {CP : (Nat → Option KT) → List Value → Prop} (hy : Hyp CP) : KitOK Tryz.prog CP L0 := ⟨tabs_ok types_eq, fun _ _ _ _ h => (by cases h), rfl⟩
theorem L1_ok {CP : (Nat → Option KT) → List Value → Prop} (hy : Hyp CP) : KitOK Tryz.prog CP L1 := (L0_ok hy).inl hy.cpm mix_ Tryz.func20 (ent_ Tryz.func20 rfl rfl) _ _ fun _ => rfl
theorem L2_ok {CP : (Nat → Option KT) → List Value → Prop} (hy : Hyp CP) : KitOK Tryz.prog CP L2 := ((L1_ok hy).ent hy.h61).below hy.h39
theorem L3_ok {CP : (Nat → Option KT) → List Value → Prop} (hy : Hyp CP) : KitOK Tryz.prog CP L3 := (L2_ok hy).inl hy.cpm mix_ Tryz.func21 (ent_ Tryz.func21 rfl rfl) _ _ fun _ => rfl
theorem L4_ok {CP : (Nat → Option KT) → List Value → Prop} (hy : Hyp CP) : KitOK Tryz.prog CP L4 := (L3_ok hy).inl hy.cpm mix_ Tryz.func29 (ent_ Tryz.func29 rfl rfl) _ _ fun _ => rfl
theorem c45_0 {CP : (Nat → Option KT) → List Value → Prop} (hy : Hyp CP) : CallOK Tryz.prog CP 45 [cur] none (c1 sU8) := (L4_ok hy).call hy.cpm mix_ Tryz.func45 (ent_ Tryz.func45 rfl rfl) (fun _ _ _ _ _ _ => noLp fun _ => rfl) e45_0
theorem L5_ok {CP : (Nat → Option KT) → List Value → Prop} (hy : Hyp CP) : KitOK Tryz.prog CP L5 := (L4_ok hy).ent (c45_0 hy)
theorem L6_ok {CP : (Nat → Option KT) → List Value → Prop} (hy : Hyp CP) : KitOK Tryz.prog CP L6 := (L5_ok hy).inl hy.cpm mix_ Tryz.func63 (ent_ Tryz.func63 rfl rfl) _ _ fun _ => rfl
theorem L7_ok {CP : (Nat → Option KT) → List Value → Prop} (hy : Hyp CP) : KitOK Tryz.prog CP L7 := (L6_ok hy).inl hy.cpm mix_ Tryz.func79 (ent_ Tryz.func79 rfl rfl) _ _ fun _ => rfl
theorem L8_ok {CP : (Nat → Option KT) → List Value → Prop} (hy : Hyp CP) : KitOK Tryz.prog CP L8 := (L7_ok hy).inl hy.cpm mix_ Tryz.func41 (ent_ Tryz.func41 rfl rfl) _ _ fun _ => rfl
theorem L9_ok {CP : (Nat → Option KT) → List Value → Prop} (hy : Hyp CP) : KitOK Tryz.prog CP L9 := (L8_ok hy).inl hy.cpm mix_ Tryz.func42 (ent_ Tryz.func42 rfl rfl) _ _ fun _ => rfl
theorem L10_ok {CP : (Nat → Option KT) → List Value → Prop} (hy : Hyp CP) : KitOK Tryz.prog CP L10 := (L9_ok hy).inl hy.cpm mix_ Tryz.func40 (ent_ Tryz.func40 rfl rfl) _ _ fun _ => rfl
theorem c26_0 {CP : (Nat → Option KT) → List Value → Prop} (hy : Hyp CP) : CallOK Tryz.prog CP 26 [U8] none ([⟨.one (.agg [.str, .int .i64 0 13 none]), [], none⟩]) := (L10_ok hy).call hy.cpm mix_ Tryz.func26 (ent_ Tryz.func26 rfl rfl) (fun _ _ _ _ _ _ => noLp fun _ => rfl) e26_0
theorem L11_ok {CP : (Nat → Option KT) → List Value → Prop} (hy : Hyp CP) : KitOK Tryz.prog CP L11 := (L10_ok hy).ent (c26_0 hy)
theorem c15_0 {CP : (Nat → Option KT) → List Value → Prop} (hy : Hyp CP) : CallOK Tryz.prog CP 15 [U8] none (c1 .str) := (L11_ok hy).call hy.cpm mix_ Tryz.func15 (ent_ Tryz.func15 rfl rfl) (fun _ _ _ _ _ _ => noLp fun _ => rfl) e15_0
theorem L12_ok {CP : (Nat → Option KT) → List Value → Prop} (hy : Hyp CP) : KitOK Tryz.prog CP L12 := (L11_ok hy).ent (c15_0 hy)
theorem c55_0 {CP : (Nat → Option KT) → List Value → Prop} (hy : Hyp CP) : CallOK Tryz.prog CP 55 [U8] none (c1 (.int .i64 (-1) 13 none)) := (L12_ok hy).call hy.cpm mix_ Tryz.func55 (ent_ Tryz.func55 rfl rfl) (fun _ _ _ _ _ _ => noLp fun _ => rfl) e55_0
theorem L13_ok {CP : (Nat → Option KT) → List Value → Prop} (hy : Hyp CP) : KitOK Tryz.prog CP L13 := (L12_ok hy).ent (c55_0 hy)
theorem c50_0 {CP : (Nat → Option KT) → List Value → Prop} (hy : Hyp CP) : CallOK Tryz.prog CP 50 [U8] none (c1 (.int .i64 0 3 none)) := (L13_ok hy).call hy.cpm mix_ Tryz.func50 (ent_ Tryz.func50 rfl rfl) (fun _ _ _ _ _ _ => noLp fun _ => rfl) e50_0
theorem L14_ok {CP : (Nat → Option KT) → List Value → Prop} (hy : Hyp CP) : KitOK Tryz.prog CP L14 := (L13_ok hy).ent (c50_0 hy)
theorem c49_0 {CP : (Nat → Option KT) → List Value → Prop} (hy : Hyp CP) : CallOK Tryz.prog CP 49 [U8] none (c1 (.int .i64 0 12 none)) := (L14_ok hy).call hy.cpm mix_ Tryz.func49 (ent_ Tryz.func49 rfl rfl) (fun _ _ _ _ _ _ => noLp fun _ => rfl) e49_0
theorem L15_ok {CP : (Nat → Option KT) → List Value → Prop} (hy : Hyp CP) : KitOK Tryz.prog CP L15 := (L14_ok hy).ent (c49_0 hy)
theorem L16_ok {CP : (Nat → Option KT) → List Value → Prop} (hy : Hyp CP) : KitOK Tryz.prog CP L16 := (L15_ok hy).inl hy.cpm mix_ Tryz.func69 (ent_ Tryz.func69 rfl rfl) _ _ fun _ => rfl
theorem L17_ok {CP : (Nat → Option KT) → List Value → Prop} (hy : Hyp CP) : KitOK Tryz.prog CP L17 := (L16_ok hy).inl hy.cpm mix_ Tryz.func96 (ent_ Tryz.func96 rfl rfl) _ _ fun _ => rfl
theorem L18_ok {CP : (Nat → Option KT) → List Value → Prop} (hy : Hyp CP) : KitOK Tryz.prog CP L18 := (L17_ok hy).inl hy.cpm mix_ Tryz.func95 (ent_ Tryz.func95 rfl rfl) _ _ fun _ => rfl
theorem L19_ok {CP : (Nat → Option KT) → List Value → Prop} (hy : Hyp CP) : KitOK Tryz.prog CP L19 := (L18_ok hy).inl hy.cpm mix_ Tryz.func67 (ent_ Tryz.func67 rfl rfl) _ _ fun _ => rfl
theorem L20_ok {CP : (Nat → Option KT) → List Value → Prop} (hy : Hyp CP) : KitOK Tryz.prog CP L20 := (L19_ok hy).inl hy.cpm mix_ Tryz.func72 (ent_ Tryz.func72 rfl rfl) _ _ fun _ => rfl
theorem L21_ok {CP : (Nat → Option KT) → List Value → Prop} (hy : Hyp CP) : KitOK Tryz.prog CP L21 := (L20_ok hy).inl hy.cpm mix_ Tryz.func65 (ent_ Tryz.func65 rfl rfl) _ _ fun _ => rfl
theorem L22_ok {CP : (Nat → Option KT) → List Value → Prop} (hy : Hyp CP) : KitOK Tryz.prog CP L22 := (L21_ok hy).inl hy.cpm mix_ Tryz.func32 (ent_ Tryz.func32 rfl rfl) _ _ fun _ => rfl
theorem L23_ok {CP : (Nat → Option KT) → List Value → Prop} (hy : Hyp CP) : KitOK Tryz.prog CP L23 := (L22_ok hy).inl hy.cpm mix_ Tryz.func25 (ent_ Tryz.func25 rfl rfl) _ _ fun _ => rfl
theorem L24_ok {CP : (Nat → Option KT) → List Value → Prop} (hy : Hyp CP) : KitOK Tryz.prog CP L24 := (L23_ok hy).inl hy.cpm mix_ Tryz.func53 (ent_ Tryz.func53 rfl rfl) _ _ fun _ => rfl
theorem L25_ok {CP : (Nat → Option KT) → List Value → Prop} (hy : Hyp CP) : KitOK Tryz.prog CP L25 := (L24_ok hy).inl hy.cpm mix_ Tryz.func35 (ent_ Tryz.func35 rfl rfl) _ _ fun _ => rfl
theorem c66_0 {CP : (Nat → Option KT) → List Value → Prop} (hy : Hyp CP) : CallOK Tryz.prog CP 66 [FL, BB] none (c1 sU8) := (L25_ok hy).call hy.cpm mix_ Tryz.func66 (ent_ Tryz.func66 rfl rfl) (fun _ _ _ _ _ _ => noLp fun _ => rfl) e66_0
theorem L26_ok {CP : (Nat → Option KT) → List Value → Prop} (hy : Hyp CP) : KitOK Tryz.prog CP L26 := (L25_ok hy).ent (c66_0 hy)
theorem c84_0 {CP : (Nat → Option KT) → List Value → Prop} (hy : Hyp CP) : CallOK Tryz.prog CP 84 [U8, U8, FL] none (outB8) := (L26_ok hy).call hy.cpm mix_ Tryz.func84 (ent_ Tryz.func84 rfl rfl) (fun _ _ _ _ _ _ => noLp fun _ => rfl) e84_0
theorem L27_ok {CP : (Nat → Option KT) → List Value → Prop} (hy : Hyp CP) : KitOK Tryz.prog CP L27 := (L26_ok hy).ent (c84_0 hy)
theorem c85_0 {CP : (Nat → Option KT) → List Value → Prop} (hy : Hyp CP) : CallOK Tryz.prog CP 85 [U8, U8, FL] none (outB8) := (L27_ok hy).call hy.cpm mix_ Tryz.func85 (ent_ Tryz.func85 rfl rfl) (fun _ _ _ _ _ _ => noLp fun _ => rfl) e85_0
theorem L28_ok {CP : (Nat → Option KT) → List Value → Prop} (hy : Hyp CP) : KitOK Tryz.prog CP L28 := (L27_ok hy).ent (c85_0 hy)
theorem c86_0 {CP : (Nat → Option KT) → List Value → Prop} (hy : Hyp CP) : CallOK Tryz.prog CP 86 [U8, U8, FL] none (outFL) := (L28_ok hy).call hy.cpm mix_ Tryz.func86 (ent_ Tryz.func86 rfl rfl) (fun _ _ _ _ _ _ => noLp fun _ => rfl) e86_0
theorem L29_ok {CP : (Nat → Option KT) → List Value → Prop} (hy : Hyp CP) : KitOK Tryz.prog CP L29 := (L28_ok hy).ent (c86_0 hy)
theorem c87_0 {CP : (Nat → Option KT) → List Value → Prop} (hy : Hyp CP) : CallOK Tryz.prog CP 87 [U8, U8, FL] none (outFL) := (L29_ok hy).call hy.cpm mix_ Tryz.func87 (ent_ Tryz.func87 rfl rfl) (fun _ _ _ _ _ _ => noLp fun _ => rfl) e87_0
theorem L30_ok {CP : (Nat → Option KT) → List Value → Prop} (hy : Hyp CP) : KitOK Tryz.prog CP L30 := (L29_ok hy).ent (c87_0 hy)
theorem L31_ok {CP : (Nat → Option KT) → List Value → Prop} (hy : Hyp CP) : KitOK Tryz.prog CP L31 := (L30_ok hy).inl hy.cpm mix_ Tryz.func51 (ent_ Tryz.func51 rfl rfl) _ _ fun _ => rfl
theorem L32_ok {CP : (Nat → Option KT) → List Value → Prop} (hy : Hyp CP) : KitOK Tryz.prog CP L32 := (L31_ok hy).inl hy.cpm mix_ Tryz.func64 (ent_ Tryz.func64 rfl rfl) _ _ fun _ => rfl
theorem L33_ok {CP : (Nat → Option KT) → List Value → Prop} (hy : Hyp CP) : KitOK Tryz.prog CP L33 := (L32_ok hy).inl hy.cpm mix_ Tryz.func80 (ent_ Tryz.func80 rfl rfl) _ _ fun _ => rfl
theorem L34_ok {CP : (Nat → Option KT) → List Value → Prop} (hy : Hyp CP) : KitOK Tryz.prog CP L34 := (L33_ok hy).inl hy.cpm mix_ Tryz.func81 (ent_ Tryz.func81 rfl rfl) _ _ fun _ => rfl
theorem L35_ok {CP : (Nat → Option KT) → List Value → Prop} (hy : Hyp CP) : KitOK Tryz.prog CP L35 := (L34_ok hy).inl hy.cpm mix_ Tryz.func82 (ent_ Tryz.func82 rfl rfl) _ _ fun _ => rfl
theorem L36_ok {CP : (Nat → Option KT) → List Value → Prop} (hy : Hyp CP) : KitOK Tryz.prog CP L36 := (L35_ok hy).inl hy.cpm mix_ Tryz.func83 (ent_ Tryz.func83 rfl rfl) _ _ fun _ => rfl
theorem L37_ok {CP : (Nat → Option KT) → List Value → Prop} (hy : Hyp CP) : KitOK Tryz.prog CP L37 := (L36_ok hy).inl hy.cpm mix_ Tryz.func75 (ent_ Tryz.func75 rfl rfl) _ _ fun _ => rfl
theorem c70_0 {CP : (Nat → Option KT) → List Value → Prop} (hy : Hyp CP) : CallOK Tryz.prog CP 70 [FL, STR] none (outFL) := (L37_ok hy).call hy.cpm mix_ Tryz.func70 (ent_ Tryz.func70 rfl rfl) (fun _ _ _ _ _ _ => noLp fun _ => rfl) e70_0
theorem L38_ok {CP : (Nat → Option KT) → List Value → Prop} (hy : Hyp CP) : KitOK Tryz.prog CP L38 := (L37_ok hy).ent (c70_0 hy)
theorem c71_0 {CP : (Nat → Option KT) → List Value → Prop} (hy : Hyp CP) : CallOK Tryz.prog CP 71 [FL, STR] none (c1 b_) := (L38_ok hy).call hy.cpm mix_ Tryz.func71 (ent_ Tryz.func71 rfl rfl) (fun _ _ _ _ _ _ => noLp fun _ => rfl) e71_0
theorem L39_ok {CP : (Nat → Option KT) → List Value → Prop} (hy : Hyp CP) : KitOK Tryz.prog CP L39 := (L38_ok hy).ent (c71_0 hy)
theorem c88_0 {CP : (Nat → Option KT) → List Value → Prop} (hy : Hyp CP) : CallOK Tryz.prog CP 88 [CPU, ii (-1) 13] none (c1 (.int .i64 0 255 none)) := (L39_ok hy).call hy.cpm mix_ Tryz.func88 (ent_ Tryz.func88 rfl rfl) (fun _ _ _ _ _ _ => noLp fun _ => rfl) e88_0
theorem L40_ok {CP : (Nat → Option KT) → List Value → Prop} (hy : Hyp CP) : KitOK Tryz.prog CP L40 := (L39_ok hy).ent (c88_0 hy)
theorem c68_0 {CP : (Nat → Option KT) → List Value → Prop} (hy : Hyp CP) : CallOK Tryz.prog CP 68 [STR, U8, FL] none (outB8) := (L40_ok hy).call hy.cpm mix_ Tryz.func68 (ent_ Tryz.func68 rfl rfl) (fun _ _ _ _ _ _ => noLp fun _ => rfl) e68_0
theorem L41_ok {CP : (Nat → Option KT) → List Value → Prop} (hy : Hyp CP) : KitOK Tryz.prog CP L41 := (L40_ok hy).ent (c68_0 hy)
theorem c73_0 {CP : (Nat → Option KT) → List Value → Prop} (hy : Hyp CP) : CallOK Tryz.prog CP 73 [CPU, STR, U8] none (outCPU) := (L41_ok hy).call hy.cpm mix_ Tryz.func73 (ent_ Tryz.func73 rfl rfl) (fun _ _ _ _ _ _ => noLp fun _ => rfl) e73_0
theorem L42_ok {CP : (Nat → Option KT) → List Value → Prop} (hy : Hyp CP) : KitOK Tryz.prog CP L42 := (L41_ok hy).ent (c73_0 hy)
theorem c54_0 {CP : (Nat → Option KT) → List Value → Prop} (hy : Hyp CP) : CallOK Tryz.prog CP 54 [CPU, STR, ii (-1) 13] none (outCPU) := (L42_ok hy).call hy.cpm mix_ Tryz.func54 (ent_ Tryz.func54 rfl rfl) (fun _ _ _ _ _ _ => noLp fun _ => rfl) e54_0
theorem L43_ok {CP : (Nat → Option KT) → List Value → Prop} (hy : Hyp CP) : KitOK Tryz.prog CP L43 := (L42_ok hy).ent (c54_0 hy)
theorem L44_ok {CP : (Nat → Option KT) → List Value → Prop} (hy : Hyp CP) : KitOK Tryz.prog CP L44 := (L43_ok hy).inl hy.cpm mix_ Tryz.func74 (ent_ Tryz.func74 rfl rfl) _ _ fun _ => rfl
theorem L45_ok {CP : (Nat → Option KT) → List Value → Prop} (hy : Hyp CP) : KitOK Tryz.prog CP L45 := (L44_ok hy).inl hy.cpm mix_ Tryz.func52 (ent_ Tryz.func52 rfl rfl) _ _ fun _ => rfl
theorem L46_ok {CP : (Nat → Option KT) → List Value → Prop} (hy : Hyp CP) : KitOK Tryz.prog CP L46 := (L45_ok hy).inl hy.cpm mix_ Tryz.func56 (ent_ Tryz.func56 rfl rfl) _ _ fun _ => rfl
theorem L47_ok {CP : (Nat → Option KT) → List Value → Prop} (hy : Hyp CP) : KitOK Tryz.prog CP L47 := (L46_ok hy).inl hy.cpm mix_ Tryz.func76 (ent_ Tryz.func76 rfl rfl) _ _ fun _ => rfl
theorem L48_ok {CP : (Nat → Option KT) → List Value → Prop} (hy : Hyp CP) : KitOK Tryz.prog CP L48 := (L47_ok hy).inl hy.cpm mix_ Tryz.func58 (ent_ Tryz.func58 rfl rfl) _ _ fun _ => rfl
theorem L49_ok {CP : (Nat → Option KT) → List Value → Prop} (hy : Hyp CP) : KitOK Tryz.prog CP L49 := (L48_ok hy).inl hy.cpm mix_ Tryz.func57 (ent_ Tryz.func57 rfl rfl) _ _ fun _ => rfl
theorem c36_0 {CP : (Nat → Option KT) → List Value → Prop} (hy : Hyp CP) : CallOK Tryz.prog CP 36 [CPU, RAMG 0 255] none (stepOut) := (L49_ok hy).call hy.cpm mix_ Tryz.func36 (ent_ Tryz.func36 rfl rfl) (fun _ _ _ _ _ _ => noLp fun _ => rfl) e36_0
theorem c36_1 {CP : (Nat → Option KT) → List Value → Prop} (hy : Hyp CP) : CallOK Tryz.prog CP 36 [CPU, RAMG 256 256] none (stepOut) := (L49_ok hy).call hy.cpm mix_ Tryz.func36 (ent_ Tryz.func36 rfl rfl) (fun _ _ _ _ _ _ => noLp fun _ => rfl) e36_1
theorem c36_2 {CP : (Nat → Option KT) → List Value → Prop} (hy : Hyp CP) : CallOK Tryz.prog CP 36 [CPU, RAMG 257 511] none (stepOut) := (L49_ok hy).call hy.cpm mix_ Tryz.func36 (ent_ Tryz.func36 rfl rfl) (fun _ _ _ _ _ _ => noLp fun _ => rfl) e36_2
theorem c36_3 {CP : (Nat → Option KT) → List Value → Prop} (hy : Hyp CP) : CallOK Tryz.prog CP 36 [CPU, RAMG 512 512] none (stepOut) := (L49_ok hy).call hy.cpm mix_ Tryz.func36 (ent_ Tryz.func36 rfl rfl) (fun _ _ _ _ _ _ => noLp fun _ => rfl) e36_3
theorem c36_4 {CP : (Nat → Option KT) → List Value → Prop} (hy : Hyp CP) : CallOK Tryz.prog CP 36 [CPU, RAMG 513 1023] none (stepOut) := (L49_ok hy).call hy.cpm mix_ Tryz.func36 (ent_ Tryz.func36 rfl rfl) (fun _ _ _ _ _ _ => noLp fun _ => rfl) e36_4
theorem c36_5 {CP : (Nat → Option KT) → List Value → Prop} (hy : Hyp CP) : CallOK Tryz.prog CP 36 [CPU, RAMG 1024 1024] none (stepOut) := (L49_ok hy).call hy.cpm mix_ Tryz.func36 (ent_ Tryz.func36 rfl rfl) (fun _ _ _ _ _ _ => noLp fun _ => rfl) e36_5
theorem c36_6 {CP : (Nat → Option KT) → List Value → Prop} (hy : Hyp CP) : CallOK Tryz.prog CP 36 [CPU, RAMG 1025 2047] none (stepOut) := (L49_ok hy).call hy.cpm mix_ Tryz.func36 (ent_ Tryz.func36 rfl rfl) (fun _ _ _ _ _ _ => noLp fun _ => rfl) e36_6
theorem c36_7 {CP : (Nat → Option KT) → List Value → Prop} (hy : Hyp CP) : CallOK Tryz.prog CP 36 [CPU, RAMG 2048 2048] none (stepOut) := (L49_ok hy).call hy.cpm mix_ Tryz.func36 (ent_ Tryz.func36 rfl rfl) (fun _ _ _ _ _ _ => noLp fun _ => rfl) e36_7
theorem c36_8 {CP : (Nat → Option KT) → List Value → Prop} (hy : Hyp CP) : CallOK Tryz.prog CP 36 [CPU, RAMG 2049 4095] none (stepOut) := (L49_ok hy).call hy.cpm mix_ Tryz.func36 (ent_ Tryz.func36 rfl rfl) (fun _ _ _ _ _ _ => noLp fun _ => rfl) e36_8
theorem c36_9 {CP : (Nat → Option KT) → List Value → Prop} (hy : Hyp CP) : CallOK Tryz.prog CP 36 [CPU, RAMG 4096 4096] none (stepOut) := (L49_ok hy).call hy.cpm mix_ Tryz.func36 (ent_ Tryz.func36 rfl rfl) (fun _ _ _ _ _ _ => noLp fun _ => rfl) e36_9
theorem cany36 {CP : (Nat → Option KT) → List Value → Prop} (hy : Hyp CP) : CallOK Tryz.prog CP 36 [CPU, RANY] none (stepOut) := any_ok [CPU] [] [u8] 0 4096 (0, 255) RLt rfl ⟨c36_0 hy, c36_1 hy, c36_2 hy, c36_3 hy, c36_4 hy, c36_5 hy, c36_6 hy, c36_7 hy, c36_8 hy, c36_9 hy, trivial⟩
theorem L50_ok {CP : (Nat → Option KT) → List Value → Prop} (hy : Hyp CP) : KitOK Tryz.prog CP L50 := (L49_ok hy).ent (cany36 hy)
theorem c34_0 {CP : (Nat → Option KT) → List Value → Prop} (hy : Hyp CP) : CallOK Tryz.prog CP 34 [CPU, RAMG 0 255, BB] none (stepOut) := (L50_ok hy).call hy.cpm mix_ Tryz.func34 (ent_ Tryz.func34 rfl rfl) (fun _ _ _ _ _ _ => noLp fun _ => rfl) e34_0
theorem c34_1 {CP : (Nat → Option KT) → List Value → Prop} (hy : Hyp CP) : CallOK Tryz.prog CP 34 [CPU, RAMG 256 256, BB] none (stepOut) := (L50_ok hy).call hy.cpm mix_ Tryz.func34 (ent_ Tryz.func34 rfl rfl) (fun _ _ _ _ _ _ => noLp fun _ => rfl) e34_1
theorem c34_2 {CP : (Nat → Option KT) → List Value → Prop} (hy : Hyp CP) : CallOK Tryz.prog CP 34 [CPU, RAMG 257 511, BB] none (stepOut) := (L50_ok hy).call hy.cpm mix_ Tryz.func34 (ent_ Tryz.func34 rfl rfl) (fun _ _ _ _ _ _ => noLp fun _ => rfl) e34_2
theorem c34_3 {CP : (Nat → Option KT) → List Value → Prop} (hy : Hyp CP) : CallOK Tryz.prog CP 34 [CPU, RAMG 512 512, BB] none (stepOut) := (L50_ok hy).call hy.cpm mix_ Tryz.func34 (ent_ Tryz.func34 rfl rfl) (fun _ _ _ _ _ _ => noLp fun _ => rfl) e34_3
theorem c34_4 {CP : (Nat → Option KT) → List Value → Prop} (hy : Hyp CP) : CallOK Tryz.prog CP 34 [CPU, RAMG 513 1023, BB] none (stepOut) := (L50_ok hy).call hy.cpm mix_ Tryz.func34 (ent_ Tryz.func34 rfl rfl) (fun _ _ _ _ _ _ => noLp fun _ => rfl) e34_4
theorem c34_5 {CP : (Nat → Option KT) → List Value → Prop} (hy : Hyp CP) : CallOK Tryz.prog CP 34 [CPU, RAMG 1024 1024, BB] none (stepOut) := (L50_ok hy).call hy.cpm mix_ Tryz.func34 (ent_ Tryz.func34 rfl rfl) (fun _ _ _ _ _ _ => noLp fun _ => rfl) e34_5
theorem c34_6 {CP : (Nat → Option KT) → List Value → Prop} (hy : Hyp CP) : CallOK Tryz.prog CP 34 [CPU, RAMG 1025 2047, BB] none (stepOut) := (L50_ok hy).call hy.cpm mix_ Tryz.func34 (ent_ Tryz.func34 rfl rfl) (fun _ _ _ _ _ _ => noLp fun _ => rfl) e34_6
theorem c34_7 {CP : (Nat → Option KT) → List Value → Prop} (hy : Hyp CP) : CallOK Tryz.prog CP 34 [CPU, RAMG 2048 2048, BB] none (stepOut) := (L50_ok hy).call hy.cpm mix_ Tryz.func34 (ent_ Tryz.func34 rfl rfl) (fun _ _ _ _ _ _ => noLp fun _ => rfl) e34_7
theorem c34_8 {CP : (Nat → Option KT) → List Value → Prop} (hy : Hyp CP) : CallOK Tryz.prog CP 34 [CPU, RAMG 2049 4095, BB] none (stepOut) := (L50_ok hy).call hy.cpm mix_ Tryz.func34 (ent_ Tryz.func34 rfl rfl) (fun _ _ _ _ _ _ => noLp fun _ => rfl) e34_8
theorem c34_9 {CP : (Nat → Option KT) → List Value → Prop} (hy : Hyp CP) : CallOK Tryz.prog CP 34 [CPU, RAMG 4096 4096, BB] none (stepOut) := (L50_ok hy).call hy.cpm mix_ Tryz.func34 (ent_ Tryz.func34 rfl rfl) (fun _ _ _ _ _ _ => noLp fun _ => rfl) e34_9
theorem cany34 {CP : (Nat → Option KT) → List Value → Prop} (hy : Hyp CP) : CallOK Tryz.prog CP 34 [CPU, RANY, BB] none (stepOut) := any_ok [CPU] [BB] [u8] 0 4096 (0, 255) RLt rfl ⟨c34_0 hy, c34_1 hy, c34_2 hy, c34_3 hy, c34_4 hy, c34_5 hy, c34_6 hy, c34_7 hy, c34_8 hy, c34_9 hy, trivial⟩
theorem L51_ok {CP : (Nat → Option KT) → List Value → Prop} (hy : Hyp CP) : KitOK Tryz.prog CP L51 := (L50_ok hy).ent (cany34 hy)
theorem c33_0 {CP : (Nat → Option KT) → List Value → Prop} (hy : Hyp CP) : CallOK Tryz.prog CP 33 [EV, ii 0 20, BB] none (c1 b_) := (L51_ok hy).call hy.cpm mix_ Tryz.func33 (ent_ Tryz.func33 rfl rfl) (fun _ _ _ _ _ _ => noLp fun _ => rfl) e33_0
theorem L52_ok {CP : (Nat → Option KT) → List Value → Prop} (hy : Hyp CP) : KitOK Tryz.prog CP L52 := (L51_ok hy).ent (c33_0 hy)
theorem c35_0 {CP : (Nat → Option KT) → List Value → Prop} (hy : Hyp CP) : CallOK Tryz.prog CP 35 [RAMG 0 255, U16] none (c1 b_) := (L52_ok hy).call hy.cpm mix_ Tryz.func35 (ent_ Tryz.func35 rfl rfl) (fun _ _ _ _ _ _ => noLp fun _ => rfl) e35_0
theorem c35_1 {CP : (Nat → Option KT) → List Value → Prop} (hy : Hyp CP) : CallOK Tryz.prog CP 35 [RAMG 256 256, U16] none (c1 b_) := (L52_ok hy).call hy.cpm mix_ Tryz.func35 (ent_ Tryz.func35 rfl rfl) (fun _ _ _ _ _ _ => noLp fun _ => rfl) e35_1
theorem c35_2 {CP : (Nat → Option KT) → List Value → Prop} (hy : Hyp CP) : CallOK Tryz.prog CP 35 [RAMG 257 511, U16] none (c1 b_) := (L52_ok hy).call hy.cpm mix_ Tryz.func35 (ent_ Tryz.func35 rfl rfl) (fun _ _ _ _ _ _ => noLp fun _ => rfl) e35_2
theorem c35_3 {CP : (Nat → Option KT) → List Value → Prop} (hy : Hyp CP) : CallOK Tryz.prog CP 35 [RAMG 512 512, U16] none (c1 b_) := (L52_ok hy).call hy.cpm mix_ Tryz.func35 (ent_ Tryz.func35 rfl rfl) (fun _ _ _ _ _ _ => noLp fun _ => rfl) e35_3
theorem c35_4 {CP : (Nat → Option KT) → List Value → Prop} (hy : Hyp CP) : CallOK Tryz.prog CP 35 [RAMG 513 1023, U16] none (c1 b_) := (L52_ok hy).call hy.cpm mix_ Tryz.func35 (ent_ Tryz.func35 rfl rfl) (fun _ _ _ _ _ _ => noLp fun _ => rfl) e35_4
theorem c35_5 {CP : (Nat → Option KT) → List Value → Prop} (hy : Hyp CP) : CallOK Tryz.prog CP 35 [RAMG 1024 1024, U16] none (c1 b_) := (L52_ok hy).call hy.cpm mix_ Tryz.func35 (ent_ Tryz.func35 rfl rfl) (fun _ _ _ _ _ _ => noLp fun _ => rfl) e35_5
theorem c35_6 {CP : (Nat → Option KT) → List Value → Prop} (hy : Hyp CP) : CallOK Tryz.prog CP 35 [RAMG 1025 2047, U16] none (c1 b_) := (L52_ok hy).call hy.cpm mix_ Tryz.func35 (ent_ Tryz.func35 rfl rfl) (fun _ _ _ _ _ _ => noLp fun _ => rfl) e35_6
theorem c35_7 {CP : (Nat → Option KT) → List Value → Prop} (hy : Hyp CP) : CallOK Tryz.prog CP 35 [RAMG 2048 2048, U16] none (c1 b_) := (L52_ok hy).call hy.cpm mix_ Tryz.func35 (ent_ Tryz.func35 rfl rfl) (fun _ _ _ _ _ _ => noLp fun _ => rfl) e35_7
theorem c35_8 {CP : (Nat → Option KT) → List Value → Prop} (hy : Hyp CP) : CallOK Tryz.prog CP 35 [RAMG 2049 4095, U16] none (c1 b_) := (L52_ok hy).call hy.cpm mix_ Tryz.func35 (ent_ Tryz.func35 rfl rfl) (fun _ _ _ _ _ _ => noLp fun _ => rfl) e35_8
theorem c35_9 {CP : (Nat → Option KT) → List Value → Prop} (hy : Hyp CP) : CallOK Tryz.prog CP 35 [RAMG 4096 4096, U16] none (c1 b_) := (L52_ok hy).call hy.cpm mix_ Tryz.func35 (ent_ Tryz.func35 rfl rfl) (fun _ _ _ _ _ _ => noLp fun _ => rfl) e35_9
theorem cany35 {CP : (Nat → Option KT) → List Value → Prop} (hy : Hyp CP) : CallOK Tryz.prog CP 35 [RANY, U16] none (c1 b_) := any_ok [] [U16] [u8] 0 4096 (0, 255) RLt rfl ⟨c35_0 hy, c35_1 hy, c35_2 hy, c35_3 hy, c35_4 hy, c35_5 hy, c35_6 hy, c35_7 hy, c35_8 hy, c35_9 hy, trivial⟩
theorem L53_ok {CP : (Nat → Option KT) → List Value → Prop} (hy : Hyp CP) : KitOK Tryz.prog CP L53 := (L52_ok hy).ent (cany35 hy)
theorem c48_0 {CP : (Nat → Option KT) → List Value → Prop} (hy : Hyp CP) : CallOK Tryz.prog CP 48 [cur] none (c1 sU8) := (L53_ok hy).call hy.cpm mix_ Tryz.func48 (ent_ Tryz.func48 rfl rfl) (fun _ _ _ _ _ _ => noLp fun _ => rfl) e48_0
theorem L54_ok {CP : (Nat → Option KT) → List Value → Prop} (hy : Hyp CP) : KitOK Tryz.prog CP L54 := (L53_ok hy).ent (c48_0 hy)
theorem c46_0 {CP : (Nat → Option KT) → List Value → Prop} (hy : Hyp CP) : CallOK Tryz.prog CP 46 [cur] none (c1 sU16) := (L54_ok hy).call hy.cpm mix_ Tryz.func46 (ent_ Tryz.func46 rfl rfl) (fun _ _ _ _ _ _ => noLp fun _ => rfl) e46_0
theorem L55_ok {CP : (Nat → Option KT) → List Value → Prop} (hy : Hyp CP) : KitOK Tryz.prog CP L55 := (L54_ok hy).ent (c46_0 hy)
theorem c47_0 {CP : (Nat → Option KT) → List Value → Prop} (hy : Hyp CP) : CallOK Tryz.prog CP 47 [cur] none (outFL) := (L55_ok hy).call hy.cpm mix_ Tryz.func47 (ent_ Tryz.func47 rfl rfl) (fun _ _ _ _ _ _ => noLp fun _ => rfl) e47_0
theorem L56_ok {CP : (Nat → Option KT) → List Value → Prop} (hy : Hyp CP) : KitOK Tryz.prog CP L56 := (L55_ok hy).ent (c47_0 hy)
theorem c28_0 {CP : (Nat → Option KT) → List Value → Prop} (hy : Hyp CP) : CallOK Tryz.prog CP 28 [cur] none (outCPU) := (L56_ok hy).call hy.cpm mix_ Tryz.func28 (ent_ Tryz.func28 rfl rfl) (fun _ _ _ _ _ _ => noLp fun _ => rfl) e28_0
theorem L57_ok {CP : (Nat → Option KT) → List Value → Prop} (hy : Hyp CP) : KitOK Tryz.prog CP L57 := (L56_ok hy).ent (c28_0 hy)
theorem c44_0 {CP : (Nat → Option KT) → List Value → Prop} (hy : Hyp CP) : CallOK Tryz.prog CP 44 [cur, ii 60 60] none (c1 (.slice [u8] 60 240 none)) := (L57_ok hy).call hy.cpm mix_ Tryz.func44 (ent_ Tryz.func44 rfl rfl) (fun _ _ _ _ _ _ => noLp fun _ => rfl) e44_0
theorem L58_ok {CP : (Nat → Option KT) → List Value → Prop} (hy : Hyp CP) : KitOK Tryz.prog CP L58 := (L57_ok hy).ent (c44_0 hy)
theorem L59_ok {CP : (Nat → Option KT) → List Value → Prop} (hy : Hyp CP) : KitOK Tryz.prog CP L59 := (L58_ok hy).inl hy.cpm mix_ Tryz.func43 (ent_ Tryz.func43 rfl rfl) _ _ fun _ => rfl
theorem c31_0 {CP : (Nat → Option KT) → List Value → Prop} (hy : Hyp CP) : CallOK Tryz.prog CP 31 [RAMG 0 255, U16, SB 0 300] none (ranyOut) := (L59_ok hy).call hy.cpm mix_ Tryz.func31 (ent_ Tryz.func31 rfl rfl) (fun _ _ _ _ _ _ => noLp fun _ => rfl) e31_0
theorem c31_1 {CP : (Nat → Option KT) → List Value → Prop} (hy : Hyp CP) : CallOK Tryz.prog CP 31 [RAMG 256 256, U16, SB 0 300] none (ranyOut) := (L59_ok hy).call hy.cpm mix_ Tryz.func31 (ent_ Tryz.func31 rfl rfl) (fun _ _ _ _ _ _ => noLp fun _ => rfl) e31_1
theorem c31_2 {CP : (Nat → Option KT) → List Value → Prop} (hy : Hyp CP) : CallOK Tryz.prog CP 31 [RAMG 257 511, U16, SB 0 300] none (ranyOut) := (L59_ok hy).call hy.cpm mix_ Tryz.func31 (ent_ Tryz.func31 rfl rfl) (fun _ _ _ _ _ _ => noLp fun _ => rfl) e31_2
theorem c31_3 {CP : (Nat → Option KT) → List Value → Prop} (hy : Hyp CP) : CallOK Tryz.prog CP 31 [RAMG 512 512, U16, SB 0 300] none (ranyOut) := (L59_ok hy).call hy.cpm mix_ Tryz.func31 (ent_ Tryz.func31 rfl rfl) (fun _ _ _ _ _ _ => noLp fun _ => rfl) e31_3
theorem c31_4 {CP : (Nat → Option KT) → List Value → Prop} (hy : Hyp CP) : CallOK Tryz.prog CP 31 [RAMG 513 1023, U16, SB 0 300] none (ranyOut) := (L59_ok hy).call hy.cpm mix_ Tryz.func31 (ent_ Tryz.func31 rfl rfl) (fun _ _ _ _ _ _ => noLp fun _ => rfl) e31_4
theorem c31_5 {CP : (Nat → Option KT) → List Value → Prop} (hy : Hyp CP) : CallOK Tryz.prog CP 31 [RAMG 1024 1024, U16, SB 0 300] none (ranyOut) := (L59_ok hy).call hy.cpm mix_ Tryz.func31 (ent_ Tryz.func31 rfl rfl) (fun _ _ _ _ _ _ => noLp fun _ => rfl) e31_5
theorem c31_6 {CP : (Nat → Option KT) → List Value → Prop} (hy : Hyp CP) : CallOK Tryz.prog CP 31 [RAMG 1025 2047, U16, SB 0 300] none (ranyOut) := (L59_ok hy).call hy.cpm mix_ Tryz.func31 (ent_ Tryz.func31 rfl rfl) (fun _ _ _ _ _ _ => noLp fun _ => rfl) e31_6
theorem c31_7 {CP : (Nat → Option KT) → List Value → Prop} (hy : Hyp CP) : CallOK Tryz.prog CP 31 [RAMG 2048 2048, U16, SB 0 300] none (ranyOut) := (L59_ok hy).call hy.cpm mix_ Tryz.func31 (ent_ Tryz.func31 rfl rfl) (fun _ _ _ _ _ _ => noLp fun _ => rfl) e31_7
theorem c31_8 {CP : (Nat → Option KT) → List Value → Prop} (hy : Hyp CP) : CallOK Tryz.prog CP 31 [RAMG 2049 4095, U16, SB 0 300] none (ranyOut) := (L59_ok hy).call hy.cpm mix_ Tryz.func31 (ent_ Tryz.func31 rfl rfl) (fun _ _ _ _ _ _ => noLp fun _ => rfl) e31_8
theorem c31_9 {CP : (Nat → Option KT) → List Value → Prop} (hy : Hyp CP) : CallOK Tryz.prog CP 31 [RAMG 4096 4096, U16, SB 0 300] none (ranyOut) := (L59_ok hy).call hy.cpm mix_ Tryz.func31 (ent_ Tryz.func31 rfl rfl) (fun _ _ _ _ _ _ => noLp fun _ => rfl) e31_9
theorem cany31 {CP : (Nat → Option KT) → List Value → Prop} (hy : Hyp CP) : CallOK Tryz.prog CP 31 [RANY, U16, SB 0 300] none (ranyOut) := any_ok [] [U16, SB 0 300] [u8] 0 4096 (0, 255) RLt rfl ⟨c31_0 hy, c31_1 hy, c31_2 hy, c31_3 hy, c31_4 hy, c31_5 hy, c31_6 hy, c31_7 hy, c31_8 hy, c31_9 hy, trivial⟩
theorem L60_ok {CP : (Nat → Option KT) → List Value → Prop} (hy : Hyp CP) : KitOK Tryz.prog CP L60 := (L59_ok hy).ent (cany31 hy)
theorem c27_0 {CP : (Nat → Option KT) → List Value → Prop} (hy : Hyp CP) : CallOK Tryz.prog CP 27 [cur] none (ranyOut) := (L60_ok hy).call hy.cpm mix_ Tryz.func27 (ent_ Tryz.func27 rfl rfl) (fun _ _ _ _ _ _ => noLp fun _ => rfl) e27_0
theorem L61_ok {CP : (Nat → Option KT) → List Value → Prop} (hy : Hyp CP) : KitOK Tryz.prog CP L61 := (L60_ok hy).ent (c27_0 hy)
theorem c30_0 {CP : (Nat → Option KT) → List Value → Prop} (hy : Hyp CP) : CallOK Tryz.prog CP 30 [cur] none ([⟨SB 0 100, [], none⟩]) := (L61_ok hy).call hy.cpm mix_ Tryz.func30 (ent_ Tryz.func30 rfl rfl) (fun _ _ _ _ _ _ => noLp fun _ => rfl) e30_0
theorem L62_ok {CP : (Nat → Option KT) → List Value → Prop} (hy : Hyp CP) : KitOK Tryz.prog CP L62 := (L61_ok hy).ent (c30_0 hy)
theorem c17_0 {CP : (Nat → Option KT) → List Value → Prop} (hy : Hyp CP) : CallOK Tryz.prog CP 17 [cur] none ([⟨.tup [.agg cpC, .agg [.slice [u8] 0 4096 none]], [], none⟩]) := (L62_ok hy).call hy.cpm mix_ Tryz.func17 (ent_ Tryz.func17 rfl rfl) (fun _ _ _ _ _ _ => noLp fun _ => rfl) e17_0
theorem L63_ok {CP : (Nat → Option KT) → List Value → Prop} (hy : Hyp CP) : KitOK Tryz.prog CP L63 := (L62_ok hy).ent (c17_0 hy)
theorem c19_0 {CP : (Nat → Option KT) → List Value → Prop} (hy : Hyp CP) : CallOK Tryz.prog CP 19 [cur] none ([⟨.one (.cell (.slice [i64, .bool] 0 3 none)), [], none⟩]) := (L63_ok hy).call hy.cpm mix_ Tryz.func19 (ent_ Tryz.func19 rfl rfl) (fun _ _ _ _ _ _ => noLp fun _ => rfl) e19_0
theorem L64_ok {CP : (Nat → Option KT) → List Value → Prop} (hy : Hyp CP) : KitOK Tryz.prog CP L64 := (L63_ok hy).ent (c19_0 hy)
theorem lp18 : ∀ d ∈ loopsAt 0 (Tryz.f18.body.getD .skip), d = runD := by
  have h : loopsAt 0 (Tryz.f18.body.getD .skip) = [runD] := by kernel_rfl
  intro d hd
  rw [h] at hd
  exact List.mem_singleton.1 hd
theorem c18_0 {CP : (Nat → Option KT) → List Value → Prop} (hy : Hyp CP) : CallOK Tryz.prog CP 18 [CPU, RANY, EV, ii 1 20] none ([⟨.one (.agg (shot 20)), [], none⟩]) := (L64_ok hy).call hy.cpm mix_ Tryz.func18 (ent_ Tryz.func18 rfl rfl) (fun c hc X hP hCP hX id S0 R hlp d hd => by
  have hb : Tryz.f18.body.getD .skip = c := by rw [hc]; rfl
  have h0 : (if id = 0 then some (runH 0, (⟨[], runEX, []⟩ : Res)) else none) = some (S0, R) := hlp
  split at h0
  · rename_i hi
    subst hi
    cases h0
    rw [← hb] at hd
    rw [lp18 d hd]
    exact heads_ok hX ⟨by rw [hP]; exact (L64_ok hy).tab, by rw [hP, hCP]; exact (L64_ok hy).T, hX.trans (L64_ok hy).hd⟩ (by rw [hP]; exact mix_) (noLp fun _ => rfl) (n := 20) (fun k hk => by
      match k, hk with
      | 0, _ => exact r18_0
      | 1, _ => exact r18_1
      | 2, _ => exact r18_2
      | 3, _ => exact r18_3
      | 4, _ => exact r18_4
      | 5, _ => exact r18_5
      | 6, _ => exact r18_6
      | 7, _ => exact r18_7
      | 8, _ => exact r18_8
      | 9, _ => exact r18_9
      | 10, _ => exact r18_10
      | 11, _ => exact r18_11
      | 12, _ => exact r18_12
      | 13, _ => exact r18_13
      | 14, _ => exact r18_14
      | 15, _ => exact r18_15
      | 16, _ => exact r18_16
      | 17, _ => exact r18_17
      | 18, _ => exact r18_18
      | 19, _ => exact r18_19
      | n + 20, h => exact absurd h (by omega)) r18_20
  · cases h0) e18_0
theorem L65_ok {CP : (Nat → Option KT) → List Value → Prop} (hy : Hyp CP) : KitOK Tryz.prog CP L65 := (L64_ok hy).ent (c18_0 hy)
end Go.Proofs.YtnoelppkcbelcaaGreatDoor.Ty
