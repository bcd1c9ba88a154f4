/-
What the machine's functions return.
-/
import Derived.Test.YtnoelppkcbelcaaTyE0
import Derived.Test.YtnoelppkcbelcaaTyE1
import Derived.Test.YtnoelppkcbelcaaTyE2
import Derived.Test.YtnoelppkcbelcaaTyE3
import Derived.Test.YtnoelppkcbelcaaTyE4
import Derived.Test.YtnoelppkcbelcaaTyE5
import Derived.Test.YtnoelppkcbelcaaTyE6
import Derived.Test.YtnoelppkcbelcaaTyE7
import Derived.Test.YtnoelppkcbelcaaTyE8
import Derived.Test.YtnoelppkcbelcaaTyE9
import Derived.Test.YtnoelppkcbelcaaTyE10
import Derived.Test.YtnoelppkcbelcaaTyE11
import Derived.Test.YtnoelppkcbelcaaTyE12
set_option linter.unusedVariables false
set_option linter.unusedSimpArgs false
set_option maxHeartbeats 0
set_option maxRecDepth 100000
namespace Go.Proofs.Ytnoelppkcbelcaa.Ty
open Go Go.RowKit
theorem mix_ : Try.prog.follows .mixedOrders = true := by kernel_rfl
theorem ent_ {f : FuncId} {fn : Func} (hf : Try.prog.funcs[f]? = some fn) (hname : (fn.name == "runtime.NumGoroutine") = false) (hb : fn.body.isSome = true) (vs : Array Value) (w : World) : (callFunc f vs).run Try.prog w = .ok (.enter f vs) w := by
  have h1 : fn.name ≠ "runtime.NumGoroutine" := by simpa using hname
  obtain ⟨c, hc⟩ := Option.isSome_iff_exists.1 hb
  simp [callFunc, hf, h1, hc]
structure Hyp (CP : (Nat → Option KT) → List Value → Prop) : Prop where
  cpm : ∀ (K K' : Nat → Option KT), (∀ g k, K g = some k → K' g = some k) → ∀ vs, CP K vs → CP K' vs
  h61 : CallOK Try.prog CP 61 [cur] none outByte
  h39 : ∀ hi, CallOK Try.prog CP 39 [cur, ii 1 hi] none [⟨ii 0 (hi - 1), [], some 1⟩]
theorem L0_ok {CP : (Nat → Option KT) → List Value → Prop} (hy : Hyp CP) : KitOK Try.prog CP L0 := ⟨tabs_ok types_eq, fun _ _ _ _ h => (by cases h), rfl⟩
theorem L1_ok {CP : (Nat → Option KT) → List Value → Prop} (hy : Hyp CP) : KitOK Try.prog CP L1 := (L0_ok hy).inl hy.cpm mix_ Try.func39 (ent_ Try.func39 rfl rfl) _ _ fun _ => rfl
theorem L2_ok {CP : (Nat → Option KT) → List Value → Prop} (hy : Hyp CP) : KitOK Try.prog CP L2 := ((L1_ok hy).ent hy.h61).below hy.h39
theorem L3_ok {CP : (Nat → Option KT) → List Value → Prop} (hy : Hyp CP) : KitOK Try.prog CP L3 := (L2_ok hy).inl hy.cpm mix_ Try.func38 (ent_ Try.func38 rfl rfl) _ _ fun _ => rfl
theorem L4_ok {CP : (Nat → Option KT) → List Value → Prop} (hy : Hyp CP) : KitOK Try.prog CP L4 := (L3_ok hy).inl hy.cpm mix_ Try.func58 (ent_ Try.func58 rfl rfl) _ _ fun _ => rfl
theorem c59_0 {CP : (Nat → Option KT) → List Value → Prop} (hy : Hyp CP) : CallOK Try.prog CP 59 [cur] none (c1 sU8) := (L4_ok hy).call hy.cpm mix_ Try.func59 (ent_ Try.func59 rfl rfl) (fun _ _ _ _ _ _ => noLp fun _ => rfl) e59_0
theorem L5_ok {CP : (Nat → Option KT) → List Value → Prop} (hy : Hyp CP) : KitOK Try.prog CP L5 := (L4_ok hy).ent (c59_0 hy)
theorem L6_ok {CP : (Nat → Option KT) → List Value → Prop} (hy : Hyp CP) : KitOK Try.prog CP L6 := (L5_ok hy).inl hy.cpm mix_ Try.func115 (ent_ Try.func115 rfl rfl) _ _ fun _ => rfl
theorem L7_ok {CP : (Nat → Option KT) → List Value → Prop} (hy : Hyp CP) : KitOK Try.prog CP L7 := (L6_ok hy).inl hy.cpm mix_ Try.func135 (ent_ Try.func135 rfl rfl) _ _ fun _ => rfl
theorem L8_ok {CP : (Nat → Option KT) → List Value → Prop} (hy : Hyp CP) : KitOK Try.prog CP L8 := (L7_ok hy).inl hy.cpm mix_ Try.func137 (ent_ Try.func137 rfl rfl) _ _ fun _ => rfl
theorem L9_ok {CP : (Nat → Option KT) → List Value → Prop} (hy : Hyp CP) : KitOK Try.prog CP L9 := (L8_ok hy).inl hy.cpm mix_ Try.func138 (ent_ Try.func138 rfl rfl) _ _ fun _ => rfl
theorem L10_ok {CP : (Nat → Option KT) → List Value → Prop} (hy : Hyp CP) : KitOK Try.prog CP L10 := (L9_ok hy).inl hy.cpm mix_ Try.func136 (ent_ Try.func136 rfl rfl) _ _ fun _ => rfl
theorem c119_0 {CP : (Nat → Option KT) → List Value → Prop} (hy : Hyp CP) : CallOK Try.prog CP 119 [U8] none ([⟨.one (.agg [.str, .int .i64 0 13 none]), [], none⟩]) := (L10_ok hy).call hy.cpm mix_ Try.func119 (ent_ Try.func119 rfl rfl) (fun _ _ _ _ _ _ => noLp fun _ => rfl) e119_0
theorem L11_ok {CP : (Nat → Option KT) → List Value → Prop} (hy : Hyp CP) : KitOK Try.prog CP L11 := (L10_ok hy).ent (c119_0 hy)
theorem c97_0 {CP : (Nat → Option KT) → List Value → Prop} (hy : Hyp CP) : CallOK Try.prog CP 97 [U8] none (c1 .str) := (L11_ok hy).call hy.cpm mix_ Try.func97 (ent_ Try.func97 rfl rfl) (fun _ _ _ _ _ _ => noLp fun _ => rfl) e97_0
theorem L12_ok {CP : (Nat → Option KT) → List Value → Prop} (hy : Hyp CP) : KitOK Try.prog CP L12 := (L11_ok hy).ent (c97_0 hy)
theorem c100_0 {CP : (Nat → Option KT) → List Value → Prop} (hy : Hyp CP) : CallOK Try.prog CP 100 [U8] none (c1 (.int .i64 (-1) 13 none)) := (L12_ok hy).call hy.cpm mix_ Try.func100 (ent_ Try.func100 rfl rfl) (fun _ _ _ _ _ _ => noLp fun _ => rfl) e100_0
theorem L13_ok {CP : (Nat → Option KT) → List Value → Prop} (hy : Hyp CP) : KitOK Try.prog CP L13 := (L12_ok hy).ent (c100_0 hy)
theorem c94_0 {CP : (Nat → Option KT) → List Value → Prop} (hy : Hyp CP) : CallOK Try.prog CP 94 [U8] none (c1 (.int .i64 0 3 none)) := (L13_ok hy).call hy.cpm mix_ Try.func94 (ent_ Try.func94 rfl rfl) (fun _ _ _ _ _ _ => noLp fun _ => rfl) e94_0
theorem L14_ok {CP : (Nat → Option KT) → List Value → Prop} (hy : Hyp CP) : KitOK Try.prog CP L14 := (L13_ok hy).ent (c94_0 hy)
theorem c93_0 {CP : (Nat → Option KT) → List Value → Prop} (hy : Hyp CP) : CallOK Try.prog CP 93 [U8] none (c1 (.int .i64 0 12 none)) := (L14_ok hy).call hy.cpm mix_ Try.func93 (ent_ Try.func93 rfl rfl) (fun _ _ _ _ _ _ => noLp fun _ => rfl) e93_0
theorem L15_ok {CP : (Nat → Option KT) → List Value → Prop} (hy : Hyp CP) : KitOK Try.prog CP L15 := (L14_ok hy).ent (c93_0 hy)
theorem L16_ok {CP : (Nat → Option KT) → List Value → Prop} (hy : Hyp CP) : KitOK Try.prog CP L16 := (L15_ok hy).inl hy.cpm mix_ Try.func121 (ent_ Try.func121 rfl rfl) _ _ fun _ => rfl
theorem L17_ok {CP : (Nat → Option KT) → List Value → Prop} (hy : Hyp CP) : KitOK Try.prog CP L17 := (L16_ok hy).inl hy.cpm mix_ Try.func150 (ent_ Try.func150 rfl rfl) _ _ fun _ => rfl
theorem L18_ok {CP : (Nat → Option KT) → List Value → Prop} (hy : Hyp CP) : KitOK Try.prog CP L18 := (L17_ok hy).inl hy.cpm mix_ Try.func149 (ent_ Try.func149 rfl rfl) _ _ fun _ => rfl
theorem L19_ok {CP : (Nat → Option KT) → List Value → Prop} (hy : Hyp CP) : KitOK Try.prog CP L19 := (L18_ok hy).inl hy.cpm mix_ Try.func73 (ent_ Try.func73 rfl rfl) _ _ fun _ => rfl
theorem L20_ok {CP : (Nat → Option KT) → List Value → Prop} (hy : Hyp CP) : KitOK Try.prog CP L20 := (L19_ok hy).inl hy.cpm mix_ Try.func124 (ent_ Try.func124 rfl rfl) _ _ fun _ => rfl
theorem L21_ok {CP : (Nat → Option KT) → List Value → Prop} (hy : Hyp CP) : KitOK Try.prog CP L21 := (L20_ok hy).inl hy.cpm mix_ Try.func117 (ent_ Try.func117 rfl rfl) _ _ fun _ => rfl
theorem L22_ok {CP : (Nat → Option KT) → List Value → Prop} (hy : Hyp CP) : KitOK Try.prog CP L22 := (L21_ok hy).inl hy.cpm mix_ Try.func80 (ent_ Try.func80 rfl rfl) _ _ fun _ => rfl
theorem L23_ok {CP : (Nat → Option KT) → List Value → Prop} (hy : Hyp CP) : KitOK Try.prog CP L23 := (L22_ok hy).inl hy.cpm mix_ Try.func81 (ent_ Try.func81 rfl rfl) _ _ fun _ => rfl
theorem L24_ok {CP : (Nat → Option KT) → List Value → Prop} (hy : Hyp CP) : KitOK Try.prog CP L24 := (L23_ok hy).inl hy.cpm mix_ Try.func98 (ent_ Try.func98 rfl rfl) _ _ fun _ => rfl
theorem L25_ok {CP : (Nat → Option KT) → List Value → Prop} (hy : Hyp CP) : KitOK Try.prog CP L25 := (L24_ok hy).inl hy.cpm mix_ Try.func84 (ent_ Try.func84 rfl rfl) _ _ fun _ => rfl
theorem c118_0 {CP : (Nat → Option KT) → List Value → Prop} (hy : Hyp CP) : CallOK Try.prog CP 118 [FL, BB] none (c1 sU8) := (L25_ok hy).call hy.cpm mix_ Try.func118 (ent_ Try.func118 rfl rfl) (fun _ _ _ _ _ _ => noLp fun _ => rfl) e118_0
theorem L26_ok {CP : (Nat → Option KT) → List Value → Prop} (hy : Hyp CP) : KitOK Try.prog CP L26 := (L25_ok hy).ent (c118_0 hy)
theorem c143_0 {CP : (Nat → Option KT) → List Value → Prop} (hy : Hyp CP) : CallOK Try.prog CP 143 [U8, U8, FL] none (outB8) := (L26_ok hy).call hy.cpm mix_ Try.func143 (ent_ Try.func143 rfl rfl) (fun _ _ _ _ _ _ => noLp fun _ => rfl) e143_0
theorem L27_ok {CP : (Nat → Option KT) → List Value → Prop} (hy : Hyp CP) : KitOK Try.prog CP L27 := (L26_ok hy).ent (c143_0 hy)
theorem c144_0 {CP : (Nat → Option KT) → List Value → Prop} (hy : Hyp CP) : CallOK Try.prog CP 144 [U8, U8, FL] none (outB8) := (L27_ok hy).call hy.cpm mix_ Try.func144 (ent_ Try.func144 rfl rfl) (fun _ _ _ _ _ _ => noLp fun _ => rfl) e144_0
theorem L28_ok {CP : (Nat → Option KT) → List Value → Prop} (hy : Hyp CP) : KitOK Try.prog CP L28 := (L27_ok hy).ent (c144_0 hy)
theorem c145_0 {CP : (Nat → Option KT) → List Value → Prop} (hy : Hyp CP) : CallOK Try.prog CP 145 [U8, U8, FL] none (outFL) := (L28_ok hy).call hy.cpm mix_ Try.func145 (ent_ Try.func145 rfl rfl) (fun _ _ _ _ _ _ => noLp fun _ => rfl) e145_0
theorem L29_ok {CP : (Nat → Option KT) → List Value → Prop} (hy : Hyp CP) : KitOK Try.prog CP L29 := (L28_ok hy).ent (c145_0 hy)
theorem c146_0 {CP : (Nat → Option KT) → List Value → Prop} (hy : Hyp CP) : CallOK Try.prog CP 146 [U8, U8, FL] none (outFL) := (L29_ok hy).call hy.cpm mix_ Try.func146 (ent_ Try.func146 rfl rfl) (fun _ _ _ _ _ _ => noLp fun _ => rfl) e146_0
theorem L30_ok {CP : (Nat → Option KT) → List Value → Prop} (hy : Hyp CP) : KitOK Try.prog CP L30 := (L29_ok hy).ent (c146_0 hy)
theorem L31_ok {CP : (Nat → Option KT) → List Value → Prop} (hy : Hyp CP) : KitOK Try.prog CP L31 := (L30_ok hy).inl hy.cpm mix_ Try.func95 (ent_ Try.func95 rfl rfl) _ _ fun _ => rfl
theorem L32_ok {CP : (Nat → Option KT) → List Value → Prop} (hy : Hyp CP) : KitOK Try.prog CP L32 := (L31_ok hy).inl hy.cpm mix_ Try.func116 (ent_ Try.func116 rfl rfl) _ _ fun _ => rfl
theorem L33_ok {CP : (Nat → Option KT) → List Value → Prop} (hy : Hyp CP) : KitOK Try.prog CP L33 := (L32_ok hy).inl hy.cpm mix_ Try.func139 (ent_ Try.func139 rfl rfl) _ _ fun _ => rfl
theorem L34_ok {CP : (Nat → Option KT) → List Value → Prop} (hy : Hyp CP) : KitOK Try.prog CP L34 := (L33_ok hy).inl hy.cpm mix_ Try.func140 (ent_ Try.func140 rfl rfl) _ _ fun _ => rfl
theorem L35_ok {CP : (Nat → Option KT) → List Value → Prop} (hy : Hyp CP) : KitOK Try.prog CP L35 := (L34_ok hy).inl hy.cpm mix_ Try.func141 (ent_ Try.func141 rfl rfl) _ _ fun _ => rfl
theorem L36_ok {CP : (Nat → Option KT) → List Value → Prop} (hy : Hyp CP) : KitOK Try.prog CP L36 := (L35_ok hy).inl hy.cpm mix_ Try.func142 (ent_ Try.func142 rfl rfl) _ _ fun _ => rfl
theorem L37_ok {CP : (Nat → Option KT) → List Value → Prop} (hy : Hyp CP) : KitOK Try.prog CP L37 := (L36_ok hy).inl hy.cpm mix_ Try.func127 (ent_ Try.func127 rfl rfl) _ _ fun _ => rfl
theorem c122_0 {CP : (Nat → Option KT) → List Value → Prop} (hy : Hyp CP) : CallOK Try.prog CP 122 [FL, STR] none (outFL) := (L37_ok hy).call hy.cpm mix_ Try.func122 (ent_ Try.func122 rfl rfl) (fun _ _ _ _ _ _ => noLp fun _ => rfl) e122_0
theorem L38_ok {CP : (Nat → Option KT) → List Value → Prop} (hy : Hyp CP) : KitOK Try.prog CP L38 := (L37_ok hy).ent (c122_0 hy)
theorem c123_0 {CP : (Nat → Option KT) → List Value → Prop} (hy : Hyp CP) : CallOK Try.prog CP 123 [FL, STR] none (c1 b_) := (L38_ok hy).call hy.cpm mix_ Try.func123 (ent_ Try.func123 rfl rfl) (fun _ _ _ _ _ _ => noLp fun _ => rfl) e123_0
theorem L39_ok {CP : (Nat → Option KT) → List Value → Prop} (hy : Hyp CP) : KitOK Try.prog CP L39 := (L38_ok hy).ent (c123_0 hy)
theorem c147_0 {CP : (Nat → Option KT) → List Value → Prop} (hy : Hyp CP) : CallOK Try.prog CP 147 [CPU, ii (-1) 13] none (c1 (.int .i64 0 255 none)) := (L39_ok hy).call hy.cpm mix_ Try.func147 (ent_ Try.func147 rfl rfl) (fun _ _ _ _ _ _ => noLp fun _ => rfl) e147_0
theorem L40_ok {CP : (Nat → Option KT) → List Value → Prop} (hy : Hyp CP) : KitOK Try.prog CP L40 := (L39_ok hy).ent (c147_0 hy)
theorem c120_0 {CP : (Nat → Option KT) → List Value → Prop} (hy : Hyp CP) : CallOK Try.prog CP 120 [STR, U8, FL] none (outB8) := (L40_ok hy).call hy.cpm mix_ Try.func120 (ent_ Try.func120 rfl rfl) (fun _ _ _ _ _ _ => noLp fun _ => rfl) e120_0
theorem L41_ok {CP : (Nat → Option KT) → List Value → Prop} (hy : Hyp CP) : KitOK Try.prog CP L41 := (L40_ok hy).ent (c120_0 hy)
theorem c125_0 {CP : (Nat → Option KT) → List Value → Prop} (hy : Hyp CP) : CallOK Try.prog CP 125 [CPU, STR, U8] none (outCPU) := (L41_ok hy).call hy.cpm mix_ Try.func125 (ent_ Try.func125 rfl rfl) (fun _ _ _ _ _ _ => noLp fun _ => rfl) e125_0
theorem L42_ok {CP : (Nat → Option KT) → List Value → Prop} (hy : Hyp CP) : KitOK Try.prog CP L42 := (L41_ok hy).ent (c125_0 hy)
theorem c99_0 {CP : (Nat → Option KT) → List Value → Prop} (hy : Hyp CP) : CallOK Try.prog CP 99 [CPU, STR, ii (-1) 13] none (outCPU) := (L42_ok hy).call hy.cpm mix_ Try.func99 (ent_ Try.func99 rfl rfl) (fun _ _ _ _ _ _ => noLp fun _ => rfl) e99_0
theorem L43_ok {CP : (Nat → Option KT) → List Value → Prop} (hy : Hyp CP) : KitOK Try.prog CP L43 := (L42_ok hy).ent (c99_0 hy)
theorem L44_ok {CP : (Nat → Option KT) → List Value → Prop} (hy : Hyp CP) : KitOK Try.prog CP L44 := (L43_ok hy).inl hy.cpm mix_ Try.func126 (ent_ Try.func126 rfl rfl) _ _ fun _ => rfl
theorem L45_ok {CP : (Nat → Option KT) → List Value → Prop} (hy : Hyp CP) : KitOK Try.prog CP L45 := (L44_ok hy).inl hy.cpm mix_ Try.func96 (ent_ Try.func96 rfl rfl) _ _ fun _ => rfl
theorem L46_ok {CP : (Nat → Option KT) → List Value → Prop} (hy : Hyp CP) : KitOK Try.prog CP L46 := (L45_ok hy).inl hy.cpm mix_ Try.func101 (ent_ Try.func101 rfl rfl) _ _ fun _ => rfl
theorem L47_ok {CP : (Nat → Option KT) → List Value → Prop} (hy : Hyp CP) : KitOK Try.prog CP L47 := (L46_ok hy).inl hy.cpm mix_ Try.func128 (ent_ Try.func128 rfl rfl) _ _ fun _ => rfl
theorem L48_ok {CP : (Nat → Option KT) → List Value → Prop} (hy : Hyp CP) : KitOK Try.prog CP L48 := (L47_ok hy).inl hy.cpm mix_ Try.func103 (ent_ Try.func103 rfl rfl) _ _ fun _ => rfl
theorem L49_ok {CP : (Nat → Option KT) → List Value → Prop} (hy : Hyp CP) : KitOK Try.prog CP L49 := (L48_ok hy).inl hy.cpm mix_ Try.func102 (ent_ Try.func102 rfl rfl) _ _ fun _ => rfl
theorem c85_0 {CP : (Nat → Option KT) → List Value → Prop} (hy : Hyp CP) : CallOK Try.prog CP 85 [CPU, RAMG 0 255] none (stepOut) := (L49_ok hy).call hy.cpm mix_ Try.func85 (ent_ Try.func85 rfl rfl) (fun _ _ _ _ _ _ => noLp fun _ => rfl) e85_0
theorem c85_1 {CP : (Nat → Option KT) → List Value → Prop} (hy : Hyp CP) : CallOK Try.prog CP 85 [CPU, RAMG 256 256] none (stepOut) := (L49_ok hy).call hy.cpm mix_ Try.func85 (ent_ Try.func85 rfl rfl) (fun _ _ _ _ _ _ => noLp fun _ => rfl) e85_1
theorem c85_2 {CP : (Nat → Option KT) → List Value → Prop} (hy : Hyp CP) : CallOK Try.prog CP 85 [CPU, RAMG 257 511] none (stepOut) := (L49_ok hy).call hy.cpm mix_ Try.func85 (ent_ Try.func85 rfl rfl) (fun _ _ _ _ _ _ => noLp fun _ => rfl) e85_2
theorem c85_3 {CP : (Nat → Option KT) → List Value → Prop} (hy : Hyp CP) : CallOK Try.prog CP 85 [CPU, RAMG 512 512] none (stepOut) := (L49_ok hy).call hy.cpm mix_ Try.func85 (ent_ Try.func85 rfl rfl) (fun _ _ _ _ _ _ => noLp fun _ => rfl) e85_3
theorem c85_4 {CP : (Nat → Option KT) → List Value → Prop} (hy : Hyp CP) : CallOK Try.prog CP 85 [CPU, RAMG 513 1023] none (stepOut) := (L49_ok hy).call hy.cpm mix_ Try.func85 (ent_ Try.func85 rfl rfl) (fun _ _ _ _ _ _ => noLp fun _ => rfl) e85_4
theorem c85_5 {CP : (Nat → Option KT) → List Value → Prop} (hy : Hyp CP) : CallOK Try.prog CP 85 [CPU, RAMG 1024 1024] none (stepOut) := (L49_ok hy).call hy.cpm mix_ Try.func85 (ent_ Try.func85 rfl rfl) (fun _ _ _ _ _ _ => noLp fun _ => rfl) e85_5
theorem c85_6 {CP : (Nat → Option KT) → List Value → Prop} (hy : Hyp CP) : CallOK Try.prog CP 85 [CPU, RAMG 1025 2047] none (stepOut) := (L49_ok hy).call hy.cpm mix_ Try.func85 (ent_ Try.func85 rfl rfl) (fun _ _ _ _ _ _ => noLp fun _ => rfl) e85_6
theorem c85_7 {CP : (Nat → Option KT) → List Value → Prop} (hy : Hyp CP) : CallOK Try.prog CP 85 [CPU, RAMG 2048 2048] none (stepOut) := (L49_ok hy).call hy.cpm mix_ Try.func85 (ent_ Try.func85 rfl rfl) (fun _ _ _ _ _ _ => noLp fun _ => rfl) e85_7
theorem c85_8 {CP : (Nat → Option KT) → List Value → Prop} (hy : Hyp CP) : CallOK Try.prog CP 85 [CPU, RAMG 2049 4095] none (stepOut) := (L49_ok hy).call hy.cpm mix_ Try.func85 (ent_ Try.func85 rfl rfl) (fun _ _ _ _ _ _ => noLp fun _ => rfl) e85_8
theorem c85_9 {CP : (Nat → Option KT) → List Value → Prop} (hy : Hyp CP) : CallOK Try.prog CP 85 [CPU, RAMG 4096 4096] none (stepOut) := (L49_ok hy).call hy.cpm mix_ Try.func85 (ent_ Try.func85 rfl rfl) (fun _ _ _ _ _ _ => noLp fun _ => rfl) e85_9
theorem cany85 {CP : (Nat → Option KT) → List Value → Prop} (hy : Hyp CP) : CallOK Try.prog CP 85 [CPU, RANY] none (stepOut) := any_ok [CPU] [] [u8] 0 4096 (0, 255) RLt rfl ⟨c85_0 hy, c85_1 hy, c85_2 hy, c85_3 hy, c85_4 hy, c85_5 hy, c85_6 hy, c85_7 hy, c85_8 hy, c85_9 hy, trivial⟩
theorem L50_ok {CP : (Nat → Option KT) → List Value → Prop} (hy : Hyp CP) : KitOK Try.prog CP L50 := (L49_ok hy).ent (cany85 hy)
theorem c83_0 {CP : (Nat → Option KT) → List Value → Prop} (hy : Hyp CP) : CallOK Try.prog CP 83 [CPU, RAMG 0 255, BB] none (stepOut) := (L50_ok hy).call hy.cpm mix_ Try.func83 (ent_ Try.func83 rfl rfl) (fun _ _ _ _ _ _ => noLp fun _ => rfl) e83_0
theorem c83_1 {CP : (Nat → Option KT) → List Value → Prop} (hy : Hyp CP) : CallOK Try.prog CP 83 [CPU, RAMG 256 256, BB] none (stepOut) := (L50_ok hy).call hy.cpm mix_ Try.func83 (ent_ Try.func83 rfl rfl) (fun _ _ _ _ _ _ => noLp fun _ => rfl) e83_1
theorem c83_2 {CP : (Nat → Option KT) → List Value → Prop} (hy : Hyp CP) : CallOK Try.prog CP 83 [CPU, RAMG 257 511, BB] none (stepOut) := (L50_ok hy).call hy.cpm mix_ Try.func83 (ent_ Try.func83 rfl rfl) (fun _ _ _ _ _ _ => noLp fun _ => rfl) e83_2
theorem c83_3 {CP : (Nat → Option KT) → List Value → Prop} (hy : Hyp CP) : CallOK Try.prog CP 83 [CPU, RAMG 512 512, BB] none (stepOut) := (L50_ok hy).call hy.cpm mix_ Try.func83 (ent_ Try.func83 rfl rfl) (fun _ _ _ _ _ _ => noLp fun _ => rfl) e83_3
theorem c83_4 {CP : (Nat → Option KT) → List Value → Prop} (hy : Hyp CP) : CallOK Try.prog CP 83 [CPU, RAMG 513 1023, BB] none (stepOut) := (L50_ok hy).call hy.cpm mix_ Try.func83 (ent_ Try.func83 rfl rfl) (fun _ _ _ _ _ _ => noLp fun _ => rfl) e83_4
theorem c83_5 {CP : (Nat → Option KT) → List Value → Prop} (hy : Hyp CP) : CallOK Try.prog CP 83 [CPU, RAMG 1024 1024, BB] none (stepOut) := (L50_ok hy).call hy.cpm mix_ Try.func83 (ent_ Try.func83 rfl rfl) (fun _ _ _ _ _ _ => noLp fun _ => rfl) e83_5
theorem c83_6 {CP : (Nat → Option KT) → List Value → Prop} (hy : Hyp CP) : CallOK Try.prog CP 83 [CPU, RAMG 1025 2047, BB] none (stepOut) := (L50_ok hy).call hy.cpm mix_ Try.func83 (ent_ Try.func83 rfl rfl) (fun _ _ _ _ _ _ => noLp fun _ => rfl) e83_6
theorem c83_7 {CP : (Nat → Option KT) → List Value → Prop} (hy : Hyp CP) : CallOK Try.prog CP 83 [CPU, RAMG 2048 2048, BB] none (stepOut) := (L50_ok hy).call hy.cpm mix_ Try.func83 (ent_ Try.func83 rfl rfl) (fun _ _ _ _ _ _ => noLp fun _ => rfl) e83_7
theorem c83_8 {CP : (Nat → Option KT) → List Value → Prop} (hy : Hyp CP) : CallOK Try.prog CP 83 [CPU, RAMG 2049 4095, BB] none (stepOut) := (L50_ok hy).call hy.cpm mix_ Try.func83 (ent_ Try.func83 rfl rfl) (fun _ _ _ _ _ _ => noLp fun _ => rfl) e83_8
theorem c83_9 {CP : (Nat → Option KT) → List Value → Prop} (hy : Hyp CP) : CallOK Try.prog CP 83 [CPU, RAMG 4096 4096, BB] none (stepOut) := (L50_ok hy).call hy.cpm mix_ Try.func83 (ent_ Try.func83 rfl rfl) (fun _ _ _ _ _ _ => noLp fun _ => rfl) e83_9
theorem cany83 {CP : (Nat → Option KT) → List Value → Prop} (hy : Hyp CP) : CallOK Try.prog CP 83 [CPU, RANY, BB] none (stepOut) := any_ok [CPU] [BB] [u8] 0 4096 (0, 255) RLt rfl ⟨c83_0 hy, c83_1 hy, c83_2 hy, c83_3 hy, c83_4 hy, c83_5 hy, c83_6 hy, c83_7 hy, c83_8 hy, c83_9 hy, trivial⟩
theorem L51_ok {CP : (Nat → Option KT) → List Value → Prop} (hy : Hyp CP) : KitOK Try.prog CP L51 := (L50_ok hy).ent (cany83 hy)
theorem c82_0 {CP : (Nat → Option KT) → List Value → Prop} (hy : Hyp CP) : CallOK Try.prog CP 82 [EV, ii 0 20, BB] none (c1 b_) := (L51_ok hy).call hy.cpm mix_ Try.func82 (ent_ Try.func82 rfl rfl) (fun _ _ _ _ _ _ => noLp fun _ => rfl) e82_0
theorem L52_ok {CP : (Nat → Option KT) → List Value → Prop} (hy : Hyp CP) : KitOK Try.prog CP L52 := (L51_ok hy).ent (c82_0 hy)
theorem c84_0 {CP : (Nat → Option KT) → List Value → Prop} (hy : Hyp CP) : CallOK Try.prog CP 84 [RAMG 0 255, U16] none (c1 b_) := (L52_ok hy).call hy.cpm mix_ Try.func84 (ent_ Try.func84 rfl rfl) (fun _ _ _ _ _ _ => noLp fun _ => rfl) e84_0
theorem c84_1 {CP : (Nat → Option KT) → List Value → Prop} (hy : Hyp CP) : CallOK Try.prog CP 84 [RAMG 256 256, U16] none (c1 b_) := (L52_ok hy).call hy.cpm mix_ Try.func84 (ent_ Try.func84 rfl rfl) (fun _ _ _ _ _ _ => noLp fun _ => rfl) e84_1
theorem c84_2 {CP : (Nat → Option KT) → List Value → Prop} (hy : Hyp CP) : CallOK Try.prog CP 84 [RAMG 257 511, U16] none (c1 b_) := (L52_ok hy).call hy.cpm mix_ Try.func84 (ent_ Try.func84 rfl rfl) (fun _ _ _ _ _ _ => noLp fun _ => rfl) e84_2
theorem c84_3 {CP : (Nat → Option KT) → List Value → Prop} (hy : Hyp CP) : CallOK Try.prog CP 84 [RAMG 512 512, U16] none (c1 b_) := (L52_ok hy).call hy.cpm mix_ Try.func84 (ent_ Try.func84 rfl rfl) (fun _ _ _ _ _ _ => noLp fun _ => rfl) e84_3
theorem c84_4 {CP : (Nat → Option KT) → List Value → Prop} (hy : Hyp CP) : CallOK Try.prog CP 84 [RAMG 513 1023, U16] none (c1 b_) := (L52_ok hy).call hy.cpm mix_ Try.func84 (ent_ Try.func84 rfl rfl) (fun _ _ _ _ _ _ => noLp fun _ => rfl) e84_4
theorem c84_5 {CP : (Nat → Option KT) → List Value → Prop} (hy : Hyp CP) : CallOK Try.prog CP 84 [RAMG 1024 1024, U16] none (c1 b_) := (L52_ok hy).call hy.cpm mix_ Try.func84 (ent_ Try.func84 rfl rfl) (fun _ _ _ _ _ _ => noLp fun _ => rfl) e84_5
theorem c84_6 {CP : (Nat → Option KT) → List Value → Prop} (hy : Hyp CP) : CallOK Try.prog CP 84 [RAMG 1025 2047, U16] none (c1 b_) := (L52_ok hy).call hy.cpm mix_ Try.func84 (ent_ Try.func84 rfl rfl) (fun _ _ _ _ _ _ => noLp fun _ => rfl) e84_6
theorem c84_7 {CP : (Nat → Option KT) → List Value → Prop} (hy : Hyp CP) : CallOK Try.prog CP 84 [RAMG 2048 2048, U16] none (c1 b_) := (L52_ok hy).call hy.cpm mix_ Try.func84 (ent_ Try.func84 rfl rfl) (fun _ _ _ _ _ _ => noLp fun _ => rfl) e84_7
theorem c84_8 {CP : (Nat → Option KT) → List Value → Prop} (hy : Hyp CP) : CallOK Try.prog CP 84 [RAMG 2049 4095, U16] none (c1 b_) := (L52_ok hy).call hy.cpm mix_ Try.func84 (ent_ Try.func84 rfl rfl) (fun _ _ _ _ _ _ => noLp fun _ => rfl) e84_8
theorem c84_9 {CP : (Nat → Option KT) → List Value → Prop} (hy : Hyp CP) : CallOK Try.prog CP 84 [RAMG 4096 4096, U16] none (c1 b_) := (L52_ok hy).call hy.cpm mix_ Try.func84 (ent_ Try.func84 rfl rfl) (fun _ _ _ _ _ _ => noLp fun _ => rfl) e84_9
theorem cany84 {CP : (Nat → Option KT) → List Value → Prop} (hy : Hyp CP) : CallOK Try.prog CP 84 [RANY, U16] none (c1 b_) := any_ok [] [U16] [u8] 0 4096 (0, 255) RLt rfl ⟨c84_0 hy, c84_1 hy, c84_2 hy, c84_3 hy, c84_4 hy, c84_5 hy, c84_6 hy, c84_7 hy, c84_8 hy, c84_9 hy, trivial⟩
theorem L53_ok {CP : (Nat → Option KT) → List Value → Prop} (hy : Hyp CP) : KitOK Try.prog CP L53 := (L52_ok hy).ent (cany84 hy)
theorem c92_0 {CP : (Nat → Option KT) → List Value → Prop} (hy : Hyp CP) : CallOK Try.prog CP 92 [cur] none (c1 sU8) := (L53_ok hy).call hy.cpm mix_ Try.func92 (ent_ Try.func92 rfl rfl) (fun _ _ _ _ _ _ => noLp fun _ => rfl) e92_0
theorem L54_ok {CP : (Nat → Option KT) → List Value → Prop} (hy : Hyp CP) : KitOK Try.prog CP L54 := (L53_ok hy).ent (c92_0 hy)
theorem c86_0 {CP : (Nat → Option KT) → List Value → Prop} (hy : Hyp CP) : CallOK Try.prog CP 86 [cur] none (c1 sU16) := (L54_ok hy).call hy.cpm mix_ Try.func86 (ent_ Try.func86 rfl rfl) (fun _ _ _ _ _ _ => noLp fun _ => rfl) e86_0
theorem L55_ok {CP : (Nat → Option KT) → List Value → Prop} (hy : Hyp CP) : KitOK Try.prog CP L55 := (L54_ok hy).ent (c86_0 hy)
theorem c91_0 {CP : (Nat → Option KT) → List Value → Prop} (hy : Hyp CP) : CallOK Try.prog CP 91 [cur] none (outFL) := (L55_ok hy).call hy.cpm mix_ Try.func91 (ent_ Try.func91 rfl rfl) (fun _ _ _ _ _ _ => noLp fun _ => rfl) e91_0
theorem L56_ok {CP : (Nat → Option KT) → List Value → Prop} (hy : Hyp CP) : KitOK Try.prog CP L56 := (L55_ok hy).ent (c91_0 hy)
theorem c77_0 {CP : (Nat → Option KT) → List Value → Prop} (hy : Hyp CP) : CallOK Try.prog CP 77 [cur] none (outCPU) := (L56_ok hy).call hy.cpm mix_ Try.func77 (ent_ Try.func77 rfl rfl) (fun _ _ _ _ _ _ => noLp fun _ => rfl) e77_0
theorem L57_ok {CP : (Nat → Option KT) → List Value → Prop} (hy : Hyp CP) : KitOK Try.prog CP L57 := (L56_ok hy).ent (c77_0 hy)
theorem c90_0 {CP : (Nat → Option KT) → List Value → Prop} (hy : Hyp CP) : CallOK Try.prog CP 90 [cur, ii 60 60] none (c1 (.slice [u8] 60 240 none)) := (L57_ok hy).call hy.cpm mix_ Try.func90 (ent_ Try.func90 rfl rfl) (fun _ _ _ _ _ _ => noLp fun _ => rfl) e90_0
theorem L58_ok {CP : (Nat → Option KT) → List Value → Prop} (hy : Hyp CP) : KitOK Try.prog CP L58 := (L57_ok hy).ent (c90_0 hy)
theorem L59_ok {CP : (Nat → Option KT) → List Value → Prop} (hy : Hyp CP) : KitOK Try.prog CP L59 := (L58_ok hy).inl hy.cpm mix_ Try.func14 (ent_ Try.func14 rfl rfl) _ _ fun _ => rfl
theorem c79_0 {CP : (Nat → Option KT) → List Value → Prop} (hy : Hyp CP) : CallOK Try.prog CP 79 [RAMG 0 255, U16, SB 0 300] none (ranyOut) := (L59_ok hy).call hy.cpm mix_ Try.func79 (ent_ Try.func79 rfl rfl) (fun _ _ _ _ _ _ => noLp fun _ => rfl) e79_0
theorem c79_1 {CP : (Nat → Option KT) → List Value → Prop} (hy : Hyp CP) : CallOK Try.prog CP 79 [RAMG 256 256, U16, SB 0 300] none (ranyOut) := (L59_ok hy).call hy.cpm mix_ Try.func79 (ent_ Try.func79 rfl rfl) (fun _ _ _ _ _ _ => noLp fun _ => rfl) e79_1
theorem c79_2 {CP : (Nat → Option KT) → List Value → Prop} (hy : Hyp CP) : CallOK Try.prog CP 79 [RAMG 257 511, U16, SB 0 300] none (ranyOut) := (L59_ok hy).call hy.cpm mix_ Try.func79 (ent_ Try.func79 rfl rfl) (fun _ _ _ _ _ _ => noLp fun _ => rfl) e79_2
theorem c79_3 {CP : (Nat → Option KT) → List Value → Prop} (hy : Hyp CP) : CallOK Try.prog CP 79 [RAMG 512 512, U16, SB 0 300] none (ranyOut) := (L59_ok hy).call hy.cpm mix_ Try.func79 (ent_ Try.func79 rfl rfl) (fun _ _ _ _ _ _ => noLp fun _ => rfl) e79_3
theorem c79_4 {CP : (Nat → Option KT) → List Value → Prop} (hy : Hyp CP) : CallOK Try.prog CP 79 [RAMG 513 1023, U16, SB 0 300] none (ranyOut) := (L59_ok hy).call hy.cpm mix_ Try.func79 (ent_ Try.func79 rfl rfl) (fun _ _ _ _ _ _ => noLp fun _ => rfl) e79_4
theorem c79_5 {CP : (Nat → Option KT) → List Value → Prop} (hy : Hyp CP) : CallOK Try.prog CP 79 [RAMG 1024 1024, U16, SB 0 300] none (ranyOut) := (L59_ok hy).call hy.cpm mix_ Try.func79 (ent_ Try.func79 rfl rfl) (fun _ _ _ _ _ _ => noLp fun _ => rfl) e79_5
theorem c79_6 {CP : (Nat → Option KT) → List Value → Prop} (hy : Hyp CP) : CallOK Try.prog CP 79 [RAMG 1025 2047, U16, SB 0 300] none (ranyOut) := (L59_ok hy).call hy.cpm mix_ Try.func79 (ent_ Try.func79 rfl rfl) (fun _ _ _ _ _ _ => noLp fun _ => rfl) e79_6
theorem c79_7 {CP : (Nat → Option KT) → List Value → Prop} (hy : Hyp CP) : CallOK Try.prog CP 79 [RAMG 2048 2048, U16, SB 0 300] none (ranyOut) := (L59_ok hy).call hy.cpm mix_ Try.func79 (ent_ Try.func79 rfl rfl) (fun _ _ _ _ _ _ => noLp fun _ => rfl) e79_7
theorem c79_8 {CP : (Nat → Option KT) → List Value → Prop} (hy : Hyp CP) : CallOK Try.prog CP 79 [RAMG 2049 4095, U16, SB 0 300] none (ranyOut) := (L59_ok hy).call hy.cpm mix_ Try.func79 (ent_ Try.func79 rfl rfl) (fun _ _ _ _ _ _ => noLp fun _ => rfl) e79_8
theorem c79_9 {CP : (Nat → Option KT) → List Value → Prop} (hy : Hyp CP) : CallOK Try.prog CP 79 [RAMG 4096 4096, U16, SB 0 300] none (ranyOut) := (L59_ok hy).call hy.cpm mix_ Try.func79 (ent_ Try.func79 rfl rfl) (fun _ _ _ _ _ _ => noLp fun _ => rfl) e79_9
theorem cany79 {CP : (Nat → Option KT) → List Value → Prop} (hy : Hyp CP) : CallOK Try.prog CP 79 [RANY, U16, SB 0 300] none (ranyOut) := any_ok [] [U16, SB 0 300] [u8] 0 4096 (0, 255) RLt rfl ⟨c79_0 hy, c79_1 hy, c79_2 hy, c79_3 hy, c79_4 hy, c79_5 hy, c79_6 hy, c79_7 hy, c79_8 hy, c79_9 hy, trivial⟩
theorem L60_ok {CP : (Nat → Option KT) → List Value → Prop} (hy : Hyp CP) : KitOK Try.prog CP L60 := (L59_ok hy).ent (cany79 hy)
theorem c76_0 {CP : (Nat → Option KT) → List Value → Prop} (hy : Hyp CP) : CallOK Try.prog CP 76 [cur] none (ranyOut) := (L60_ok hy).call hy.cpm mix_ Try.func76 (ent_ Try.func76 rfl rfl) (fun _ _ _ _ _ _ => noLp fun _ => rfl) e76_0
theorem L61_ok {CP : (Nat → Option KT) → List Value → Prop} (hy : Hyp CP) : KitOK Try.prog CP L61 := (L60_ok hy).ent (c76_0 hy)
theorem c78_0 {CP : (Nat → Option KT) → List Value → Prop} (hy : Hyp CP) : CallOK Try.prog CP 78 [cur] none ([⟨SB 0 100, [], none⟩]) := (L61_ok hy).call hy.cpm mix_ Try.func78 (ent_ Try.func78 rfl rfl) (fun _ _ _ _ _ _ => noLp fun _ => rfl) e78_0
theorem L62_ok {CP : (Nat → Option KT) → List Value → Prop} (hy : Hyp CP) : KitOK Try.prog CP L62 := (L61_ok hy).ent (c78_0 hy)
theorem c55_0 {CP : (Nat → Option KT) → List Value → Prop} (hy : Hyp CP) : CallOK Try.prog CP 55 [cur] none ([⟨.tup [.agg cpC, .agg [.slice [u8] 0 4096 none]], [], none⟩]) := (L62_ok hy).call hy.cpm mix_ Try.func55 (ent_ Try.func55 rfl rfl) (fun _ _ _ _ _ _ => noLp fun _ => rfl) e55_0
theorem L63_ok {CP : (Nat → Option KT) → List Value → Prop} (hy : Hyp CP) : KitOK Try.prog CP L63 := (L62_ok hy).ent (c55_0 hy)
theorem c57_0 {CP : (Nat → Option KT) → List Value → Prop} (hy : Hyp CP) : CallOK Try.prog CP 57 [cur] none ([⟨.one (.cell (.slice [i64, .bool] 0 3 none)), [], none⟩]) := (L63_ok hy).call hy.cpm mix_ Try.func57 (ent_ Try.func57 rfl rfl) (fun _ _ _ _ _ _ => noLp fun _ => rfl) e57_0
theorem L64_ok {CP : (Nat → Option KT) → List Value → Prop} (hy : Hyp CP) : KitOK Try.prog CP L64 := (L63_ok hy).ent (c57_0 hy)
theorem lp56 : ∀ d ∈ loopsAt 0 (Try.f56.body.getD .skip), d = runD := by
  have h : loopsAt 0 (Try.f56.body.getD .skip) = [runD] := by kernel_rfl
  intro d hd
  rw [h] at hd
  exact List.mem_singleton.1 hd
theorem c56_0 {CP : (Nat → Option KT) → List Value → Prop} (hy : Hyp CP) : CallOK Try.prog CP 56 [CPU, RANY, EV, ii 1 20] none ([⟨.one (.agg (shot 20)), [], none⟩]) := (L64_ok hy).call hy.cpm mix_ Try.func56 (ent_ Try.func56 rfl rfl) (fun c hc X hP hCP hX id S0 R hlp d hd => by
  have hb : Try.f56.body.getD .skip = c := by rw [hc]; rfl
  have h0 : (if id = 0 then some (runH 0, (⟨[], runEX, []⟩ : Res)) else none) = some (S0, R) := hlp
  split at h0
  · rename_i hi
    subst hi
    cases h0
    rw [← hb] at hd
    rw [lp56 d hd]
    exact heads_ok hX ⟨by rw [hP]; exact (L64_ok hy).tab, by rw [hP, hCP]; exact (L64_ok hy).T, hX.trans (L64_ok hy).hd⟩ (by rw [hP]; exact mix_) (noLp fun _ => rfl) (n := 20) (fun k hk => by
      match k, hk with
      | 0, _ => exact r56_0
      | 1, _ => exact r56_1
      | 2, _ => exact r56_2
      | 3, _ => exact r56_3
      | 4, _ => exact r56_4
      | 5, _ => exact r56_5
      | 6, _ => exact r56_6
      | 7, _ => exact r56_7
      | 8, _ => exact r56_8
      | 9, _ => exact r56_9
      | 10, _ => exact r56_10
      | 11, _ => exact r56_11
      | 12, _ => exact r56_12
      | 13, _ => exact r56_13
      | 14, _ => exact r56_14
      | 15, _ => exact r56_15
      | 16, _ => exact r56_16
      | 17, _ => exact r56_17
      | 18, _ => exact r56_18
      | 19, _ => exact r56_19
      | n + 20, h => exact absurd h (by omega)) r56_20
  · cases h0) e56_0
theorem L65_ok {CP : (Nat → Option KT) → List Value → Prop} (hy : Hyp CP) : KitOK Try.prog CP L65 := (L64_ok hy).ent (c56_0 hy)
end Go.Proofs.Ytnoelppkcbelcaa.Ty
