/-
The machine's functions, each behind those that it calls.
-/
import Derived.Test.YtnoelppkcbelcaaTyQ
import Derived.Test.YtnoelppkcbelcaaProg
set_option linter.unusedVariables false
set_option linter.unusedSimpArgs false
set_option maxHeartbeats 0
set_option maxRecDepth 100000
namespace Go.Proofs.Ytnoelppkcbelcaa.Ty
open Go Go.RowKit
def B0 : SV := .bool (some false) [] []
def I (k : IntKind) : SV := .int k 0 0 none
def types : List (Nat × TD) := [(3, ⟨1, 8, false, some [I .i64], none, none, some .i64, false⟩),
 (4, ⟨1, 1, false, some [B0], none, none, none, true⟩),
 (5, ⟨1, 1, false, some [I .u8], none, none, some .u8, false⟩),
 (9, ⟨1, 16, false, some [.str], none, none, none, false⟩),
 (22, ⟨1, 24, false, some [.nils], none, some 5, none, false⟩),
 (24, ⟨1, 24, false, some [.nils], none, some 32, none, false⟩),
 (27, ⟨1, 24, false, some [.nils], none, some 3, none, false⟩),
 (30, ⟨1, 2, false, some [I .u16], none, none, some .u16, false⟩),
 (32, ⟨3, 4, true, some [I .u16, I .u8, B0], some [(0, 1, false), (1, 1, false), (2, 1, false)], none, none, false⟩),
 (35, ⟨1, 24, true, some [.nils], some [(0, 1, false)], none, none, false⟩),
 (81, ⟨6, 6, true, some [B0, B0, B0, B0, B0, B0], some [(0, 1, false), (1, 1, false), (2, 1, false), (3, 1, false), (4, 1, false), (5, 1, false)], none, none, false⟩),
 (83, ⟨11, 12, true, some [I .u8, I .u8, I .u8, I .u8, I .u16, B0, B0, B0, B0, B0, B0], some [(0, 1, false), (1, 1, false), (2, 1, false), (3, 1, false), (4, 1, false), (5, 6, true)], none, none, false⟩),
 (86, ⟨1, 24, false, some [.nils], none, some 83, none, false⟩),
 (88, ⟨16, 120, true, some [I .u8, I .u8, I .u8, I .u8, I .u16, B0, B0, B0, B0, B0, B0, .nils, .nils, .nils, .nils, B0], some [(0, 11, true), (11, 1, true), (12, 1, false), (13, 1, false), (14, 1, false), (15, 1, false)], none, none, false⟩),
 (90, ⟨1, 24, false, some [.nils], none, some 115, none, false⟩),
 (115, ⟨2, 16, true, some [I .i64, B0], some [(0, 1, false), (1, 1, false)], none, none, false⟩),
 (125, ⟨2, 48, true, some [.nils, .nils], some [(0, 1, false), (1, 1, false)], none, none, false⟩),
 (177, ⟨1, 24, false, some [.nils], none, some 9, none, false⟩),
 (151, ⟨2, 24, true, some [.str, I .i64], some [(0, 1, false), (1, 1, false)], none, none, false⟩),
 (51, ⟨5, 16, true, some [I .u16, I .u16, I .u8, I .u8, I .i64], some [(0, 1, false), (1, 1, false), (2, 1, false), (3, 1, false), (4, 1, false)], none, none, false⟩),
 (43, ⟨1, 24, false, some [.nils], none, some 51, none, false⟩)]
theorem types_eq : types = tabs Try.prog [3, 4, 5, 9, 22, 24, 27, 30, 32, 35, 81, 83, 86, 88, 90, 115, 125, 177, 151, 51, 43] := by kernel_rfl
def u8 : CT := .int .u8 0 255
def u16 : CT := .int .u16 0 65535
def i64 : CT := .int .i64 (-9223372036854775808) 9223372036854775807
def cpuC : List CT := [u8, u8, u8, u8, u16, .bool, .bool, .bool, .bool, .bool, .bool]
def cycC : List CT := [u16, u8, .bool]
def ruleC : List CT := [u16, u16, u8, u8, i64]
def hints : List (Nat × List CT) := [(5, [u8]), (3, [i64]), (32, cycC), (83, cpuC), (115, [i64, .bool]), (9, [.str]), (51, ruleC)]
def cur : AV := .one (.cell .cur)
def ii (a b : Int) : AV := .one (.cell (.int .i64 a b none))
def c1 (s : SV) : List Out := [⟨.one (.cell s), [], none⟩]
def sU8 : SV := .int .u8 0 255 none
def sU16 : SV := .int .u16 0 65535 none
def U8 : AV := .one (.cell sU8)
def U16 : AV := .one (.cell sU16)
def b_ : SV := .bool none [] []
def BB : AV := .one (.cell b_)
def STR : AV := .one (.cell .str)
def flC : List SV := [b_, b_, b_, b_, b_, b_]
def cpC : List SV := [sU8, sU8, sU8, sU8, sU16, b_, b_, b_, b_, b_, b_]
def FL : AV := .one (.agg flC)
def CPU : AV := .one (.agg cpC)
def RAM (n : Nat) : AV := .one (.agg [.slice [u8] n n none])
def EV : AV := .one (.cell (.slice [i64, .bool] 0 3 none))
def NIL : AV := .one (.agg [.nils])
def SB (a b : Nat) : AV := .one (.cell (.slice [u8] a b none))
def outFL : List Out := [⟨.one (.agg flC), [], none⟩]
def outB8 : List Out := [⟨.tup [.cell sU8, .agg flC], [], none⟩]
def outCPU : List Out := [⟨.one (.agg cpC), [], none⟩]
def outByte : List Out := c1 (.int .i64 0 255 none)
def RAMG (a b : Nat) : AV := .one (.agg [.slice [u8] a b none])
def RANY : AV := RAMG 0 4096
def RLt : List (Nat × Nat) := [(256, 256), (257, 511), (512, 512), (513, 1023), (1024, 1024), (1025, 2047), (2048, 2048), (2049, 4095), (4096, 4096)]
def stepOut : List Out := [⟨.tup [.agg cpC, .agg [.slice [u8] 0 4096 none], .cell (.slice cycC 0 8 none)], [], none⟩]
def ranyOut : List Out := [⟨RANY, [], none⟩]
def noHow : How := fun _ => none
def how1 (b t : Nat) (lim : Int) : How := fun x => if x = b then some (t, .i64, 0, lim) else none
def kps : List (Nat × List Nat) := [(39, [0, 1, 4, 5, 6, 7, 8]), (38, [0, 1, 4]), (58, [0, 1, 4]), (59, [0, 2]), (115, [0, 2]), (135, [0, 1, 4]), (137, [0, 1, 4, 5, 6]), (138, [0, 1, 4, 5, 6, 17, 62]), (136, [0, 1, 4, 5, 6, 11, 40]), (119, [0, 2, 3, 4, 13]), (97, [0, 2]), (100, [0, 2]), (94, [0, 2, 4, 7, 10]), (93, [0, 2, 3, 4, 9, 22, 25, 28, 42, 43]), (121, [0, 1, 3, 4]), (150, [0, 1, 2, 6]), (149, [0, 1, 2, 5, 6, 7, 8]), (73, [0, 1, 4]), (124, [0, 2]), (117, [0, 2]), (80, [0, 1, 2, 5, 6]), (81, [0, 1, 2, 6]), (98, [0, 1, 2, 4]), (84, [0, 1, 2, 4]), (118, [0, 1, 2, 4]), (143, [0, 1, 2, 5, 6, 7, 8, 9, 10, 11]), (144, [0, 1, 2, 5, 6, 7, 8, 9, 10, 11]), (145, [0, 1, 2, 5, 6]), (146, [0, 1, 2, 5, 6]), (95, [0, 1, 4, 5, 6]), (116, [0, 1, 2, 6]), (139, [0, 1, 3, 4, 5]), (140, [0, 1, 3, 4, 5]), (141, [0, 1, 3, 4, 5, 6]), (142, [0, 1, 3, 4, 5, 6]), (127, [0, 1, 2, 4, 5]), (122, [0, 1, 2, 4, 5]), (123, [0, 1, 2, 4, 5, 6, 7, 8, 9, 10, 11, 12, 13, 14, 15, 16, 17, 18, 19, 20, 21, 22, 23, 24, 25, 26, 27, 28, 29, 30, 31, 32, 33, 34, 35, 36, 37, 38, 39]), (147, [0, 1, 2, 4, 5, 6, 13]), (120, [0, 1, 2, 5, 6, 7, 8]), (125, [0, 1, 2, 3, 6, 7]), (99, [0, 1, 2, 3, 6, 21]), (126, [0, 1, 2, 3, 5, 8, 9, 10, 11, 12, 13, 14, 23, 36]), (96, [0, 1, 2, 3, 4, 6, 10, 11, 12]), (101, [0, 1, 2, 4, 6, 7, 8, 9, 10]), (103, [0, 1, 2, 3, 5, 8, 9, 10, 11, 12, 13, 14, 15, 16, 17, 28]), (102, [0, 1, 2, 4, 6, 7, 8, 9, 10, 11, 12, 13, 14, 51]), (85, [0, 1, 2, 3, 4, 5, 6, 7, 8, 38, 71]), (83, [0, 1, 2, 3, 4, 6, 7, 8, 9, 10]), (82, [0, 1, 2, 6, 7]), (92, [0, 2, 3, 4]), (86, [0, 2]), (91, [0, 2]), (77, [0, 2]), (90, [0, 1, 4, 5, 6, 7, 8]), (14, [0, 2, 3, 4]), (79, [0, 1, 2, 3, 6, 7, 8]), (76, [0, 2, 3, 4, 5]), (78, [0, 2, 3, 4, 5, 6, 7, 8, 9]), (55, [0, 2, 3, 4, 5, 6]), (57, [0, 2, 3, 4, 5]), (56, [0, 1, 2, 3, 4, 5, 8, 9, 10, 11, 12])]
def hin (f : Nat) (how : How) (mg : Bool) : Hint := { how := how, mg := mg, U := 130, keep := lookT kps f }
noncomputable def L0 : Kit := ⟨lookT types, lookT hints, fun _ _ _ => none, []⟩
noncomputable def L1 : Kit := L0.inl 39 Try.f39 (hin 39 noHow true) 200
noncomputable def L2 : Kit := (L1.ent 61 [cur] outByte).below 39
noncomputable def L3 : Kit := L2.inl 38 Try.f38 (hin 38 noHow true) 200
noncomputable def L4 : Kit := L3.inl 58 Try.f58 (hin 58 noHow true) 200
noncomputable def L5 : Kit := L4.ent 59 [cur] (c1 sU8)
noncomputable def L6 : Kit := L5.inl 115 Try.f115 (hin 115 noHow true) 200
noncomputable def L7 : Kit := L6.inl 135 Try.f135 (hin 135 noHow true) 200
noncomputable def L8 : Kit := L7.inl 137 Try.f137 (hin 137 noHow true) 200
noncomputable def L9 : Kit := L8.inl 138 Try.f138 (hin 138 noHow false) 200
noncomputable def L10 : Kit := L9.inl 136 Try.f136 (hin 136 noHow true) 200
noncomputable def L11 : Kit := L10.ent 119 [U8] ([⟨.one (.agg [.str, .int .i64 0 13 none]), [], none⟩])
noncomputable def L12 : Kit := L11.ent 97 [U8] (c1 .str)
noncomputable def L13 : Kit := L12.ent 100 [U8] (c1 (.int .i64 (-1) 13 none))
noncomputable def L14 : Kit := L13.ent 94 [U8] (c1 (.int .i64 0 3 none))
noncomputable def L15 : Kit := L14.ent 93 [U8] (c1 (.int .i64 0 12 none))
noncomputable def L16 : Kit := L15.inl 121 Try.f121 (hin 121 noHow true) 200
noncomputable def L17 : Kit := L16.inl 150 Try.f150 (hin 150 noHow true) 200
noncomputable def L18 : Kit := L17.inl 149 Try.f149 (hin 149 noHow true) 200
noncomputable def L19 : Kit := L18.inl 73 Try.f73 (hin 73 noHow true) 200
noncomputable def L20 : Kit := L19.inl 124 Try.f124 (hin 124 noHow true) 200
noncomputable def L21 : Kit := L20.inl 117 Try.f117 (hin 117 noHow true) 200
noncomputable def L22 : Kit := L21.inl 80 Try.f80 (hin 80 noHow true) 200
noncomputable def L23 : Kit := L22.inl 81 Try.f81 (hin 81 noHow true) 200
noncomputable def L24 : Kit := L23.inl 98 Try.f98 (hin 98 noHow true) 200
noncomputable def L25 : Kit := L24.inl 84 Try.f84 (hin 84 noHow true) 200
noncomputable def L26 : Kit := L25.ent 118 [FL, BB] (c1 sU8)
noncomputable def L27 : Kit := L26.ent 143 [U8, U8, FL] (outB8)
noncomputable def L28 : Kit := L27.ent 144 [U8, U8, FL] (outB8)
noncomputable def L29 : Kit := L28.ent 145 [U8, U8, FL] (outFL)
noncomputable def L30 : Kit := L29.ent 146 [U8, U8, FL] (outFL)
noncomputable def L31 : Kit := L30.inl 95 Try.f95 (hin 95 noHow true) 200
noncomputable def L32 : Kit := L31.inl 116 Try.f116 (hin 116 noHow true) 200
noncomputable def L33 : Kit := L32.inl 139 Try.f139 (hin 139 noHow true) 200
noncomputable def L34 : Kit := L33.inl 140 Try.f140 (hin 140 noHow true) 200
noncomputable def L35 : Kit := L34.inl 141 Try.f141 (hin 141 noHow true) 200
noncomputable def L36 : Kit := L35.inl 142 Try.f142 (hin 142 noHow true) 200
noncomputable def L37 : Kit := L36.inl 127 Try.f127 (hin 127 noHow true) 200
noncomputable def L38 : Kit := L37.ent 122 [FL, STR] (outFL)
noncomputable def L39 : Kit := L38.ent 123 [FL, STR] (c1 b_)
noncomputable def L40 : Kit := L39.ent 147 [CPU, ii (-1) 13] (c1 (.int .i64 0 255 none))
noncomputable def L41 : Kit := L40.ent 120 [STR, U8, FL] (outB8)
noncomputable def L42 : Kit := L41.ent 125 [CPU, STR, U8] (outCPU)
noncomputable def L43 : Kit := L42.ent 99 [CPU, STR, ii (-1) 13] (outCPU)
noncomputable def L44 : Kit := L43.inl 126 Try.f126 (hin 126 noHow true) 200
noncomputable def L45 : Kit := L44.inl 96 Try.f96 (hin 96 noHow true) 200
noncomputable def L46 : Kit := L45.inl 101 Try.f101 (hin 101 noHow true) 200
noncomputable def L47 : Kit := L46.inl 128 Try.f128 (hin 128 noHow true) 200
noncomputable def L48 : Kit := L47.inl 103 Try.f103 (hin 103 noHow true) 200
noncomputable def L49 : Kit := L48.inl 102 Try.f102 (hin 102 noHow true) 200
noncomputable def L50 : Kit := L49.ent 85 [CPU, RANY] (stepOut)
noncomputable def L51 : Kit := L50.ent 83 [CPU, RANY, BB] (stepOut)
noncomputable def L52 : Kit := L51.ent 82 [EV, ii 0 20, BB] (c1 b_)
noncomputable def L53 : Kit := L52.ent 84 [RANY, U16] (c1 b_)
noncomputable def L54 : Kit := L53.ent 92 [cur] (c1 sU8)
noncomputable def L55 : Kit := L54.ent 86 [cur] (c1 sU16)
noncomputable def L56 : Kit := L55.ent 91 [cur] (outFL)
noncomputable def L57 : Kit := L56.ent 77 [cur] (outCPU)
noncomputable def L58 : Kit := L57.ent 90 [cur, ii 60 60] (c1 (.slice [u8] 60 240 none))
noncomputable def L59 : Kit := L58.inl 14 Try.f14 (hin 14 noHow false) 200
noncomputable def L60 : Kit := L59.ent 79 [RANY, U16, SB 0 300] (ranyOut)
noncomputable def L61 : Kit := L60.ent 76 [cur] (ranyOut)
noncomputable def L62 : Kit := L61.ent 78 [cur] ([⟨SB 0 100, [], none⟩])
noncomputable def L63 : Kit := L62.ent 55 [cur] ([⟨.tup [.agg cpC, .agg [.slice [u8] 0 4096 none]], [], none⟩])
noncomputable def L64 : Kit := L63.ent 57 [cur] ([⟨.one (.cell (.slice [i64, .bool] 0 3 none)), [], none⟩])
def anys (n : Nat) : List SV := List.replicate n .any
def shot (k : Nat) : List SV := cpC ++ [.slice [u8] 0 4096 none, .slice cycC 0 (8 * k) none, .slice [i64] 0 k none, .slice cpuC 0 k none, b_]
def runB (k : Nat) : List (TypeId × List SV) := [(83, anys 11), (35, anys 1), (88, anys 16), (88, shot k)]
def runH (k : Nat) : St := ⟨[(10, ii k k), (9, .one (.cell (.ptr 3 0))), (8, .one (.cell (.ptr 2 0))), (2, EV), (3, ii 1 20)], 124, runB k, [], 40 + 400 * k, []⟩
def runEX : List (Nat × St) := [(0, ⟨[(9, .one (.cell (.ptr 3 0))), (8, .one (.cell (.ptr 2 0)))], 124, runB 20, [], 10000, []⟩)]
noncomputable def runD : Code := (loopsAt 0 (Try.f56.body.getD .skip)).getD 0 .skip
def hinR56 : Hint := { hin 56 noHow true with lp := fun i => if i = 0 then some (runH 0, ⟨[], runEX, []⟩) else none }
noncomputable def L65 : Kit := L64.ent 56 [CPU, RANY, EV, ii 1 20] ([⟨.one (.agg (shot 20)), [], none⟩])
end Go.Proofs.Ytnoelppkcbelcaa.Ty
