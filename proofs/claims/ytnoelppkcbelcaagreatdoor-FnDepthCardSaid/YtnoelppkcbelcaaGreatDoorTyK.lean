/-
The machine's functions, each behind those that it calls.
-/
import Derived.Test.YtnoelppkcbelcaaGreatDoorTyQ
import Derived.Test.YtnoelppkcbelcaaGreatDoorProg
set_option linter.unusedVariables false
set_option linter.unusedSimpArgs false
set_option maxHeartbeats 0
set_option maxRecDepth 100000
namespace Go.Proofs.YtnoelppkcbelcaaGreatDoor.Ty
open Go Go.RowKit
def B0 : SV := .bool (some false) [] []
def I (k : IntKind) : SV := .int k 0 0 none
def types : List (Nat × TD) := [(3, ⟨1, 8, false, some [I .i64], none, none, some .i64, false⟩),
 (4, ⟨1, 1, false, some [B0], none, none, none, true⟩),
 (5, ⟨1, 1, false, some [I .u8], none, none, some .u8, false⟩),
 (9, ⟨1, 16, false, some [.str], none, none, none, false⟩),
 (22, ⟨1, 24, false, some [.nils], none, some 5, none, false⟩),
 (24, ⟨1, 24, false, some [.nils], none, some 62, none, false⟩),
 (25, ⟨1, 24, false, some [.nils], none, some 3, none, false⟩),
 (41, ⟨1, 2, false, some [I .u16], none, none, some .u16, false⟩),
 (62, ⟨3, 4, true, some [I .u16, I .u8, B0], some [(0, 1, false), (1, 1, false), (2, 1, false)], none, none, false⟩),
 (47, ⟨1, 24, true, some [.nils], some [(0, 1, false)], none, none, false⟩),
 (43, ⟨6, 6, true, some [B0, B0, B0, B0, B0, B0], some [(0, 1, false), (1, 1, false), (2, 1, false), (3, 1, false), (4, 1, false), (5, 1, false)], none, none, false⟩),
 (45, ⟨11, 12, true, some [I .u8, I .u8, I .u8, I .u8, I .u16, B0, B0, B0, B0, B0, B0], some [(0, 1, false), (1, 1, false), (2, 1, false), (3, 1, false), (4, 1, false), (5, 6, true)], none, none, false⟩),
 (50, ⟨1, 24, false, some [.nils], none, some 45, none, false⟩),
 (52, ⟨16, 120, true, some [I .u8, I .u8, I .u8, I .u8, I .u16, B0, B0, B0, B0, B0, B0, .nils, .nils, .nils, .nils, B0], some [(0, 11, true), (11, 1, true), (12, 1, false), (13, 1, false), (14, 1, false), (15, 1, false)], none, none, false⟩),
 (54, ⟨1, 24, false, some [.nils], none, some 78, none, false⟩),
 (78, ⟨2, 16, true, some [I .i64, B0], some [(0, 1, false), (1, 1, false)], none, none, false⟩),
 (91, ⟨2, 48, true, some [.nils, .nils], some [(0, 1, false), (1, 1, false)], none, none, false⟩),
 (103, ⟨1, 24, false, some [.nils], none, some 9, none, false⟩),
 (64, ⟨2, 24, true, some [.str, I .i64], some [(0, 1, false), (1, 1, false)], none, none, false⟩)]
theorem types_eq : types = tabs Tryz.prog [3, 4, 5, 9, 22, 24, 25, 41, 62, 47, 43, 45, 50, 52, 54, 78, 91, 103, 64] := by kernel_rfl
def u8 : CT := .int .u8 0 255
def u16 : CT := .int .u16 0 65535
def i64 : CT := .int .i64 (-9223372036854775808) 9223372036854775807
def cpuC : List CT := [u8, u8, u8, u8, u16, .bool, .bool, .bool, .bool, .bool, .bool]
def cycC : List CT := [u16, u8, .bool]
def ruleC : List CT := [u16, u16, u8, u8, i64]
def hints : List (Nat × List CT) := [(5, [u8]), (3, [i64]), (62, cycC), (45, cpuC), (78, [i64, .bool]), (9, [.str])]
def cur : AV := .one (.cell .cur)
def ii (a b : Int) : AV := .one (.cell (.int .i64 a b none))
def c1 (s : SV) : List Out := [⟨.one (.cell s), [], none⟩]
def sU8 : SV := .int .u8 0 255 none
def sU16 : SV := .int .u16 0 65535 none
def U8 : AV := .one (.cell sU8)
def U16 : AV := .one (.cell sU16)
def b_ : SV := .bool none [] []
def BB : AV := .one (.cell b_)
def STR : AV := .one (.cell .str)
def flC : List SV := [b_, b_, b_, b_, b_, b_]
def cpC : List SV := [sU8, sU8, sU8, sU8, sU16, b_, b_, b_, b_, b_, b_]
def FL : AV := .one (.agg flC)
def CPU : AV := .one (.agg cpC)
def RAM (n : Nat) : AV := .one (.agg [.slice [u8] n n none])
def EV : AV := .one (.cell (.slice [i64, .bool] 0 3 none))
def NIL : AV := .one (.agg [.nils])
def SB (a b : Nat) : AV := .one (.cell (.slice [u8] a b none))
def outFL : List Out := [⟨.one (.agg flC), [], none⟩]
def outB8 : List Out := [⟨.tup [.cell sU8, .agg flC], [], none⟩]
def outCPU : List Out := [⟨.one (.agg cpC), [], none⟩]
def outByte : List Out := c1 (.int .i64 0 255 none)
def RAMG (a b : Nat) : AV := .one (.agg [.slice [u8] a b none])
def RANY : AV := RAMG 0 4096
def RLt : List (Nat × Nat) := [(256, 256), (257, 511), (512, 512), (513, 1023), (1024, 1024), (1025, 2047), (2048, 2048), (2049, 4095), (4096, 4096)]
def stepOut : List Out := [⟨.tup [.agg cpC, .agg [.slice [u8] 0 4096 none], .cell (.slice cycC 0 8 none)], [], none⟩]
def ranyOut : List Out := [⟨RANY, [], none⟩]
def noHow : How := fun _ => none
def how1 (b t : Nat) (lim : Int) : How := fun x => if x = b then some (t, .i64, 0, lim) else none
def kps : List (Nat × List Nat) := [(20, [0, 1, 4, 5, 6, 7, 8]), (21, [0, 1, 4]), (29, [0, 1, 4]), (45, [0, 2]), (63, [0, 2]), (79, [0, 1, 4]), (41, [0, 1, 4, 5, 6]), (42, [0, 1, 4, 5, 6, 17, 62]), (40, [0, 1, 4, 5, 6, 11, 40]), (26, [0, 2, 3, 4, 13]), (15, [0, 2]), (55, [0, 2]), (50, [0, 2, 4, 7, 10]), (49, [0, 2, 3, 4, 9, 22, 25, 28, 42, 43]), (69, [0, 1, 3, 4]), (96, [0, 1, 2, 6]), (95, [0, 1, 2, 5, 6, 7, 8]), (67, [0, 1, 4]), (72, [0, 2]), (65, [0, 2]), (32, [0, 1, 2, 5, 6]), (25, [0, 1, 2, 6]), (53, [0, 1, 2, 4]), (35, [0, 1, 2, 4]), (66, [0, 1, 2, 4]), (84, [0, 1, 2, 5, 6, 7, 8, 9, 10, 11]), (85, [0, 1, 2, 5, 6, 7, 8, 9, 10, 11]), (86, [0, 1, 2, 5, 6]), (87, [0, 1, 2, 5, 6]), (51, [0, 1, 4, 5, 6]), (64, [0, 1, 2, 6]), (80, [0, 1, 3, 4, 5]), (81, [0, 1, 3, 4, 5]), (82, [0, 1, 3, 4, 5, 6]), (83, [0, 1, 3, 4, 5, 6]), (75, [0, 1, 2, 4, 5]), (70, [0, 1, 2, 4, 5]), (71, [0, 1, 2, 4, 5, 6, 7, 8, 9, 10, 11, 12, 13, 14, 15, 16, 17, 18, 19, 20, 21, 22, 23, 24, 25, 26, 27, 28, 29, 30, 31, 32, 33, 34, 35, 36, 37, 38, 39]), (88, [0, 1, 2, 4, 5, 6, 13]), (68, [0, 1, 2, 5, 6, 7, 8]), (73, [0, 1, 2, 3, 6, 7]), (54, [0, 1, 2, 3, 6, 21]), (74, [0, 1, 2, 3, 5, 8, 9, 10, 11, 12, 13, 14, 23, 36]), (52, [0, 1, 2, 3, 4, 6, 10, 11, 12]), (56, [0, 1, 2, 4, 6, 7, 8, 9, 10]), (58, [0, 1, 2, 3, 5, 8, 9, 10, 11, 12, 13, 14, 15, 16, 17, 28]), (57, [0, 1, 2, 4, 6, 7, 8, 9, 10, 11, 12, 13, 14, 51]), (36, [0, 1, 2, 3, 4, 5, 6, 7, 8, 38, 71]), (34, [0, 1, 2, 3, 4, 6, 7, 8, 9, 10]), (33, [0, 1, 2, 6, 7]), (48, [0, 2, 3, 4]), (46, [0, 2]), (47, [0, 2]), (28, [0, 2]), (44, [0, 1, 4, 5, 6, 7, 8]), (43, [0, 2, 3, 4]), (31, [0, 1, 2, 3, 6, 7, 8]), (27, [0, 2, 3, 4, 5]), (30, [0, 2, 3, 4, 5, 6, 7, 8, 9]), (17, [0, 2, 3, 4, 5, 6]), (19, [0, 2, 3, 4, 5]), (18, [0, 1, 2, 3, 4, 5, 8, 9, 10, 11, 12])]
def hin (f : Nat) (how : How) (mg : Bool) : Hint := { how := how, mg := mg, U := 130, keep := lookT kps f }
noncomputable def L0 : Kit := ⟨lookT types, lookT hints, fun _ _ _ => none, []⟩
noncomputable def L1 : Kit := L0.inl 20 Tryz.f20 (hin 20 noHow true) 200
noncomputable def L2 : Kit := (L1.ent 37 [cur] outByte).below 20
noncomputable def L3 : Kit := L2.inl 21 Tryz.f21 (hin 21 noHow true) 200
noncomputable def L4 : Kit := L3.inl 29 Tryz.f29 (hin 29 noHow true) 200
noncomputable def L5 : Kit := L4.ent 45 [cur] (c1 sU8)
noncomputable def L6 : Kit := L5.inl 63 Tryz.f63 (hin 63 noHow true) 200
noncomputable def L7 : Kit := L6.inl 79 Tryz.f79 (hin 79 noHow true) 200
noncomputable def L8 : Kit := L7.inl 41 Tryz.f41 (hin 41 noHow true) 200
noncomputable def L9 : Kit := L8.inl 42 Tryz.f42 (hin 42 noHow false) 200
noncomputable def L10 : Kit := L9.inl 40 Tryz.f40 (hin 40 noHow true) 200
noncomputable def L11 : Kit := L10.ent 26 [U8] ([⟨.one (.agg [.str, .int .i64 0 13 none]), [], none⟩])
noncomputable def L12 : Kit := L11.ent 15 [U8] (c1 .str)
noncomputable def L13 : Kit := L12.ent 55 [U8] (c1 (.int .i64 (-1) 13 none))
noncomputable def L14 : Kit := L13.ent 50 [U8] (c1 (.int .i64 0 3 none))
noncomputable def L15 : Kit := L14.ent 49 [U8] (c1 (.int .i64 0 12 none))
noncomputable def L16 : Kit := L15.inl 69 Tryz.f69 (hin 69 noHow true) 200
noncomputable def L17 : Kit := L16.inl 96 Tryz.f96 (hin 96 noHow true) 200
noncomputable def L18 : Kit := L17.inl 95 Tryz.f95 (hin 95 noHow true) 200
noncomputable def L19 : Kit := L18.inl 67 Tryz.f67 (hin 67 noHow true) 200
noncomputable def L20 : Kit := L19.inl 72 Tryz.f72 (hin 72 noHow true) 200
noncomputable def L21 : Kit := L20.inl 65 Tryz.f65 (hin 65 noHow true) 200
noncomputable def L22 : Kit := L21.inl 32 Tryz.f32 (hin 32 noHow true) 200
noncomputable def L23 : Kit := L22.inl 25 Tryz.f25 (hin 25 noHow true) 200
noncomputable def L24 : Kit := L23.inl 53 Tryz.f53 (hin 53 noHow true) 200
noncomputable def L25 : Kit := L24.inl 35 Tryz.f35 (hin 35 noHow true) 200
noncomputable def L26 : Kit := L25.ent 66 [FL, BB] (c1 sU8)
noncomputable def L27 : Kit := L26.ent 84 [U8, U8, FL] (outB8)
noncomputable def L28 : Kit := L27.ent 85 [U8, U8, FL] (outB8)
noncomputable def L29 : Kit := L28.ent 86 [U8, U8, FL] (outFL)
noncomputable def L30 : Kit := L29.ent 87 [U8, U8, FL] (outFL)
noncomputable def L31 : Kit := L30.inl 51 Tryz.f51 (hin 51 noHow true) 200
noncomputable def L32 : Kit := L31.inl 64 Tryz.f64 (hin 64 noHow true) 200
noncomputable def L33 : Kit := L32.inl 80 Tryz.f80 (hin 80 noHow true) 200
noncomputable def L34 : Kit := L33.inl 81 Tryz.f81 (hin 81 noHow true) 200
noncomputable def L35 : Kit := L34.inl 82 Tryz.f82 (hin 82 noHow true) 200
noncomputable def L36 : Kit := L35.inl 83 Tryz.f83 (hin 83 noHow true) 200
noncomputable def L37 : Kit := L36.inl 75 Tryz.f75 (hin 75 noHow true) 200
noncomputable def L38 : Kit := L37.ent 70 [FL, STR] (outFL)
noncomputable def L39 : Kit := L38.ent 71 [FL, STR] (c1 b_)
noncomputable def L40 : Kit := L39.ent 88 [CPU, ii (-1) 13] (c1 (.int .i64 0 255 none))
noncomputable def L41 : Kit := L40.ent 68 [STR, U8, FL] (outB8)
noncomputable def L42 : Kit := L41.ent 73 [CPU, STR, U8] (outCPU)
noncomputable def L43 : Kit := L42.ent 54 [CPU, STR, ii (-1) 13] (outCPU)
noncomputable def L44 : Kit := L43.inl 74 Tryz.f74 (hin 74 noHow true) 200
noncomputable def L45 : Kit := L44.inl 52 Tryz.f52 (hin 52 noHow true) 200
noncomputable def L46 : Kit := L45.inl 56 Tryz.f56 (hin 56 noHow true) 200
noncomputable def L47 : Kit := L46.inl 76 Tryz.f76 (hin 76 noHow true) 200
noncomputable def L48 : Kit := L47.inl 58 Tryz.f58 (hin 58 noHow true) 200
noncomputable def L49 : Kit := L48.inl 57 Tryz.f57 (hin 57 noHow true) 200
noncomputable def L50 : Kit := L49.ent 36 [CPU, RANY] (stepOut)
noncomputable def L51 : Kit := L50.ent 34 [CPU, RANY, BB] (stepOut)
noncomputable def L52 : Kit := L51.ent 33 [EV, ii 0 20, BB] (c1 b_)
noncomputable def L53 : Kit := L52.ent 35 [RANY, U16] (c1 b_)
noncomputable def L54 : Kit := L53.ent 48 [cur] (c1 sU8)
noncomputable def L55 : Kit := L54.ent 46 [cur] (c1 sU16)
noncomputable def L56 : Kit := L55.ent 47 [cur] (outFL)
noncomputable def L57 : Kit := L56.ent 28 [cur] (outCPU)
noncomputable def L58 : Kit := L57.ent 44 [cur, ii 60 60] (c1 (.slice [u8] 60 240 none))
noncomputable def L59 : Kit := L58.inl 43 Tryz.f43 (hin 43 noHow false) 200
noncomputable def L60 : Kit := L59.ent 31 [RANY, U16, SB 0 300] (ranyOut)
noncomputable def L61 : Kit := L60.ent 27 [cur] (ranyOut)
noncomputable def L62 : Kit := L61.ent 30 [cur] ([⟨SB 0 100, [], none⟩])
noncomputable def L63 : Kit := L62.ent 17 [cur] ([⟨.tup [.agg cpC, .agg [.slice [u8] 0 4096 none]], [], none⟩])
noncomputable def L64 : Kit := L63.ent 19 [cur] ([⟨.one (.cell (.slice [i64, .bool] 0 3 none)), [], none⟩])
def anys (n : Nat) : List SV := List.replicate n .any
def shot (k : Nat) : List SV := cpC ++ [.slice [u8] 0 4096 none, .slice cycC 0 (8 * k) none, .slice [i64] 0 k none, .slice cpuC 0 k none, b_]
def runB (k : Nat) : List (TypeId × List SV) := [(45, anys 11), (47, anys 1), (52, anys 16), (52, shot k)]
def runH (k : Nat) : St := ⟨[(10, ii k k), (9, .one (.cell (.ptr 3 0))), (8, .one (.cell (.ptr 2 0))), (2, EV), (3, ii 1 20)], 124, runB k, [], 40 + 400 * k⟩
def runEX : List (Nat × St) := [(0, ⟨[(9, .one (.cell (.ptr 3 0))), (8, .one (.cell (.ptr 2 0)))], 124, runB 20, [], 10000⟩)]
noncomputable def runD : Code := (loopsAt 0 (Tryz.f18.body.getD .skip)).getD 0 .skip
def hinR18 : Hint := { hin 18 noHow true with lp := fun i => if i = 0 then some (runH 0, ⟨[], runEX, []⟩) else none }
noncomputable def L65 : Kit := L64.ent 18 [CPU, RANY, EV, ii 1 20] ([⟨.one (.agg (shot 20)), [], none⟩])
end Go.Proofs.YtnoelppkcbelcaaGreatDoor.Ty
