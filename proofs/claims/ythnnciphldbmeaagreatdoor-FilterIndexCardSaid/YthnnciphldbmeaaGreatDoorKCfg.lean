/-
 The run: which functions are run how, and in which order regions that draw are run. Written by lift2.py.
-/
import Derived.Test.YthnnciphldbmeaaGreatDoorAvLib
import Derived.Test.YthnnciphldbmeaaGreatDoorAvYld
import Derived.Test.YthnnciphldbmeaaGreatDoorAvMap
import Derived.Test.YthnnciphldbmeaaGreatDoorAvBig
import Derived.Test.YthnnciphldbmeaaGreatDoorAvCo
import Derived.Test.YthnnciphldbmeaaGreatDoorAvHq
import Derived.Test.YthnnciphldbmeaaGreatDoorAvKm
import Derived.Test.YthnnciphldbmeaaGreatDoorAvFast
import Derived.Test.YthnnciphldbmeaaGreatDoorAvTold
import Derived.Test.YthnnciphldbmeaaGreatDoorKA
import Derived.Test.YthnnciphldbmeaaGreatDoorLay
import Derived.Test.YthnnciphldbmeaaGreatDoorProg
namespace Go.Av.L
open Go.Av Go.Lib
set_option linter.unusedSimpArgs false
set_option linter.unusedVariables false
def kinds : List Nat := [0, 0, 0, 0, 0, 0, 1, 0, 1, 0, 0, 0, 1, 1, 0, 7, 0, 0, 1, 1, 0, 1, 0, 1, 1, 1, 1, 1, 7, 1, 1, 1, 1, 1, 0, 1, 0, 0, 0, 1, 1, 1, 1, 1, 1, 7, 1, 1, 0, 1, 1, 7, 1, 1, 3, 1, 7, 1, 7, 1, 3, 3, 1, 1, 1, 1, 3, 3, 9, 0, 0, 0, 0, 0, 0, 0, 1, 1, 1, 1, 1, 1, 1, 1, 1, 1, 1, 1, 3, 1, 1, 1, 1, 0, 0, 0, 1, 3, 1, 3, 1, 0, 0, 0, 0, 0, 0, 0, 0, 1, 1, 0, 0, 0, 0, 0, 0, 0, 0, 0, 0, 0, 0, 0, 0, 0, 0, 0, 0, 1, 9, 0, 0, 0, 0, 0, 0, 0, 1, 1, 1, 1, 1, 1, 0, 0, 0, 1, 1, 1, 0, 1, 1, 1, 0, 0, 0, 1, 0, 0, 0, 1, 0, 0, 0, 0, 0, 0, 0, 0, 0, 0, 0, 0, 0, 0, 0, 0, 0, 0, 1, 1, 1, 1, 0, 0, 0, 0, 0, 0, 0, 0, 1, 0, 0, 0, 0, 0, 0, 1, 1, 1, 1, 1, 1, 0, 0, 0, 3, 0, 0, 0, 1, 0, 0, 1, 0, 0, 0, 0, 0, 0, 1, 0, 0, 0, 0, 1, 3, 0, 0, 0, 0, 0, 0, 0, 0, 0, 0, 0, 0, 0, 0, 0, 0, 0, 0, 1, 1, 0, 0, 0, 0, 0, 0, 0, 0, 0, 0, 0, 0, 0, 1, 1, 1, 1, 1, 0, 0, 0, 0, 0, 0, 0, 0, 0, 0, 0, 1, 0, 0, 0, 0, 0, 0, 0, 0, 0, 0, 1, 0, 0, 0, 0, 0, 0, 0, 0, 0, 0, 0, 0, 0, 0, 0, 0, 0, 0, 0, 0, 0, 0, 0, 1, 1, 0, 0, 0, 0, 0, 0, 0, 0, 0, 0, 0, 0, 0, 0, 0, 0, 0, 0, 0, 0, 0, 1, 0, 0, 0, 0, 0, 0, 0, 0, 0, 0, 0, 0, 0, 0, 0, 0, 0, 0, 0, 0, 0, 0, 0, 0, 0, 0, 0, 0, 0, 0, 0, 0, 0, 0, 0, 0, 0, 0, 0, 0, 0, 0, 0, 0, 0, 0, 0, 0, 0, 0, 0, 0, 0, 0, 0, 0, 0, 0, 0]
def Rn : List ((Nat × Nat) × List (Nat × List Nat)) := [((8, 13), [(0, []), (1, []), (2, []), (3, []), (4, []), (5, []), (6, []), (7, []), (8, []), (9, []), (10, []), (11, []), (12, []), (13, []), (14, []), (15, []), (16, []), (17, []), (18, [])]),
 ((15, 9), [(0, []), (1, []), (2, []), (3, []), (4, []), (5, []), (6, []), (7, []), (8, []), (9, []), (10, []), (11, []), (12, [])]),
 ((15, 10), [(0, []), (1, []), (2, []), (3, []), (4, []), (5, []), (6, []), (7, []), (8, []), (9, []), (10, []), (11, []), (12, [])]),
 ((15, 13), [(0, []), (1, []), (2, []), (3, []), (4, []), (9, []), (5, [9]), (6, []), (7, []), (8, []), (10, []), (11, [])]),
 ((19, 9), [(0, []), (1, []), (2, []), (3, []), (4, [3]), (5, [3]), (6, [])]),
 ((21, 6), [(0, []), (1, []), (2, []), (3, []), (4, []), (5, []), (6, []), (7, []), (8, [])]),
 ((24, 5), [(0, []), (1, []), (2, []), (3, []), (4, []), (5, []), (6, []), (7, []), (8, []), (9, []), (10, []), (11, []), (12, []), (13, []), (14, []), (15, []), (16, []), (17, []), (18, []), (19, []), (20, [])]),
 ((26, 7), [(0, []), (1, []), (2, []), (3, []), (4, []), (5, []), (6, []), (7, [3]), (8, []), (9, [])]),
 ((26, 12), [(0, []), (1, []), (2, []), (3, []), (4, []), (5, []), (6, []), (7, []), (8, []), (9, []), (10, []), (11, []), (12, []), (13, [11]), (14, []), (15, []), (16, [])]),
 ((28, 8), [(0, []), (1, []), (2, []), (3, []), (4, []), (5, []), (6, []), (7, []), (8, []), (9, []), (10, []), (11, []), (12, []), (13, []), (14, []), (15, [])]),
 ((28, 11), [(0, []), (1, [0]), (2, [])]),
 ((28, 12), [(0, []), (1, []), (2, []), (3, []), (4, []), (5, [2, 4]), (6, []), (7, [])]),
 ((30, 1), [(0, []), (1, []), (3, []), (4, []), (6, []), (7, []), (2, [4, 7]), (5, [7]), (8, []), (9, []), (10, []), (11, []), (12, []), (13, []), (14, [])]),
 ((39, 1), [(0, []), (1, []), (2, []), (3, []), (4, []), (5, []), (6, []), (7, []), (8, []), (9, []), (10, []), (11, []), (12, [])]),
 ((40, 1), [(0, []), (1, []), (2, []), (3, []), (4, []), (5, []), (6, []), (7, []), (8, []), (9, []), (10, []), (11, [])]),
 ((41, 1), [(0, []), (1, []), (2, []), (3, []), (4, []), (5, []), (6, []), (7, []), (8, []), (9, []), (10, []), (11, []), (12, []), (13, []), (14, []), (15, []), (16, []), (17, []), (18, []), (19, []), (20, [])]),
 ((42, 3), [(0, []), (1, []), (2, []), (3, []), (4, []), (5, []), (6, []), (7, []), (8, []), (9, []), (10, []), (11, [])]),
 ((43, 1), [(0, []), (1, []), (2, []), (3, []), (4, []), (5, []), (6, []), (7, []), (8, []), (9, []), (10, []), (11, []), (12, [])]),
 ((47, 0), [(0, []), (1, []), (2, []), (3, []), (4, []), (5, [3]), (6, [3]), (7, [])]),
 ((59, 7), [(0, []), (1, []), (2, []), (3, []), (4, []), (5, []), (6, []), (7, []), (8, [])]),
 ((80, 4), [(0, []), (1, []), (2, []), (3, []), (4, []), (5, []), (6, []), (7, []), (8, []), (9, []), (10, [])]),
 ((80, 5), [(0, []), (1, []), (2, []), (3, []), (4, []), (5, []), (6, []), (7, []), (8, []), (9, []), (10, []), (11, []), (12, []), (13, []), (14, []), (15, []), (16, []), (17, []), (18, []), (19, [])]),
 ((109, 4), [(0, []), (1, []), (2, []), (3, []), (4, []), (5, []), (6, []), (7, []), (8, []), (9, []), (10, []), (11, []), (12, []), (13, [])]),
 ((109, 8), [(0, []), (1, []), (2, []), (3, []), (4, []), (5, []), (6, []), (7, []), (8, [])]),
 ((130, 19), [(0, []), (1, []), (2, []), (3, []), (4, []), (5, []), (6, []), (7, []), (8, []), (9, []), (10, []), (11, []), (12, []), (13, [3]), (14, []), (15, []), (16, [])]),
 ((138, 4), [(0, []), (1, []), (2, []), (3, []), (4, []), (5, []), (6, []), (7, []), (8, []), (9, [])]),
 ((180, 20), [(0, []), (1, []), (2, []), (3, []), (4, []), (5, []), (6, []), (7, []), (8, [])]),
 ((181, 6), [(0, []), (1, []), (2, []), (3, []), (4, []), (5, []), (6, []), (7, []), (8, []), (9, []), (10, []), (11, []), (12, [])]),
 ((181, 11), [(0, []), (1, []), (2, []), (3, []), (4, []), (5, []), (6, []), (7, []), (8, []), (9, []), (10, []), (11, []), (12, []), (13, []), (14, []), (15, []), (16, []), (17, []), (18, []), (19, []), (20, []), (21, [3]), (22, []), (23, []), (24, [])]),
 ((182, 5), [(0, []), (1, []), (2, []), (3, []), (4, []), (5, []), (6, []), (7, []), (8, []), (9, []), (10, []), (11, []), (12, [])]),
 ((183, 7), [(0, []), (1, []), (2, []), (3, []), (4, []), (5, []), (6, []), (7, []), (8, []), (9, []), (10, [])]),
 ((183, 9), [(0, []), (1, []), (2, []), (3, []), (4, []), (5, []), (6, []), (7, []), (8, []), (9, []), (10, []), (11, []), (12, [])]),
 ((247, 1), [(0, []), (1, []), (2, []), (3, []), (4, []), (5, []), (6, []), (7, []), (8, []), (9, []), (10, []), (11, []), (12, []), (13, []), (14, []), (15, [])]),
 ((248, 4), [(0, []), (1, []), (2, []), (3, []), (4, []), (5, []), (6, []), (7, [])]),
 ((264, 5), [(0, []), (1, []), (2, []), (3, []), (4, []), (5, []), (6, []), (7, []), (8, []), (9, []), (10, []), (11, []), (12, []), (13, []), (14, []), (15, []), (16, []), (17, []), (18, []), (19, []), (20, []), (21, []), (22, []), (23, [])]),
 ((289, 8), [(0, []), (1, []), (2, []), (3, []), (4, []), (5, []), (6, []), (7, []), (8, []), (9, []), (10, []), (11, []), (12, []), (13, []), (14, []), (15, []), (16, []), (17, []), (18, []), (19, []), (20, [])]),
 ((289, 11), [(0, []), (1, []), (2, []), (3, []), (4, []), (5, []), (6, []), (7, []), (8, []), (9, []), (10, []), (11, []), (12, []), (13, []), (14, []), (15, [])])]
def NO : List (Nat × List Bool) := [(6, [true, false, false]), (8, [true]), (12, [true]), (15, [false, true, false]), (19, [true, false]), (24, [true]), (29, [true]), (30, [true]), (31, [true, false]), (32, [true, false, false]), (35, [true]), (39, [true]), (40, [false, true]), (41, [false, true]), (42, [false, true]), (43, [false, true]), (45, [false, true]), (53, [true]), (57, [true]), (65, [true]), (68, [true, false]), (79, [true, true]), (84, [true]), (85, [true]), (98, [true, false]), (130, [false, true, false]), (141, [true, true]), (148, [true]), (161, [true, false]), (192, [true]), (247, [false, true, false]), (262, [true, false]), (289, [false, true, false]), (313, [true, true, false]), (314, [true, false])]
def Vb : List (Nat × List AA) := [(0, []),
 (5, [.int .u64 1, .int .u64 10, .int .u64 100, .int .u64 1000, .int .u64 10000, .int .u64 100000, .int .u64 1000000, .int .u64 10000000, .int .u64 100000000, .int .u64 1000000000, .int .u64 10000000000, .int .u64 100000000000, .int .u64 1000000000000, .int .u64 10000000000000, .int .u64 100000000000000, .int .u64 1000000000000000, .int .u64 10000000000000000, .int .u64 100000000000000000, .int .u64 1000000000000000000, .int .u64 10000000000000000000]),
 (6, [.int .u8 0, .int .u8 1, .int .u8 28, .int .u8 2, .int .u8 29, .int .u8 14, .int .u8 24, .int .u8 3, .int .u8 30, .int .u8 22, .int .u8 20, .int .u8 15, .int .u8 25, .int .u8 17, .int .u8 4, .int .u8 8, .int .u8 31, .int .u8 27, .int .u8 13, .int .u8 23, .int .u8 21, .int .u8 19, .int .u8 16, .int .u8 7, .int .u8 26, .int .u8 12, .int .u8 18, .int .u8 6, .int .u8 11, .int .u8 5, .int .u8 10, .int .u8 9]),
 (7, [.int .u8 0, .int .u8 1, .int .u8 56, .int .u8 2, .int .u8 57, .int .u8 49, .int .u8 28, .int .u8 3, .int .u8 61, .int .u8 58, .int .u8 42, .int .u8 50, .int .u8 38, .int .u8 29, .int .u8 17, .int .u8 4, .int .u8 62, .int .u8 47, .int .u8 59, .int .u8 36, .int .u8 45, .int .u8 43, .int .u8 51, .int .u8 22, .int .u8 53, .int .u8 39, .int .u8 33, .int .u8 30, .int .u8 24, .int .u8 18, .int .u8 12, .int .u8 5, .int .u8 63, .int .u8 55, .int .u8 48, .int .u8 27, .int .u8 60, .int .u8 41, .int .u8 37, .int .u8 16, .int .u8 46, .int .u8 35, .int .u8 44, .int .u8 21, .int .u8 52, .int .u8 32, .int .u8 23, .int .u8 11, .int .u8 54, .int .u8 26, .int .u8 40, .int .u8 15, .int .u8 34, .int .u8 20, .int .u8 31, .int .u8 10, .int .u8 25, .int .u8 14, .int .u8 19, .int .u8 9, .int .u8 13, .int .u8 8, .int .u8 7, .int .u8 6])]
def exts : List (Nat × Nat × Nat × Nat) := [(54, 2, 95, 9), (60, 32, 0, 0), (61, 8, 0, 0), (66, 6, 0, 31), (67, 6, 0, 135), (88, 6, 0, 90), (97, 10, 0, 0), (99, 6, 0, 9), (208, 1, 0, 0), (228, 9, 0, 0)]
def YI : XK := [LA.OC]
noncomputable def cfg : Hc := ⟨Go.Proofs.Tryz.prog, PD kinds, K7 Rn, Ni Go.Proofs.Tryz.prog YI exts, Ka Vb, TR Go.Proofs.Tryz.prog (K7 Rn), VX NO⟩
theorem Wa : Go.Proofs.Builder.Extra cfg.P Go.Proofs.Tryz.OW where
 sizeBuilder := by kernel_rfl
 liesBuilder := by kernel_rfl
 t5 := by kernel_rfl
 a5 := fun _ => by kernel_rfl
 z5 := fun _ => by kernel_rfl
 v5 := fun _ => by kernel_rfl
 infoByte := by kernel_rfl
 cellsByte := by kernel_rfl
 sizeByte := by kernel_rfl
 neB5 := by decide
theorem Q8 : ∀ p ∈ exts, GB cfg.P cfg.D4 p.1 (UC cfg.P YI p.2) := by
 intro p hp
 simp only [exts, List.mem_cons, List.not_mem_nil, or_false] at hp
 rcases hp with rfl | rfl | rfl | rfl | rfl | rfl | rfl | rfl | rfl | rfl
 ·exact T9 Go.Proofs.Tryz.VG Go.Proofs.Tryz.Xd Go.Proofs.Tryz.XH rfl rfl (by kernel_rfl) _
 ·exact UX LA.Sv (by kernel_rfl) (by kernel_rfl) LA.ZC
 ·exact Us Go.Proofs.Tryz.Wg (by kernel_rfl)
 ·exact Lr Go.Proofs.Tryz.Wb _
 ·exact Lr Go.Proofs.Tryz.WK _
 ·exact Lr Go.Proofs.Tryz.WM _
 ·exact WH Go.Proofs.Tryz.XR Wa _
 ·exact Lr Go.Proofs.Tryz.V7 _
 ·exact Uu _ (by kernel_rfl) (fun fn h => by
   obtain rfl := Option.some.inj (Go.Proofs.Tryz.func208.symm.trans h)
   exact ⟨by kernel_rfl, by kernel_rfl⟩)
 ·exact Vn Go.Proofs.Tryz.XV (by kernel_rfl)
theorem Sv : H9 cfg := P4 (ks := kinds) (l := exts) rfl (by kernel_rfl) (by kernel_rfl) rfl rfl (by kernel_rfl) Q8
structure Ar where
 DF : Int
 Bn : Int
def Pd (x : Ar) : List AA := [.int .i64 x.DF, .int .i64 x.Bn]
structure Ao where
 Key : List UInt8
 Value : List UInt8
def As (x : Ao) : List AA := [.str x.Key, .str x.Value]
theorem CN : Ln As 2 := ⟨fun _ => rfl, fun _ => rfl, fun _ => rfl⟩
structure AN where
 Name : List UInt8
 FE : List UInt8
 Kind : Int
 Mode : Int
 Tb : Int
 TQ : Int
 FF : List UInt8
 F3 : List UInt8
 JJ : Int
 JU : Int
 Time : Ar
 Extra : List Ao
 Data : List UInt8
def AD (x : AN) : List AA := [.str x.Name, .str x.FE, .int .u8 x.Kind, .int .i64 x.Mode, .int .i64 x.Tb, .int .i64 x.TQ, .str x.FF, .str x.F3, .int .i64 x.JJ, .int .i64 x.JU, .int .i64 x.Time.DF, .int .i64 x.Time.Bn, vs As x.Extra, .str x.Data]
theorem Bg : Ln AD 14 := ⟨fun _ => rfl, fun _ => rfl, fun _ => rfl⟩
structure AR where
 Text : List UInt8
 B2 : Bool
 Fold : Bool
 Aw : Bool
def AE (x : AR) : List AA := [.str x.Text, .bool x.B2, .bool x.Fold, .bool x.Aw]
theorem B4 : Ln AE 4 := ⟨fun _ => rfl, fun _ => rfl, fun _ => rfl⟩
structure Az where
 Re : List UInt8
 Rl : List UInt8
 Global : Bool
 Fold : Bool
 SK : Bool
 Number : Int
 Names : Bool
 Vp : Bool
 VZ : Bool
def AJ (x : Az) : List AA := [.str x.Re, .str x.Rl, .bool x.Global, .bool x.Fold, .bool x.SK, .int .i64 x.Number, .bool x.Names, .bool x.Vp, .bool x.VZ]
theorem EK : Ln AJ 9 := ⟨fun _ => rfl, fun _ => rfl, fun _ => rfl⟩
structure B1 where
 Ak : List AR
 Al : List AR
 Br : List Az
 I0 : Bool
 Be : Bool
 Bv : Int
 CR : Bool
 BK : Ar
 IH : Int
 CO : Int
 Name : Int
 Head : Int
 Bl : Int
def AS (x : B1) : List AA := [vs AE x.Ak, vs AE x.Al, vs AJ x.Br, .bool x.I0, .bool x.Be, .int .i64 x.Bv, .bool x.CR, .int .i64 x.BK.DF, .int .i64 x.BK.Bn, .int .i64 x.IH, .int .i64 x.CO, .int .i64 x.Name, .int .i64 x.Head, .int .i64 x.Bl]
structure E8 where
 c_ : B1
 BR : AR
 My : List UInt8
 at_ : Int
 B6 : List ((List UInt8) × Bool)
structure De where
 e_ : Int
 at_ : Int
structure BG where
 w0 : Int
 w1 : Int
 w2 : Int
 w3 : Int
def EI (x : BG) : List AA := [.int .u64 x.w0, .int .u64 x.w1, .int .u64 x.w2, .int .u64 x.w3]
structure AP where
 Kind : Int
 B : Int
 Set : BG
def AM (x : AP) : List AA := [.int .i64 x.Kind, .int .u8 x.B, .int .u64 x.Set.w0, .int .u64 x.Set.w1, .int .u64 x.Set.w2, .int .u64 x.Set.w3]
theorem Bk : Ln AM 6 := ⟨fun _ => rfl, fun _ => rfl, fun _ => rfl⟩
structure EA where
 Fold : Bool
 Aw : Bool
structure Ba where
 BP : (Nat → Int)
 An : Int
 BO : List Int
 A7 : List Bool
structure Bx where
 l_ : List AP
 f_ : EA
 EW : Int
 t_ : Ba
 DP : List UInt8
 B6 : List ((List UInt8) × Int)
 Bs : List (List UInt8)
structure Ah where
 r_ : AR
 t_ : Ba
def AB (x : Ah) : List AA := [.str x.r_.Text, .bool x.r_.B2, .bool x.r_.Fold, .bool x.r_.Aw, .A8 (Cj 256 (AA.int .u8) x.t_.BP ++ [.int .i64 x.t_.An, vs (eI .i32) x.t_.BO, vs eB x.t_.A7])]
structure N0 where
 Kind : Int
 A : Int
 B : Int
 Min : Int
 Max : Int
 Uk : Int
 Set : BG
def Pc (x : N0) : List AA := [.int .i64 x.Kind, .int .i64 x.A, .int .i64 x.B, .int .i64 x.Min, .int .i64 x.Max, .int .i64 x.Uk, .int .u64 x.Set.w0, .int .u64 x.Set.w1, .int .u64 x.Set.w2, .int .u64 x.Set.w3]
structure Ru where
 YQ : List N0
 Yg : Int
structure UU where
 Vx : (Nat → Int)
 Uh : Int
 BO : List Int
 A7 : List Bool
 X2 : List Bool
 W1 : Int
 XP : Int
 W7 : Bool
structure M0 where
 Kind : Int
 Uk : Int
 Bytes : List UInt8
def PH (x : M0) : List AA := [.int .i64 x.Kind, .int .i64 x.Uk, .str x.Bytes]
structure EM where
 x_ : Az
 t_ : Ru
 d_ : UU
 XL : List M0
def AL (x : EM) : List AA := [.str x.x_.Re, .str x.x_.Rl, .bool x.x_.Global, .bool x.x_.Fold, .bool x.x_.SK, .int .i64 x.x_.Number, .bool x.x_.Names, .bool x.x_.Vp, .bool x.x_.VZ, vs Pc x.t_.YQ, .int .i64 x.t_.Yg, .A8 (Cj 256 (AA.int .u8) x.d_.Vx ++ [.int .i64 x.d_.Uh, vs (eI .i32) x.d_.BO, vs eB x.d_.A7, vs eB x.d_.X2, .int .i32 x.d_.W1, .int .i32 x.d_.XP, .bool x.d_.W7]), vs PH x.XL]
structure CQ where
 l_ : List EM
 Bd : Int
structure Bt where
 n_ : Int
 An : Int
 BI : (Nat → Int)
structure Bw where
 c_ : B1
 AZ : List Ah
 Ac : List Ah
 Af : CQ
 Am : Bt
structure Fa where
 m_ : AN
 Vk : Int
 e_ : Int
def Ds (x : Fa) : List AA := [.str x.m_.Name, .str x.m_.FE, .int .u8 x.m_.Kind, .int .i64 x.m_.Mode, .int .i64 x.m_.Tb, .int .i64 x.m_.TQ, .str x.m_.FF, .str x.m_.F3, .int .i64 x.m_.JJ, .int .i64 x.m_.JU, .int .i64 x.m_.Time.DF, .int .i64 x.m_.Time.Bn, vs As x.m_.Extra, .str x.m_.Data, .int .i64 x.Vk, .int .i64 x.e_]
structure Ay where
 Cf : List ((List UInt8) × Bool)
abbrev JO (x : BG) (c1 : AA) : List AA := [.int .u64 x.w0, c1, .int .u64 x.w2, .int .u64 x.w3]
abbrev Dl (x : AN) (c0 : AA) : List AA := [c0, .str x.FE, .int .u8 x.Kind, .int .i64 x.Mode, .int .i64 x.Tb, .int .i64 x.TQ, .str x.FF, .str x.F3, .int .i64 x.JJ, .int .i64 x.JU, .int .i64 x.Time.DF, .int .i64 x.Time.Bn, vs As x.Extra, .str x.Data]
abbrev BN (x : AN) (c0 c1 : AA) : List AA := [c0, c1, .int .u8 x.Kind, .int .i64 x.Mode, .int .i64 x.Tb, .int .i64 x.TQ, .str x.FF, .str x.F3, .int .i64 x.JJ, .int .i64 x.JU, .int .i64 x.Time.DF, .int .i64 x.Time.Bn, vs As x.Extra, .str x.Data]
abbrev Jt (x : AR) (c0 : AA) : List AA := [c0, .bool x.B2, .bool x.Fold, .bool x.Aw]
end Go.Av.L
