/-
 The run: which functions are run how, and in which order regions that draw are run. Written by lift2.py.
-/
import Derived.Test.YthnnciphldbmeaaGreatDoorAvLib
import Derived.Test.YthnnciphldbmeaaGreatDoorAvYld
import Derived.Test.YthnnciphldbmeaaGreatDoorAvMap
import Derived.Test.YthnnciphldbmeaaGreatDoorAvBig
import Derived.Test.YthnnciphldbmeaaGreatDoorAvCo
import Derived.Test.YthnnciphldbmeaaGreatDoorAvHq
import Derived.Test.YthnnciphldbmeaaGreatDoorAvKm
import Derived.Test.YthnnciphldbmeaaGreatDoorAvFast
import Derived.Test.YthnnciphldbmeaaGreatDoorAvTold
import Derived.Test.YthnnciphldbmeaaGreatDoorKA
import Derived.Test.YthnnciphldbmeaaGreatDoorLay
import Derived.Test.YthnnciphldbmeaaGreatDoorProg
namespace Go.Av.L
open Go.Av Go.Lib
set_option linter.unusedSimpArgs false
set_option linter.unusedVariables false
def kinds : List Nat := [0, 0, 0, 0, 1, 0, 0, 1, 1, 0, 1, 0, 1, 1, 1, 7, 1, 1, 0, 0, 0, 0, 0, 0, 0, 0, 1, 0, 7, 1, 1, 1, 1, 1, 0, 1, 1, 1, 1, 1, 1, 1, 1, 1, 1, 7, 1, 1, 1, 0, 0, 0, 0, 0, 0, 0, 7, 1, 0, 0, 3, 3, 1, 1, 1, 1, 3, 3, 9, 0, 0, 0, 0, 0, 0, 0, 1, 1, 1, 1, 1, 1, 1, 1, 1, 1, 1, 1, 3, 0, 1, 1, 0, 0, 0, 0, 1, 3, 1, 3, 1, 0, 0, 0, 0, 0, 0, 0, 0, 1, 1, 0, 0, 0, 0, 0, 0, 0, 0, 0, 0, 0, 0, 1, 0, 0, 0, 0, 0, 1, 9, 0, 0, 0, 0, 0, 0, 0, 1, 1, 1, 1, 1, 1, 0, 0, 0, 1, 1, 1, 0, 1, 1, 1, 0, 0, 0, 1, 0, 0, 0, 1, 0, 1, 0, 0, 0, 0, 0, 0, 0, 0, 0, 0, 0, 1, 0, 0, 0, 0, 1, 1, 1, 1, 0, 0, 0, 0, 0, 0, 0, 0, 1, 0, 0, 0, 0, 0, 0, 1, 1, 1, 1, 1, 1, 0, 0, 0, 3, 0, 0, 0, 1, 0, 0, 1, 0, 0, 0, 0, 0, 0, 1, 0, 0, 0, 0, 1, 3, 0, 0, 0, 0, 0, 0, 0, 0, 0, 0, 0, 0, 0, 0, 0, 0, 0, 0, 1, 1, 0, 0, 0, 0, 0, 0, 0, 0, 0, 0, 0, 0, 0, 1, 1, 1, 1, 1, 0, 0, 0, 0, 0, 0, 0, 0, 0, 0, 0, 1, 0, 0, 0, 0, 0, 0, 0, 0, 0, 0, 1, 0, 0, 0, 0, 0, 0, 0, 0, 0, 0, 0, 0, 0, 0, 0, 0, 0, 0, 0, 0, 0, 0, 0, 1, 1, 0, 0, 0, 0, 0, 0, 0, 0, 0, 0, 0, 0, 0, 0, 0, 0, 0, 0, 0, 0, 0, 1, 0, 0, 0, 0, 0, 0, 0, 0, 0, 0, 0, 0, 0, 0, 0, 0, 0, 0, 0, 0, 0, 0, 0, 0, 0, 0, 0, 0, 0, 0, 0, 0, 0, 0, 0, 0, 0, 0, 0, 0, 0, 0, 0, 0, 0, 0, 0, 0, 0, 0, 0, 0, 0, 0, 0, 0, 0, 0, 0]
def RM : List ((Nat × Nat) × List (Nat × List Nat)) := [((4, 8), [(0, []), (1, []), (2, []), (9, []), (3, [1, 9]), (4, [9]), (5, []), (6, []), (7, []), (8, []), (10, []), (11, []), (12, [])]),
 ((8, 13), [(0, []), (1, []), (2, []), (3, []), (4, []), (5, []), (6, []), (7, []), (8, []), (9, []), (10, []), (11, []), (12, []), (13, []), (14, []), (15, []), (16, []), (17, []), (18, [])]),
 ((14, 1), [(0, []), (1, []), (3, []), (4, []), (2, [4]), (5, []), (6, []), (7, []), (8, []), (10, []), (11, []), (9, [11]), (12, []), (13, []), (14, []), (15, []), (16, []), (18, []), (19, []), (17, [19]), (20, []), (21, []), (22, []), (23, []), (24, []), (26, []), (27, []), (25, [27]), (28, []), (29, []), (30, []), (31, []), (32, []), (33, []), (34, [])]),
 ((14, 7), [(0, []), (1, []), (2, []), (3, []), (4, []), (5, []), (6, []), (7, []), (8, []), (9, []), (10, []), (11, []), (12, []), (13, []), (14, []), (15, []), (16, []), (17, []), (18, []), (19, []), (20, []), (21, []), (22, []), (23, []), (24, []), (25, []), (26, []), (27, []), (28, [])]),
 ((15, 9), [(0, []), (1, []), (2, []), (3, []), (4, []), (5, []), (6, []), (7, []), (8, []), (9, []), (10, []), (11, []), (12, [])]),
 ((15, 10), [(0, []), (1, []), (2, []), (3, []), (4, []), (5, []), (6, []), (7, []), (8, []), (9, []), (10, []), (11, []), (12, [])]),
 ((15, 13), [(0, []), (1, []), (2, []), (3, []), (4, []), (9, []), (5, [9]), (6, []), (7, []), (8, []), (10, []), (11, [])]),
 ((26, 7), [(0, []), (1, []), (2, []), (3, []), (4, []), (5, []), (6, []), (7, [3]), (8, []), (9, [])]),
 ((26, 12), [(0, []), (1, []), (2, []), (3, []), (4, []), (5, []), (6, []), (7, []), (8, []), (9, []), (10, []), (11, []), (12, []), (13, [11]), (14, []), (15, []), (16, [])]),
 ((28, 8), [(0, []), (1, []), (2, []), (3, []), (4, []), (5, []), (6, []), (7, []), (8, []), (9, []), (10, []), (11, []), (12, []), (13, []), (14, []), (15, [])]),
 ((28, 11), [(0, []), (1, [0]), (2, [])]),
 ((28, 12), [(0, []), (1, []), (2, []), (3, []), (4, []), (5, [2, 4]), (6, []), (7, [])]),
 ((30, 1), [(0, []), (1, []), (3, []), (4, []), (6, []), (7, []), (2, [4, 7]), (5, [7]), (8, []), (9, []), (10, []), (11, []), (12, []), (13, []), (14, [])]),
 ((39, 1), [(0, []), (1, []), (2, []), (3, []), (4, []), (5, []), (6, []), (7, []), (8, []), (9, []), (10, []), (11, []), (12, [])]),
 ((40, 1), [(0, []), (1, []), (2, []), (3, []), (4, []), (5, []), (6, []), (7, []), (8, []), (9, []), (10, []), (11, [])]),
 ((41, 1), [(0, []), (1, []), (2, []), (3, []), (4, []), (5, []), (6, []), (7, []), (8, []), (9, []), (10, []), (11, []), (12, []), (13, []), (14, []), (15, []), (16, []), (17, []), (18, []), (19, []), (20, [])]),
 ((42, 3), [(0, []), (1, []), (2, []), (3, []), (4, []), (5, []), (6, []), (7, []), (8, []), (9, []), (10, []), (11, [])]),
 ((43, 1), [(0, []), (1, []), (2, []), (3, []), (4, []), (5, []), (6, []), (7, []), (8, []), (9, []), (10, []), (11, []), (12, [])]),
 ((47, 0), [(0, []), (1, []), (2, []), (3, []), (4, []), (5, [3]), (6, [3]), (7, [])]),
 ((48, 6), [(0, []), (1, []), (2, []), (3, []), (4, []), (5, []), (6, []), (7, []), (8, [])]),
 ((80, 4), [(0, []), (1, []), (2, []), (3, []), (4, []), (5, []), (6, []), (7, []), (8, []), (9, []), (10, [])]),
 ((80, 5), [(0, []), (1, []), (2, []), (3, []), (4, []), (5, []), (6, []), (7, []), (8, []), (9, []), (10, []), (11, []), (12, []), (13, []), (14, []), (15, []), (16, []), (17, []), (18, []), (19, [])]),
 ((109, 4), [(0, []), (1, []), (2, []), (3, []), (4, []), (5, []), (6, []), (7, []), (8, []), (9, []), (10, []), (11, []), (12, []), (13, [])]),
 ((109, 8), [(0, []), (1, []), (2, []), (3, []), (4, []), (5, []), (6, []), (7, []), (8, [])]),
 ((130, 19), [(0, []), (1, []), (2, []), (3, []), (4, []), (5, []), (6, []), (7, []), (8, []), (9, []), (10, []), (11, []), (12, []), (13, [3]), (14, []), (15, []), (16, [])]),
 ((138, 4), [(0, []), (1, []), (2, []), (3, []), (4, []), (5, []), (6, []), (7, []), (8, []), (9, [])]),
 ((175, 4), [(0, []), (1, []), (2, []), (3, []), (4, []), (5, []), (6, []), (7, [])]),
 ((180, 20), [(0, []), (1, []), (2, []), (3, []), (4, []), (5, []), (6, []), (7, []), (8, [])]),
 ((181, 6), [(0, []), (1, []), (2, []), (3, []), (4, []), (5, []), (6, []), (7, []), (8, []), (9, []), (10, []), (11, []), (12, [])]),
 ((181, 11), [(0, []), (1, []), (2, []), (3, []), (4, []), (5, []), (6, []), (7, []), (8, []), (9, []), (10, []), (11, []), (12, []), (13, []), (14, []), (15, []), (16, []), (17, []), (18, []), (19, []), (20, []), (21, [3]), (22, []), (23, []), (24, [])]),
 ((182, 5), [(0, []), (1, []), (2, []), (3, []), (4, []), (5, []), (6, []), (7, []), (8, []), (9, []), (10, []), (11, []), (12, [])]),
 ((183, 7), [(0, []), (1, []), (2, []), (3, []), (4, []), (5, []), (6, []), (7, []), (8, []), (9, []), (10, [])]),
 ((183, 9), [(0, []), (1, []), (2, []), (3, []), (4, []), (5, []), (6, []), (7, []), (8, []), (9, []), (10, []), (11, []), (12, [])]),
 ((247, 1), [(0, []), (1, []), (2, []), (3, []), (4, []), (5, []), (6, []), (7, []), (8, []), (9, []), (10, []), (11, []), (12, []), (13, []), (14, []), (15, [])]),
 ((248, 4), [(0, []), (1, []), (2, []), (3, []), (4, []), (5, []), (6, []), (7, [])]),
 ((264, 5), [(0, []), (1, []), (2, []), (3, []), (4, []), (5, []), (6, []), (7, []), (8, []), (9, []), (10, []), (11, []), (12, []), (13, []), (14, []), (15, []), (16, []), (17, []), (18, []), (19, []), (20, []), (21, []), (22, []), (23, [])]),
 ((289, 8), [(0, []), (1, []), (2, []), (3, []), (4, []), (5, []), (6, []), (7, []), (8, []), (9, []), (10, []), (11, []), (12, []), (13, []), (14, []), (15, []), (16, []), (17, []), (18, []), (19, []), (20, [])]),
 ((289, 11), [(0, []), (1, []), (2, []), (3, []), (4, []), (5, []), (6, []), (7, []), (8, []), (9, []), (10, []), (11, []), (12, []), (13, []), (14, []), (15, [])])]
def Mv : List (Nat × List Bool) := [(4, [true, true]), (8, [true]), (12, [true]), (14, [true]), (15, [false, true, false]), (16, [true]), (17, [true, true]), (29, [true]), (30, [true]), (31, [true, false]), (32, [true, false, false]), (35, [true]), (37, [true]), (39, [true]), (40, [false, true]), (41, [false, true]), (42, [false, true]), (43, [false, true]), (45, [false, true]), (48, [true, true]), (57, [true]), (65, [true]), (68, [true, false]), (79, [true, true]), (84, [true]), (85, [true]), (98, [true, false]), (130, [false, true, false]), (141, [true, true]), (148, [true]), (161, [true, false]), (192, [true]), (247, [false, true, false]), (262, [true, false]), (289, [false, true, false]), (313, [true, true, false]), (314, [true, false])]
def TW : List (Nat × List AA) := [(0, []),
 (5, [.int .u64 1, .int .u64 10, .int .u64 100, .int .u64 1000, .int .u64 10000, .int .u64 100000, .int .u64 1000000, .int .u64 10000000, .int .u64 100000000, .int .u64 1000000000, .int .u64 10000000000, .int .u64 100000000000, .int .u64 1000000000000, .int .u64 10000000000000, .int .u64 100000000000000, .int .u64 1000000000000000, .int .u64 10000000000000000, .int .u64 100000000000000000, .int .u64 1000000000000000000, .int .u64 10000000000000000000]),
 (6, [.int .u8 0, .int .u8 1, .int .u8 28, .int .u8 2, .int .u8 29, .int .u8 14, .int .u8 24, .int .u8 3, .int .u8 30, .int .u8 22, .int .u8 20, .int .u8 15, .int .u8 25, .int .u8 17, .int .u8 4, .int .u8 8, .int .u8 31, .int .u8 27, .int .u8 13, .int .u8 23, .int .u8 21, .int .u8 19, .int .u8 16, .int .u8 7, .int .u8 26, .int .u8 12, .int .u8 18, .int .u8 6, .int .u8 11, .int .u8 5, .int .u8 10, .int .u8 9]),
 (7, [.int .u8 0, .int .u8 1, .int .u8 56, .int .u8 2, .int .u8 57, .int .u8 49, .int .u8 28, .int .u8 3, .int .u8 61, .int .u8 58, .int .u8 42, .int .u8 50, .int .u8 38, .int .u8 29, .int .u8 17, .int .u8 4, .int .u8 62, .int .u8 47, .int .u8 59, .int .u8 36, .int .u8 45, .int .u8 43, .int .u8 51, .int .u8 22, .int .u8 53, .int .u8 39, .int .u8 33, .int .u8 30, .int .u8 24, .int .u8 18, .int .u8 12, .int .u8 5, .int .u8 63, .int .u8 55, .int .u8 48, .int .u8 27, .int .u8 60, .int .u8 41, .int .u8 37, .int .u8 16, .int .u8 46, .int .u8 35, .int .u8 44, .int .u8 21, .int .u8 52, .int .u8 32, .int .u8 23, .int .u8 11, .int .u8 54, .int .u8 26, .int .u8 40, .int .u8 15, .int .u8 34, .int .u8 20, .int .u8 31, .int .u8 10, .int .u8 25, .int .u8 14, .int .u8 19, .int .u8 9, .int .u8 13, .int .u8 8, .int .u8 7, .int .u8 6])]
def exts : List (Nat × Nat × Nat × Nat) := [(60, 32, 0, 0), (61, 8, 0, 0), (66, 6, 0, 31), (67, 6, 0, 135), (88, 6, 0, 90), (97, 10, 0, 0), (99, 6, 0, 9), (208, 1, 0, 0), (228, 9, 0, 0)]
def Wb : Vk := [LA.NJ]
noncomputable def cfg : HU := { P := Go.Proofs.Tryz.prog, kind := Ng kinds, Kb := KW RM, ext := NK Go.Proofs.Tryz.prog Wb exts, Dw := KE TW, UC := SS Go.Proofs.Tryz.prog (KW RM), still := Ub Mv }
theorem Uo : Go.Proofs.Builder.Extra cfg.P Go.Proofs.Tryz.Nx where
 sizeBuilder := by kernel_rfl
 liesBuilder := by kernel_rfl
 t5 := by kernel_rfl
 a5 := fun _ => by kernel_rfl
 z5 := fun _ => by kernel_rfl
 v5 := fun _ => by kernel_rfl
 infoByte := by kernel_rfl
 cellsByte := by kernel_rfl
 sizeByte := by kernel_rfl
 neB5 := by decide
theorem P7 : ∀ p ∈ exts, Gh cfg.P cfg.Dw p.1 (TN cfg.P Wb p.2) := by
 intro p hp
 simp only [exts, List.mem_cons, List.not_mem_nil, or_false] at hp
 rcases hp with rfl | rfl | rfl | rfl | rfl | rfl | rfl | rfl | rfl
 ·exact TQ LA.R1 (by kernel_rfl) (by kernel_rfl) LA.YF
 ·exact UW Go.Proofs.Tryz.Vd (by kernel_rfl)
 ·exact LI Go.Proofs.Tryz.VP _
 ·exact LI Go.Proofs.Tryz.U1 _
 ·exact LI Go.Proofs.Tryz.U0 _
 ·exact Uz Go.Proofs.Tryz.V9 Uo _
 ·exact LI Go.Proofs.Tryz.VF _
 ·exact Tl _ (by kernel_rfl) (fun fn h => by
   obtain rfl := Option.some.inj (Go.Proofs.Tryz.func208.symm.trans h)
   exact ⟨by kernel_rfl, by kernel_rfl⟩)
 ·exact Tq Go.Proofs.Tryz.V7 (by kernel_rfl)
theorem R1 : ID cfg := Pg (ks := kinds) (l := exts) rfl (by kernel_rfl) (by kernel_rfl) rfl rfl (by kernel_rfl) P7
structure Aw where
 DF : Int
 Bp : Int
def Oq (x : Aw) : List AA := [.int .i64 x.DF, .int .i64 x.Bp]
structure Am where
 Key : List UInt8
 Value : List UInt8
def Af (x : Am) : List AA := [.str x.Key, .str x.Value]
theorem Bt : LM Af 2 := ⟨fun _ => rfl, fun _ => rfl, fun _ => rfl⟩
structure AV where
 Name : List UInt8
 Bf : List UInt8
 Kind : Int
 Mode : Int
 Dm : Int
 Eb : Int
 CB : List UInt8
 Ca : List UInt8
 CY : Int
 EX : Int
 Time : Aw
 Extra : List Am
 Data : List UInt8
def AD (x : AV) : List AA := [.str x.Name, .str x.Bf, .int .u8 x.Kind, .int .i64 x.Mode, .int .i64 x.Dm, .int .i64 x.Eb, .str x.CB, .str x.Ca, .int .i64 x.CY, .int .i64 x.EX, .int .i64 x.Time.DF, .int .i64 x.Time.Bp, vs Af x.Extra, .str x.Data]
structure AP where
 Text : List UInt8
 Bh : Bool
 Fold : Bool
 Ax : Bool
def AE (x : AP) : List AA := [.str x.Text, .bool x.Bh, .bool x.Fold, .bool x.Ax]
theorem B9 : LM AE 4 := ⟨fun _ => rfl, fun _ => rfl, fun _ => rfl⟩
structure A0 where
 Re : List UInt8
 RD : List UInt8
 Global : Bool
 Fold : Bool
 Ql : Bool
 Number : Int
 Names : Bool
 UD : Bool
 UF : Bool
def AJ (x : A0) : List AA := [.str x.Re, .str x.RD, .bool x.Global, .bool x.Fold, .bool x.Ql, .int .i64 x.Number, .bool x.Names, .bool x.UD, .bool x.UF]
theorem EK : LM AJ 9 := ⟨fun _ => rfl, fun _ => rfl, fun _ => rfl⟩
structure Bb where
 Ah : List AP
 Aj : List AP
 Bl : List A0
 Ho : Bool
 BP : Bool
 Bm : Int
 CC : Bool
 BD : Aw
 HG : Int
 B3 : Int
 Name : Int
 Head : Int
 Bd : Int
def Ao (x : Bb) : List AA := [vs AE x.Ah, vs AE x.Aj, vs AJ x.Bl, .bool x.Ho, .bool x.BP, .int .i64 x.Bm, .bool x.CC, .int .i64 x.BD.DF, .int .i64 x.BD.Bp, .int .i64 x.HG, .int .i64 x.B3, .int .i64 x.Name, .int .i64 x.Head, .int .i64 x.Bd]
structure Bx where
 c_ : Bb
 Ar : AP
 GK : List UInt8
 at_ : Int
 Bk : List ((List UInt8) × Bool)
structure Cb where
 e_ : Int
 at_ : Int
structure BG where
 w0 : Int
 w1 : Int
 w2 : Int
 w3 : Int
def EG (x : BG) : List AA := [.int .u64 x.w0, .int .u64 x.w1, .int .u64 x.w2, .int .u64 x.w3]
structure AO where
 Kind : Int
 B : Int
 Set : BG
def AM (x : AO) : List AA := [.int .i64 x.Kind, .int .u8 x.B, .int .u64 x.Set.w0, .int .u64 x.Set.w1, .int .u64 x.Set.w2, .int .u64 x.Set.w3]
theorem Br : LM AM 6 := ⟨fun _ => rfl, fun _ => rfl, fun _ => rfl⟩
structure EB where
 Fold : Bool
 Ax : Bool
structure BX where
 BO : (Nat → Int)
 Aq : Int
 BN : List Int
 A8 : List Bool
structure Bz where
 l_ : List AO
 f_ : EB
 ET : Int
 t_ : BX
 DP : List UInt8
 Bk : List ((List UInt8) × Int)
 By : List (List UInt8)
structure Ag where
 r_ : AP
 t_ : BX
def AB (x : Ag) : List AA := [.str x.r_.Text, .bool x.r_.Bh, .bool x.r_.Fold, .bool x.r_.Ax, .A7 (Cl 256 (AA.int .u8) x.t_.BO ++ [.int .i64 x.t_.Aq, vs (eI .i32) x.t_.BN, vs eB x.t_.A8])]
structure NF where
 Kind : Int
 A : Int
 B : Int
 Min : Int
 Max : Int
 UA : Int
 Set : BG
def O1 (x : NF) : List AA := [.int .i64 x.Kind, .int .i64 x.A, .int .i64 x.B, .int .i64 x.Min, .int .i64 x.Max, .int .i64 x.UA, .int .u64 x.Set.w0, .int .u64 x.Set.w1, .int .u64 x.Set.w2, .int .u64 x.Set.w3]
structure Qb where
 Wd : List NF
 XW : Int
structure TA where
 Ur : (Nat → Int)
 Tm : Int
 BN : List Int
 A8 : List Bool
 Wa : List Bool
 Vn : Int
 WT : Int
 WM : Bool
structure MQ where
 Kind : Int
 UA : Int
 Bytes : List UInt8
def Nz (x : MQ) : List AA := [.int .i64 x.Kind, .int .i64 x.UA, .str x.Bytes]
structure EJ where
 x_ : A0
 t_ : Qb
 d_ : TA
 WO : List MQ
def AK (x : EJ) : List AA := [.str x.x_.Re, .str x.x_.RD, .bool x.x_.Global, .bool x.x_.Fold, .bool x.x_.Ql, .int .i64 x.x_.Number, .bool x.x_.Names, .bool x.x_.UD, .bool x.x_.UF, vs O1 x.t_.Wd, .int .i64 x.t_.XW, .A7 (Cl 256 (AA.int .u8) x.d_.Ur ++ [.int .i64 x.d_.Tm, vs (eI .i32) x.d_.BN, vs eB x.d_.A8, vs eB x.d_.Wa, .int .i32 x.d_.Vn, .int .i32 x.d_.WT, .bool x.d_.WM]), vs Nz x.WO]
structure CQ where
 l_ : List EJ
 Ba : Int
structure CF where
 n_ : Int
 Aq : Int
 BJ : (Nat → Int)
structure Bg where
 c_ : Bb
 AZ : List Ag
 Ac : List Ag
 Ad : CQ
 Ap : CF
structure Bw where
 DT : List ((List UInt8) × Bool)
abbrev I4 (x : BG) (c1 : AA) : List AA := [.int .u64 x.w0, c1, .int .u64 x.w2, .int .u64 x.w3]
abbrev Cw (x : AV) (c0 : AA) : List AA := [c0, .str x.Bf, .int .u8 x.Kind, .int .i64 x.Mode, .int .i64 x.Dm, .int .i64 x.Eb, .str x.CB, .str x.Ca, .int .i64 x.CY, .int .i64 x.EX, .int .i64 x.Time.DF, .int .i64 x.Time.Bp, vs Af x.Extra, .str x.Data]
abbrev A9 (x : AV) (c0 c1 : AA) : List AA := [c0, c1, .int .u8 x.Kind, .int .i64 x.Mode, .int .i64 x.Dm, .int .i64 x.Eb, .str x.CB, .str x.Ca, .int .i64 x.CY, .int .i64 x.EX, .int .i64 x.Time.DF, .int .i64 x.Time.Bp, vs Af x.Extra, .str x.Data]
abbrev Jp (x : AP) (c0 : AA) : List AA := [c0, .bool x.Bh, .bool x.Fold, .bool x.Ax]
end Go.Av.L
