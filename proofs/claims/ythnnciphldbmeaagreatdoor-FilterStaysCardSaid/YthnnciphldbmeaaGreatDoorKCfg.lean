/-
 The run: which functions are run how, and in which order regions that draw are run. Written by lift2.py.
-/
import Derived.Test.YthnnciphldbmeaaGreatDoorAvLib
import Derived.Test.YthnnciphldbmeaaGreatDoorAvYld
import Derived.Test.YthnnciphldbmeaaGreatDoorAvMap
import Derived.Test.YthnnciphldbmeaaGreatDoorAvBig
import Derived.Test.YthnnciphldbmeaaGreatDoorAvCo
import Derived.Test.YthnnciphldbmeaaGreatDoorAvHq
import Derived.Test.YthnnciphldbmeaaGreatDoorAvKm
import Derived.Test.YthnnciphldbmeaaGreatDoorAvFast
import Derived.Test.YthnnciphldbmeaaGreatDoorAvTold
import Derived.Test.YthnnciphldbmeaaGreatDoorKA
import Derived.Test.YthnnciphldbmeaaGreatDoorLay
import Derived.Test.YthnnciphldbmeaaGreatDoorProg
namespace Go.Av.L
open Go.Av Go.Lib
set_option linter.unusedSimpArgs false
set_option linter.unusedVariables false
def kinds : List Nat := [0, 0, 0, 0, 0, 1, 0, 0, 1, 0, 1, 0, 1, 1, 1, 7, 0, 1, 1, 1, 1, 1, 1, 1, 0, 0, 1, 0, 7, 1, 1, 1, 1, 1, 0, 1, 1, 1, 1, 1, 1, 1, 1, 1, 1, 7, 1, 1, 1, 1, 1, 0, 0, 0, 0, 0, 7, 1, 0, 0, 3, 3, 1, 1, 1, 1, 3, 3, 9, 0, 0, 0, 0, 0, 0, 0, 1, 1, 1, 1, 1, 1, 1, 1, 1, 1, 1, 1, 3, 1, 1, 1, 1, 0, 0, 0, 1, 3, 1, 3, 1, 0, 0, 0, 0, 0, 0, 0, 0, 1, 1, 0, 0, 0, 0, 0, 0, 0, 0, 0, 0, 0, 0, 0, 0, 0, 0, 0, 0, 1, 9, 0, 0, 0, 0, 0, 0, 0, 1, 1, 1, 1, 1, 1, 0, 0, 0, 1, 1, 1, 0, 1, 1, 1, 0, 0, 0, 1, 0, 0, 0, 1, 0, 0, 0, 0, 0, 0, 0, 0, 0, 0, 0, 0, 0, 0, 0, 0, 0, 0, 1, 1, 1, 1, 0, 0, 0, 0, 0, 0, 0, 0, 1, 0, 0, 0, 0, 0, 0, 1, 1, 1, 1, 1, 1, 0, 0, 0, 3, 0, 0, 0, 1, 0, 0, 1, 0, 0, 0, 0, 0, 0, 1, 0, 0, 0, 0, 1, 3, 0, 0, 0, 0, 0, 0, 0, 0, 0, 0, 0, 0, 0, 0, 0, 0, 0, 0, 1, 1, 0, 0, 0, 0, 0, 0, 0, 0, 0, 0, 0, 0, 0, 1, 1, 1, 1, 1, 0, 0, 0, 0, 0, 0, 0, 0, 0, 0, 0, 1, 0, 0, 0, 0, 0, 0, 0, 0, 0, 0, 1, 0, 0, 0, 0, 0, 0, 0, 0, 0, 0, 0, 0, 0, 0, 0, 0, 0, 0, 0, 0, 0, 0, 0, 1, 1, 0, 0, 0, 0, 0, 0, 0, 0, 0, 0, 0, 0, 0, 0, 0, 0, 0, 0, 0, 0, 0, 1, 0, 0, 0, 0, 0, 0, 0, 0, 0, 0, 0, 0, 0, 0, 0, 0, 0, 0, 0, 0, 0, 0, 0, 0, 0, 0, 0, 0, 0, 0, 0, 0, 0, 0, 0, 0, 0, 0, 0, 0, 0, 0, 0, 0, 0, 0, 0, 0, 0, 0, 0, 0, 0, 0, 0, 0, 0, 0, 0]
def RW : List ((Nat × Nat) × List (Nat × List Nat)) := [((8, 13), [(0, []), (1, []), (2, []), (3, []), (4, []), (5, []), (6, []), (7, []), (8, []), (9, []), (10, []), (11, []), (12, []), (13, []), (14, []), (15, []), (16, []), (17, []), (18, [])]),
 ((14, 1), [(0, []), (1, []), (3, []), (4, []), (2, [4]), (5, []), (6, []), (7, []), (8, []), (10, []), (11, []), (9, [11]), (12, []), (13, []), (14, []), (15, []), (16, []), (18, []), (19, []), (17, [19]), (20, []), (21, []), (22, []), (23, []), (24, []), (26, []), (27, []), (25, [27]), (28, []), (29, []), (30, []), (31, []), (32, []), (33, []), (34, [])]),
 ((14, 7), [(0, []), (1, []), (2, []), (3, []), (4, []), (5, []), (6, []), (7, []), (8, []), (9, []), (10, []), (11, []), (12, []), (13, []), (14, []), (15, []), (16, []), (17, []), (18, []), (19, []), (20, []), (21, []), (22, []), (23, []), (24, []), (25, []), (26, []), (27, []), (28, [])]),
 ((15, 9), [(0, []), (1, []), (2, []), (3, []), (4, []), (5, []), (6, []), (7, []), (8, []), (9, []), (10, []), (11, []), (12, [])]),
 ((15, 10), [(0, []), (1, []), (2, []), (3, []), (4, []), (5, []), (6, []), (7, []), (8, []), (9, []), (10, []), (11, []), (12, [])]),
 ((15, 13), [(0, []), (1, []), (2, []), (3, []), (4, []), (9, []), (5, [9]), (6, []), (7, []), (8, []), (10, []), (11, [])]),
 ((19, 9), [(0, []), (1, []), (2, []), (3, []), (4, [3]), (5, [3]), (6, [])]),
 ((20, 6), [(0, []), (1, []), (2, []), (3, []), (4, []), (5, []), (6, []), (7, []), (8, []), (9, [])]),
 ((21, 6), [(0, []), (1, []), (2, []), (3, []), (4, []), (5, []), (6, []), (7, []), (8, [])]),
 ((26, 7), [(0, []), (1, []), (2, []), (3, []), (4, []), (5, []), (6, []), (7, [3]), (8, []), (9, [])]),
 ((26, 12), [(0, []), (1, []), (2, []), (3, []), (4, []), (5, []), (6, []), (7, []), (8, []), (9, []), (10, []), (11, []), (12, []), (13, [11]), (14, []), (15, []), (16, [])]),
 ((28, 8), [(0, []), (1, []), (2, []), (3, []), (4, []), (5, []), (6, []), (7, []), (8, []), (9, []), (10, []), (11, []), (12, []), (13, []), (14, []), (15, [])]),
 ((28, 11), [(0, []), (1, [0]), (2, [])]),
 ((28, 12), [(0, []), (1, []), (2, []), (3, []), (4, []), (5, [2, 4]), (6, []), (7, [])]),
 ((30, 1), [(0, []), (1, []), (3, []), (4, []), (6, []), (7, []), (2, [4, 7]), (5, [7]), (8, []), (9, []), (10, []), (11, []), (12, []), (13, []), (14, [])]),
 ((39, 1), [(0, []), (1, []), (2, []), (3, []), (4, []), (5, []), (6, []), (7, []), (8, []), (9, []), (10, []), (11, []), (12, [])]),
 ((40, 1), [(0, []), (1, []), (2, []), (3, []), (4, []), (5, []), (6, []), (7, []), (8, []), (9, []), (10, []), (11, [])]),
 ((41, 1), [(0, []), (1, []), (2, []), (3, []), (4, []), (5, []), (6, []), (7, []), (8, []), (9, []), (10, []), (11, []), (12, []), (13, []), (14, []), (15, []), (16, []), (17, []), (18, []), (19, []), (20, [])]),
 ((42, 3), [(0, []), (1, []), (2, []), (3, []), (4, []), (5, []), (6, []), (7, []), (8, []), (9, []), (10, []), (11, [])]),
 ((43, 1), [(0, []), (1, []), (2, []), (3, []), (4, []), (5, []), (6, []), (7, []), (8, []), (9, []), (10, []), (11, []), (12, [])]),
 ((47, 0), [(0, []), (1, []), (2, []), (3, []), (4, []), (5, [3]), (6, [3]), (7, [])]),
 ((48, 6), [(0, []), (1, []), (2, []), (3, []), (4, []), (5, []), (6, []), (7, []), (8, [])]),
 ((80, 4), [(0, []), (1, []), (2, []), (3, []), (4, []), (5, []), (6, []), (7, []), (8, []), (9, []), (10, [])]),
 ((80, 5), [(0, []), (1, []), (2, []), (3, []), (4, []), (5, []), (6, []), (7, []), (8, []), (9, []), (10, []), (11, []), (12, []), (13, []), (14, []), (15, []), (16, []), (17, []), (18, []), (19, [])]),
 ((109, 4), [(0, []), (1, []), (2, []), (3, []), (4, []), (5, []), (6, []), (7, []), (8, []), (9, []), (10, []), (11, []), (12, []), (13, [])]),
 ((109, 8), [(0, []), (1, []), (2, []), (3, []), (4, []), (5, []), (6, []), (7, []), (8, [])]),
 ((130, 19), [(0, []), (1, []), (2, []), (3, []), (4, []), (5, []), (6, []), (7, []), (8, []), (9, []), (10, []), (11, []), (12, []), (13, [3]), (14, []), (15, []), (16, [])]),
 ((138, 4), [(0, []), (1, []), (2, []), (3, []), (4, []), (5, []), (6, []), (7, []), (8, []), (9, [])]),
 ((180, 20), [(0, []), (1, []), (2, []), (3, []), (4, []), (5, []), (6, []), (7, []), (8, [])]),
 ((181, 6), [(0, []), (1, []), (2, []), (3, []), (4, []), (5, []), (6, []), (7, []), (8, []), (9, []), (10, []), (11, []), (12, [])]),
 ((181, 11), [(0, []), (1, []), (2, []), (3, []), (4, []), (5, []), (6, []), (7, []), (8, []), (9, []), (10, []), (11, []), (12, []), (13, []), (14, []), (15, []), (16, []), (17, []), (18, []), (19, []), (20, []), (21, [3]), (22, []), (23, []), (24, [])]),
 ((182, 5), [(0, []), (1, []), (2, []), (3, []), (4, []), (5, []), (6, []), (7, []), (8, []), (9, []), (10, []), (11, []), (12, [])]),
 ((183, 7), [(0, []), (1, []), (2, []), (3, []), (4, []), (5, []), (6, []), (7, []), (8, []), (9, []), (10, [])]),
 ((183, 9), [(0, []), (1, []), (2, []), (3, []), (4, []), (5, []), (6, []), (7, []), (8, []), (9, []), (10, []), (11, []), (12, [])]),
 ((247, 1), [(0, []), (1, []), (2, []), (3, []), (4, []), (5, []), (6, []), (7, []), (8, []), (9, []), (10, []), (11, []), (12, []), (13, []), (14, []), (15, [])]),
 ((248, 4), [(0, []), (1, []), (2, []), (3, []), (4, []), (5, []), (6, []), (7, [])]),
 ((264, 5), [(0, []), (1, []), (2, []), (3, []), (4, []), (5, []), (6, []), (7, []), (8, []), (9, []), (10, []), (11, []), (12, []), (13, []), (14, []), (15, []), (16, []), (17, []), (18, []), (19, []), (20, []), (21, []), (22, []), (23, [])]),
 ((289, 8), [(0, []), (1, []), (2, []), (3, []), (4, []), (5, []), (6, []), (7, []), (8, []), (9, []), (10, []), (11, []), (12, []), (13, []), (14, []), (15, []), (16, []), (17, []), (18, []), (19, []), (20, [])]),
 ((289, 11), [(0, []), (1, []), (2, []), (3, []), (4, []), (5, []), (6, []), (7, []), (8, []), (9, []), (10, []), (11, []), (12, []), (13, []), (14, []), (15, [])])]
def NA : List (Nat × List Bool) := [(5, [true]), (8, [true]), (12, [true]), (14, [true]), (15, [false, true, false]), (17, [true, true]), (19, [true, false]), (20, [false, true]), (29, [true]), (30, [true]), (31, [true, false]), (32, [true, false, false]), (35, [true]), (37, [true]), (39, [true]), (40, [false, true]), (41, [false, true]), (42, [false, true]), (43, [false, true]), (45, [false, true]), (48, [true, true]), (57, [true]), (65, [true]), (68, [true, false]), (79, [true, true]), (84, [true]), (85, [true]), (98, [true, false]), (130, [false, true, false]), (141, [true, true]), (148, [true]), (161, [true, false]), (192, [true]), (247, [false, true, false]), (262, [true, false]), (289, [false, true, false]), (313, [true, true, false]), (314, [true, false])]
def UM : List (Nat × List AD) := [(0, []),
 (5, [.int .u64 1, .int .u64 10, .int .u64 100, .int .u64 1000, .int .u64 10000, .int .u64 100000, .int .u64 1000000, .int .u64 10000000, .int .u64 100000000, .int .u64 1000000000, .int .u64 10000000000, .int .u64 100000000000, .int .u64 1000000000000, .int .u64 10000000000000, .int .u64 100000000000000, .int .u64 1000000000000000, .int .u64 10000000000000000, .int .u64 100000000000000000, .int .u64 1000000000000000000, .int .u64 10000000000000000000]),
 (6, [.int .u8 0, .int .u8 1, .int .u8 28, .int .u8 2, .int .u8 29, .int .u8 14, .int .u8 24, .int .u8 3, .int .u8 30, .int .u8 22, .int .u8 20, .int .u8 15, .int .u8 25, .int .u8 17, .int .u8 4, .int .u8 8, .int .u8 31, .int .u8 27, .int .u8 13, .int .u8 23, .int .u8 21, .int .u8 19, .int .u8 16, .int .u8 7, .int .u8 26, .int .u8 12, .int .u8 18, .int .u8 6, .int .u8 11, .int .u8 5, .int .u8 10, .int .u8 9]),
 (7, [.int .u8 0, .int .u8 1, .int .u8 56, .int .u8 2, .int .u8 57, .int .u8 49, .int .u8 28, .int .u8 3, .int .u8 61, .int .u8 58, .int .u8 42, .int .u8 50, .int .u8 38, .int .u8 29, .int .u8 17, .int .u8 4, .int .u8 62, .int .u8 47, .int .u8 59, .int .u8 36, .int .u8 45, .int .u8 43, .int .u8 51, .int .u8 22, .int .u8 53, .int .u8 39, .int .u8 33, .int .u8 30, .int .u8 24, .int .u8 18, .int .u8 12, .int .u8 5, .int .u8 63, .int .u8 55, .int .u8 48, .int .u8 27, .int .u8 60, .int .u8 41, .int .u8 37, .int .u8 16, .int .u8 46, .int .u8 35, .int .u8 44, .int .u8 21, .int .u8 52, .int .u8 32, .int .u8 23, .int .u8 11, .int .u8 54, .int .u8 26, .int .u8 40, .int .u8 15, .int .u8 34, .int .u8 20, .int .u8 31, .int .u8 10, .int .u8 25, .int .u8 14, .int .u8 19, .int .u8 9, .int .u8 13, .int .u8 8, .int .u8 7, .int .u8 6])]
def exts : List (Nat × Nat × Nat × Nat) := [(60, 32, 0, 0), (61, 8, 0, 0), (66, 6, 0, 31), (67, 6, 0, 135), (88, 6, 0, 90), (97, 10, 0, 0), (99, 6, 0, 9), (208, 1, 0, 0), (228, 9, 0, 0)]
def Xh : XD := [LA.N3]
noncomputable def cfg : Hj := ⟨Go.Proofs.Tryz.prog, O5 kinds, Ku RW, N2 Go.Proofs.Tryz.prog Xh exts, Kc UM, TW Go.Proofs.Tryz.prog (Ku RW), VG NA⟩
theorem V7 : Go.Proofs.Builder.Extra cfg.P Go.Proofs.Tryz.OK where
 sizeBuilder := by kernel_rfl
 liesBuilder := by kernel_rfl
 t5 := by kernel_rfl
 a5 := fun _ => by kernel_rfl
 z5 := fun _ => by kernel_rfl
 v5 := fun _ => by kernel_rfl
 infoByte := by kernel_rfl
 cellsByte := by kernel_rfl
 sizeByte := by kernel_rfl
 neB5 := by decide
theorem Qp : ∀ p ∈ exts, Gw cfg.P cfg.EN p.1 (Th cfg.P Xh p.2) := by
 intro p hp
 simp only [exts, List.mem_cons, List.not_mem_nil, or_false] at hp
 rcases hp with rfl | rfl | rfl | rfl | rfl | rfl | rfl | rfl | rfl
 ·exact Tm LA.Sr (by kernel_rfl) (by kernel_rfl) LA.Yv
 ·exact Ux Go.Proofs.Tryz.WX (by kernel_rfl)
 ·exact Lf Go.Proofs.Tryz.V3 _
 ·exact Lf Go.Proofs.Tryz.Vj _
 ·exact Lf Go.Proofs.Tryz.Vw _
 ·exact Vk Go.Proofs.Tryz.Wy V7 _
 ·exact Lf Go.Proofs.Tryz.V1 _
 ·exact Ub _ (by kernel_rfl) (fun fn h => by
   obtain rfl := Option.some.inj (Go.Proofs.Tryz.func208.symm.trans h)
   exact ⟨by kernel_rfl, by kernel_rfl⟩)
 ·exact VT Go.Proofs.Tryz.W1 (by kernel_rfl)
theorem Sr : ID cfg := P8 (ks := kinds) (l := exts) rfl (by kernel_rfl) (by kernel_rfl) rfl rfl (by kernel_rfl) Qp
structure Ar where
 Cf : Int
 Bb : Int
def Pm (x : Ar) : List AD := [.int .i64 x.Cf, .int .i64 x.Bb]
structure Am where
 Key : List UInt8
 Value : List UInt8
def Ad (x : Am) : List AD := [.str x.Key, .str x.Value]
theorem Bx : Lg Ad 2 := ⟨fun _ => rfl, fun _ => rfl, fun _ => rfl⟩
structure AK where
 Name : List UInt8
 Be : List UInt8
 Kind : Int
 Mode : Int
 De : Int
 ET : Int
 B1 : List UInt8
 CI : List UInt8
 CG : Int
 Da : Int
 Time : Ar
 Extra : List Am
 Data : List UInt8
def AA (x : AK) : List AD := [.str x.Name, .str x.Be, .int .u8 x.Kind, .int .i64 x.Mode, .int .i64 x.De, .int .i64 x.ET, .str x.B1, .str x.CI, .int .i64 x.CG, .int .i64 x.Da, .int .i64 x.Time.Cf, .int .i64 x.Time.Bb, vs Ad x.Extra, .str x.Data]
theorem BL : Lg AA 14 := ⟨fun _ => rfl, fun _ => rfl, fun _ => rfl⟩
structure AS where
 Text : List UInt8
 CD : Bool
 Fold : Bool
 A0 : Bool
def AE (x : AS) : List AD := [.str x.Text, .bool x.CD, .bool x.Fold, .bool x.A0]
theorem CF : Lg AE 4 := ⟨fun _ => rfl, fun _ => rfl, fun _ => rfl⟩
structure Az where
 Re : List UInt8
 Rp : List UInt8
 Global : Bool
 Fold : Bool
 RT : Bool
 Number : Int
 Names : Bool
 U4 : Bool
 U6 : Bool
def AI (x : Az) : List AD := [.str x.Re, .str x.Rp, .bool x.Global, .bool x.Fold, .bool x.RT, .int .i64 x.Number, .bool x.Names, .bool x.U4, .bool x.U6]
theorem Ed : Lg AI 9 := ⟨fun _ => rfl, fun _ => rfl, fun _ => rfl⟩
structure Bq where
 Ah : List AS
 Aj : List AS
 Bj : List Az
 G1 : Bool
 BE : Bool
 Bc : Int
 B4 : Bool
 Ay : Ar
 Ge : Int
 Bz : Int
 Name : Int
 Head : Int
 BU : Int
def AO (x : Bq) : List AD := [vs AE x.Ah, vs AE x.Aj, vs AI x.Bj, .bool x.G1, .bool x.BE, .int .i64 x.Bc, .bool x.B4, .int .i64 x.Ay.Cf, .int .i64 x.Ay.Bb, .int .i64 x.Ge, .int .i64 x.Bz, .int .i64 x.Name, .int .i64 x.Head, .int .i64 x.BU]
structure FZ where
 c_ : Bq
 BY : AS
 M0 : List UInt8
 at_ : Int
 CH : List ((List UInt8) × Bool)
structure Dq where
 e_ : Int
 at_ : Int
structure BK where
 w0 : Int
 w1 : Int
 w2 : Int
 w3 : Int
def EU (x : BK) : List AD := [.int .u64 x.w0, .int .u64 x.w1, .int .u64 x.w2, .int .u64 x.w3]
structure AQ where
 Kind : Int
 B : Int
 Set : BK
def AN (x : AQ) : List AD := [.int .i64 x.Kind, .int .u8 x.B, .int .u64 x.Set.w0, .int .u64 x.Set.w1, .int .u64 x.Set.w2, .int .u64 x.Set.w3]
theorem Bt : Lg AN 6 := ⟨fun _ => rfl, fun _ => rfl, fun _ => rfl⟩
structure EJ where
 Fold : Bool
 A0 : Bool
structure Bf where
 BV : (Nat → Int)
 An : Int
 BT : List Int
 A9 : List Bool
structure B7 where
 l_ : List AQ
 f_ : EJ
 Ej : Int
 t_ : Bf
 Dc : List UInt8
 CH : List ((List UInt8) × Int)
 B2 : List (List UInt8)
structure Al where
 r_ : AS
 t_ : Bf
def AB (x : Al) : List AD := [.str x.r_.Text, .bool x.r_.CD, .bool x.r_.Fold, .bool x.r_.A0, .BC (CW 256 (AD.int .u8) x.t_.BV ++ [.int .i64 x.t_.An, vs (eI .i32) x.t_.BT, vs eB x.t_.A9])]
structure Nr where
 Kind : Int
 A : Int
 B : Int
 Min : Int
 Max : Int
 Ui : Int
 Set : BK
def PS (x : Nr) : List AD := [.int .i64 x.Kind, .int .i64 x.A, .int .i64 x.B, .int .i64 x.Min, .int .i64 x.Max, .int .i64 x.Ui, .int .u64 x.Set.w0, .int .u64 x.Set.w1, .int .u64 x.Set.w2, .int .u64 x.Set.w3]
structure Ru where
 XO : List Nr
 YT : Int
structure Tw where
 Vg : (Nat → Int)
 UF : Int
 BT : List Int
 A9 : List Bool
 XK : List Bool
 Wh : Int
 Wd : Int
 W7 : Bool
structure Mt where
 Kind : Int
 Ui : Int
 Bytes : List UInt8
def PB (x : Mt) : List AD := [.int .i64 x.Kind, .int .i64 x.Ui, .str x.Bytes]
structure Ee where
 x_ : Az
 t_ : Ru
 d_ : Tw
 Wz : List Mt
def AJ (x : Ee) : List AD := [.str x.x_.Re, .str x.x_.Rp, .bool x.x_.Global, .bool x.x_.Fold, .bool x.x_.RT, .int .i64 x.x_.Number, .bool x.x_.Names, .bool x.x_.U4, .bool x.x_.U6, vs PS x.t_.XO, .int .i64 x.t_.YT, .BC (CW 256 (AD.int .u8) x.d_.Vg ++ [.int .i64 x.d_.UF, vs (eI .i32) x.d_.BT, vs eB x.d_.A9, vs eB x.d_.XK, .int .i32 x.d_.Wh, .int .i32 x.d_.Wd, .bool x.d_.W7]), vs PB x.Wz]
structure CT where
 l_ : List Ee
 BM : Int
structure BS where
 n_ : Int
 An : Int
 Aw : (Nat → Int)
structure BO where
 c_ : Bq
 AR : List Al
 AU : List Al
 AX : CT
 Ae : BS
structure Ch where
 m_ : AK
 RI : Int
 e_ : Int
def B3 (x : Ch) : List AD := [.str x.m_.Name, .str x.m_.Be, .int .u8 x.m_.Kind, .int .i64 x.m_.Mode, .int .i64 x.m_.De, .int .i64 x.m_.ET, .str x.m_.B1, .str x.m_.CI, .int .i64 x.m_.CG, .int .i64 x.m_.Da, .int .i64 x.m_.Time.Cf, .int .i64 x.m_.Time.Bb, vs Ad x.m_.Extra, .str x.m_.Data, .int .i64 x.RI, .int .i64 x.e_]
structure BA where
 DD : List ((List UInt8) × Bool)
abbrev JE (x : BK) (c1 : AD) : List AD := [.int .u64 x.w0, c1, .int .u64 x.w2, .int .u64 x.w3]
abbrev Dv (x : AK) (c0 : AD) : List AD := [c0, .str x.Be, .int .u8 x.Kind, .int .i64 x.Mode, .int .i64 x.De, .int .i64 x.ET, .str x.B1, .str x.CI, .int .i64 x.CG, .int .i64 x.Da, .int .i64 x.Time.Cf, .int .i64 x.Time.Bb, vs Ad x.Extra, .str x.Data]
abbrev BR (x : AK) (c0 c1 : AD) : List AD := [c0, c1, .int .u8 x.Kind, .int .i64 x.Mode, .int .i64 x.De, .int .i64 x.ET, .str x.B1, .str x.CI, .int .i64 x.CG, .int .i64 x.Da, .int .i64 x.Time.Cf, .int .i64 x.Time.Bb, vs Ad x.Extra, .str x.Data]
abbrev J1 (x : AS) (c0 : AD) : List AD := [c0, .bool x.CD, .bool x.Fold, .bool x.A0]
end Go.Av.L
