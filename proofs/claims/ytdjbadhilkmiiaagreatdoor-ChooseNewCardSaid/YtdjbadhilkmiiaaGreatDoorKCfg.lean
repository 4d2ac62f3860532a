/-
 A part.
-/
import Derived.Test.YtdjbadhilkmiiaaGreatDoorAvLib
import Derived.Test.YtdjbadhilkmiiaaGreatDoorAvYld
import Derived.Test.YtdjbadhilkmiiaaGreatDoorAvMap
import Derived.Test.YtdjbadhilkmiiaaGreatDoorAvBig
import Derived.Test.YtdjbadhilkmiiaaGreatDoorAvCo
import Derived.Test.YtdjbadhilkmiiaaGreatDoorAvHq
import Derived.Test.YtdjbadhilkmiiaaGreatDoorAvKm
import Derived.Test.YtdjbadhilkmiiaaGreatDoorAvWalk
import Derived.Test.YtdjbadhilkmiiaaGreatDoorAvTold
import Derived.Test.YtdjbadhilkmiiaaGreatDoorKA
import Derived.Test.YtdjbadhilkmiiaaGreatDoorLay
import Derived.Test.YtdjbadhilkmiiaaGreatDoorProg
namespace Go.Av.L
open Go.Av Go.Lib
set_option linter.unusedSimpArgs false
set_option linter.unusedVariables false
def kinds : List Nat := [0, 0, 0, 1, 1, 1, 1, 1, 1, 7, 7, 1, 1, 1, 1, 1, 1, 1, 3, 3, 1, 1, 1, 0, 1, 1, 1, 1, 1, 7, 1, 1, 3, 3, 9, 0, 1, 1, 1, 1, 1, 1, 0, 0, 0, 0, 0, 0, 0, 0, 1, 1, 0, 0, 0, 0, 0, 0, 0, 0, 0, 0, 0, 0, 1, 0, 0, 0, 0, 0, 7, 0, 1, 1, 0, 0, 1, 1, 1, 1, 0, 0, 1, 1, 3, 1, 9, 0, 0, 0, 0, 0, 0, 1, 0, 1, 0, 0, 0, 0, 0, 0, 0, 0, 0, 0, 0, 1, 0, 0, 0, 1, 0, 0, 0, 0, 1, 1, 0, 1, 0, 0, 1, 1, 0, 0, 0, 1, 1, 1, 0, 1, 1, 1, 1, 1, 0, 0, 0, 0, 0, 0, 0, 0, 1, 0, 0, 0, 0, 0, 0, 0, 0, 0, 0, 0, 0, 0, 0, 0, 0, 0, 0, 0, 1, 0, 0, 0, 0, 1, 1, 1, 1, 1, 1, 0, 1, 0, 0, 0, 0, 3, 0, 0, 0, 1, 1, 1, 1, 1, 0, 0, 0, 0, 0, 0, 0, 0, 0, 0, 0, 0, 0, 1, 0, 0, 0, 1, 3, 0, 0, 1, 1, 1, 1, 1, 1, 0, 0, 0, 0, 0, 0, 0, 0, 1, 1, 1, 1, 1, 1, 0, 0, 0, 0, 0, 0, 0, 0, 0, 0, 0, 0, 0, 0, 0, 1, 0, 0, 0, 0, 0, 0, 0, 1, 1, 1, 1, 0, 0, 0, 0, 0, 0, 0, 0, 0, 0, 0, 0, 0, 0, 0, 0, 0, 0, 0, 0, 1, 1, 1, 0, 0, 0, 0, 0, 0, 0, 0, 0, 0, 0, 0, 0, 0, 0, 0, 0, 0, 0, 0, 0, 0, 0, 0, 0, 0, 0, 0, 0, 0, 0, 0, 0, 0, 0, 0, 0, 0, 0, 0, 0, 0, 0, 0, 0, 0, 0, 0, 0, 0, 0, 0, 0, 0, 0, 0, 0, 0, 0, 0]
def RR : List ((Nat × Nat) × List (Nat × List Nat)) := [((5, 13), [(0, []), (1, []), (2, []), (3, []), (4, []), (5, []), (6, []), (7, []), (8, []), (9, []), (10, []), (11, []), (12, []), (13, []), (14, []), (15, []), (16, []), (17, []), (18, [])]),
 ((9, 8), [(0, []), (1, []), (2, []), (3, []), (4, []), (5, []), (6, []), (7, []), (8, []), (9, []), (10, []), (11, []), (12, []), (13, []), (14, []), (15, [])]),
 ((9, 11), [(0, []), (1, [0]), (2, [])]),
 ((9, 12), [(0, []), (1, []), (2, []), (3, []), (4, []), (5, [2, 4]), (6, []), (7, [])]),
 ((10, 9), [(0, []), (1, []), (2, []), (3, []), (4, []), (5, []), (6, []), (7, []), (8, []), (9, []), (10, []), (11, []), (12, [])]),
 ((10, 10), [(0, []), (1, []), (2, []), (3, []), (4, []), (5, []), (6, []), (7, []), (8, []), (9, []), (10, []), (11, []), (12, [])]),
 ((10, 13), [(0, []), (1, []), (2, []), (3, []), (4, []), (9, []), (5, [9]), (6, []), (7, []), (8, []), (10, []), (11, [])]),
 ((12, 1), [(0, []), (1, []), (3, []), (4, []), (6, []), (7, []), (2, [4, 7]), (5, [7]), (8, []), (9, []), (10, []), (11, []), (12, []), (13, []), (14, [])]),
 ((22, 1), [(0, []), (1, []), (2, []), (3, []), (4, []), (5, []), (6, []), (7, []), (8, []), (9, []), (10, []), (11, []), (12, [])]),
 ((24, 1), [(0, []), (1, []), (2, []), (3, []), (4, []), (5, []), (6, []), (7, []), (8, []), (9, []), (10, []), (11, [])]),
 ((25, 1), [(0, []), (1, []), (2, []), (3, []), (4, []), (5, []), (6, []), (7, []), (8, []), (9, []), (10, []), (11, []), (12, []), (13, []), (14, []), (15, []), (16, []), (17, []), (18, []), (19, []), (20, [])]),
 ((26, 3), [(0, []), (1, []), (2, []), (3, []), (4, []), (5, []), (6, []), (7, []), (8, []), (9, []), (10, []), (11, [])]),
 ((27, 1), [(0, []), (1, []), (2, []), (3, []), (4, []), (5, []), (6, []), (7, []), (8, []), (9, []), (10, []), (11, []), (12, [])]),
 ((50, 4), [(0, []), (1, []), (2, []), (3, []), (4, []), (5, []), (6, []), (7, []), (8, []), (9, []), (10, []), (11, []), (12, []), (13, [])]),
 ((50, 8), [(0, []), (1, []), (2, []), (3, []), (4, []), (5, []), (6, []), (7, []), (8, [])]),
 ((76, 4), [(0, []), (1, []), (2, []), (3, []), (4, []), (5, []), (6, []), (7, []), (8, []), (9, []), (10, [])]),
 ((76, 5), [(0, []), (1, []), (2, []), (3, []), (4, []), (5, []), (6, []), (7, []), (8, []), (9, []), (10, []), (11, []), (12, []), (13, []), (14, []), (15, []), (16, []), (17, []), (18, []), (19, [])]),
 ((86, 19), [(0, []), (1, []), (2, []), (3, []), (4, []), (5, []), (6, []), (7, []), (8, []), (9, []), (10, []), (11, []), (12, []), (13, [3]), (14, []), (15, []), (16, [])]),
 ((107, 4), [(0, []), (1, []), (2, []), (3, []), (4, []), (5, []), (6, []), (7, [])]),
 ((116, 4), [(0, []), (1, []), (2, []), (3, []), (4, []), (5, []), (6, []), (7, []), (8, []), (9, [])]),
 ((131, 14), [(0, []), (1, []), (2, []), (3, []), (4, []), (5, []), (6, []), (7, []), (8, []), (9, [7]), (10, []), (11, [])]),
 ((132, 20), [(0, []), (1, []), (2, []), (3, []), (4, []), (5, []), (6, []), (7, []), (8, [])]),
 ((133, 6), [(0, []), (1, []), (2, []), (3, []), (4, []), (5, []), (6, []), (7, []), (8, []), (9, []), (10, []), (11, []), (12, [])]),
 ((133, 11), [(0, []), (1, []), (2, []), (3, []), (4, []), (5, []), (6, []), (7, []), (8, []), (9, []), (10, []), (11, []), (12, []), (13, []), (14, []), (15, []), (16, []), (17, []), (18, []), (19, []), (20, []), (21, [3]), (22, []), (23, []), (24, [])]),
 ((134, 5), [(0, []), (1, []), (2, []), (3, []), (4, []), (5, []), (6, []), (7, []), (8, []), (9, []), (10, []), (11, []), (12, [])]),
 ((135, 7), [(0, []), (1, []), (2, []), (3, []), (4, []), (5, []), (6, []), (7, []), (8, []), (9, []), (10, [])]),
 ((135, 9), [(0, []), (1, []), (2, []), (3, []), (4, []), (5, []), (6, []), (7, []), (8, []), (9, []), (10, []), (11, []), (12, [])]),
 ((185, 1), [(0, []), (1, []), (2, []), (3, []), (4, []), (5, []), (6, []), (7, []), (8, []), (9, []), (10, []), (11, [])]),
 ((186, 5), [(0, []), (1, []), (2, []), (3, []), (4, []), (5, []), (6, []), (7, [4]), (8, []), (9, []), (10, []), (11, [])]),
 ((186, 11), [(0, []), (1, []), (2, []), (3, []), (4, []), (5, []), (6, []), (7, []), (8, []), (9, [])]),
 ((186, 20), [(0, []), (1, []), (2, []), (3, []), (4, []), (5, []), (6, []), (7, [4]), (8, []), (9, []), (10, []), (11, [])]),
 ((188, 1), [(0, []), (1, []), (2, []), (3, []), (4, []), (5, []), (6, []), (7, []), (8, []), (9, []), (10, []), (11, []), (12, []), (13, []), (14, []), (15, [])]),
 ((189, 4), [(0, []), (1, []), (2, []), (3, []), (4, []), (5, []), (6, []), (7, [])]),
 ((212, 5), [(0, []), (1, []), (2, []), (3, []), (4, []), (5, []), (6, []), (7, []), (8, []), (9, []), (10, []), (11, []), (12, []), (13, []), (14, []), (15, []), (16, []), (17, []), (18, []), (19, []), (20, []), (21, []), (22, []), (23, [])]),
 ((225, 1), [(0, []), (1, []), (2, []), (3, []), (4, []), (5, []), (6, []), (7, []), (8, []), (9, []), (10, []), (11, []), (12, []), (13, []), (14, []), (15, []), (16, [])]),
 ((225, 5), [(0, []), (1, []), (2, []), (3, []), (4, []), (5, []), (6, []), (7, []), (8, []), (9, [])]),
 ((226, 1), [(0, []), (1, []), (2, []), (3, []), (4, []), (5, []), (6, []), (7, []), (8, []), (9, []), (10, []), (11, []), (12, []), (13, []), (14, []), (15, []), (16, []), (17, []), (18, []), (19, []), (20, []), (21, []), (22, []), (23, []), (24, []), (25, []), (26, []), (27, []), (28, []), (29, [])]),
 ((226, 3), [(0, []), (1, []), (2, []), (3, []), (4, []), (5, []), (6, []), (7, []), (8, []), (9, [])]),
 ((227, 4), [(0, []), (1, []), (2, []), (3, []), (4, []), (5, []), (6, []), (7, []), (8, [])]),
 ((229, 5), [(0, []), (1, []), (2, []), (3, []), (4, []), (5, []), (6, []), (7, []), (8, []), (9, [])]),
 ((229, 8), [(0, []), (1, []), (2, []), (3, []), (4, []), (5, []), (6, []), (7, []), (8, []), (9, []), (10, []), (11, [])]),
 ((230, 8), [(0, []), (1, []), (2, []), (3, []), (4, []), (5, []), (6, []), (7, []), (8, []), (9, []), (10, []), (11, []), (12, []), (13, []), (14, []), (15, []), (16, []), (17, []), (18, []), (19, []), (20, [])]),
 ((230, 11), [(0, []), (1, []), (2, []), (3, []), (4, []), (5, []), (6, []), (7, []), (8, []), (9, []), (10, []), (11, []), (12, []), (13, []), (14, []), (15, [])]),
 ((254, 2), [(0, []), (1, []), (3, []), (5, []), (2, [3, 5]), (4, [5]), (6, [])]),
 ((254, 15), [(0, []), (1, [0]), (2, []), (3, []), (4, []), (5, []), (6, [])]),
 ((254, 27), [(1, []), (0, [1]), (2, []), (3, []), (4, []), (5, [])]),
 ((255, 0), [(0, []), (1, []), (2, []), (3, []), (4, []), (5, []), (6, []), (7, []), (8, []), (9, []), (10, []), (11, []), (12, [])]),
 ((279, 4), [(0, []), (1, []), (2, []), (3, []), (4, []), (5, []), (6, []), (7, []), (8, [])])]
def Mq : List (Nat × List Bool) := [(3, [false, false, false, false, false, false, true, false, false, false]), (10, [false, true, false]), (14, [true, false, false]), (22, [true]), (24, [false, true]), (25, [false, true]), (26, [false, true]), (27, [false, true]), (29, [false, true]), (31, [true]), (34, [true, false]), (86, [false, true, false]), (128, [true]), (144, [true]), (187, [true]), (188, [false, true, false]), (203, [true, false]), (227, [true, true]), (230, [false, true, false]), (256, [true, true, false]), (257, [true, false]), (279, [true, true])]
def Ti : List (Nat × List AB) := [(0, []),
 (5, [.int .u64 1, .int .u64 10, .int .u64 100, .int .u64 1000, .int .u64 10000, .int .u64 100000, .int .u64 1000000, .int .u64 10000000, .int .u64 100000000, .int .u64 1000000000, .int .u64 10000000000, .int .u64 100000000000, .int .u64 1000000000000, .int .u64 10000000000000, .int .u64 100000000000000, .int .u64 1000000000000000, .int .u64 10000000000000000, .int .u64 100000000000000000, .int .u64 1000000000000000000, .int .u64 10000000000000000000]),
 (6, [.int .u8 0, .int .u8 1, .int .u8 28, .int .u8 2, .int .u8 29, .int .u8 14, .int .u8 24, .int .u8 3, .int .u8 30, .int .u8 22, .int .u8 20, .int .u8 15, .int .u8 25, .int .u8 17, .int .u8 4, .int .u8 8, .int .u8 31, .int .u8 27, .int .u8 13, .int .u8 23, .int .u8 21, .int .u8 19, .int .u8 16, .int .u8 7, .int .u8 26, .int .u8 12, .int .u8 18, .int .u8 6, .int .u8 11, .int .u8 5, .int .u8 10, .int .u8 9]),
 (7, [.int .u8 0, .int .u8 1, .int .u8 56, .int .u8 2, .int .u8 57, .int .u8 49, .int .u8 28, .int .u8 3, .int .u8 61, .int .u8 58, .int .u8 42, .int .u8 50, .int .u8 38, .int .u8 29, .int .u8 17, .int .u8 4, .int .u8 62, .int .u8 47, .int .u8 59, .int .u8 36, .int .u8 45, .int .u8 43, .int .u8 51, .int .u8 22, .int .u8 53, .int .u8 39, .int .u8 33, .int .u8 30, .int .u8 24, .int .u8 18, .int .u8 12, .int .u8 5, .int .u8 63, .int .u8 55, .int .u8 48, .int .u8 27, .int .u8 60, .int .u8 41, .int .u8 37, .int .u8 16, .int .u8 46, .int .u8 35, .int .u8 44, .int .u8 21, .int .u8 52, .int .u8 32, .int .u8 23, .int .u8 11, .int .u8 54, .int .u8 26, .int .u8 40, .int .u8 15, .int .u8 34, .int .u8 20, .int .u8 31, .int .u8 10, .int .u8 25, .int .u8 14, .int .u8 19, .int .u8 9, .int .u8 13, .int .u8 8, .int .u8 7, .int .u8 6])]
def exts : List (Nat × Nat × Nat × Nat) := [(18, 32, 0, 0), (19, 8, 0, 0), (32, 6, 0, 31), (33, 6, 0, 92), (84, 6, 0, 154), (181, 1, 0, 0), (208, 9, 0, 0)]
def Wz : Vt := [LA.Nd]
noncomputable def cfg : HS := { P := Go.Proofs.Tryz.prog, kind := OH kinds, K6 := Kj RR, ext := OO Go.Proofs.Tryz.prog Wz exts, D9 := KC Ti, T2 := SV Go.Proofs.Tryz.prog (Kj RR), still := Ts Mq }
theorem Pn : ∀ p ∈ exts, HD cfg.P cfg.D9 p.1 (S1 cfg.P Wz p.2) := by
 intro p hp
 simp only [exts, List.mem_cons, List.not_mem_nil, or_false] at hp
 rcases hp with rfl | rfl | rfl | rfl | rfl | rfl | rfl
 ·exact Su LA.SD (by kernel_rfl) (by kernel_rfl) LA.X4
 ·exact Ub Go.Proofs.Tryz.VS (by kernel_rfl)
 ·exact M6 Go.Proofs.Tryz.VK _
 ·exact M6 Go.Proofs.Tryz.VC _
 ·exact M6 Go.Proofs.Tryz.U1 _
 ·exact UR _ (by kernel_rfl) (fun fn h => by
   obtain rfl := Option.some.inj (Go.Proofs.Tryz.func181.symm.trans h)
   exact ⟨by kernel_rfl, by kernel_rfl⟩)
 ·exact TW Go.Proofs.Tryz.WL (by kernel_rfl)
theorem SD : Hy cfg := PH (ks := kinds) (l := exts) rfl (by kernel_rfl) (by kernel_rfl) rfl rfl (by kernel_rfl) Pn
structure Bb where
 CX : Int
 BS : Int
def GJ (x : Bb) : List AB := [.int .i64 x.CX, .int .i64 x.BS]
structure AD where
 Text : List UInt8
 Bu : Bool
 Fold : Bool
 BG : Bool
def AA (x : AD) : List AB := [.str x.Text, .bool x.Bu, .bool x.Fold, .bool x.BG]
theorem BQ : Ld AA 4 := ⟨fun _ => rfl, fun _ => rfl, fun _ => rfl⟩
structure Ao where
 Re : List UInt8
 Qn : List UInt8
 Global : Bool
 Fold : Bool
 QY : Bool
 Number : Int
 Names : Bool
 W6 : Bool
 Wr : Bool
def AL (x : Ao) : List AB := [.str x.Re, .str x.Qn, .bool x.Global, .bool x.Fold, .bool x.QY, .int .i64 x.Number, .bool x.Names, .bool x.W6, .bool x.Wr]
theorem Dk : Ld AL 9 := ⟨fun _ => rfl, fun _ => rfl, fun _ => rfl⟩
structure BI where
 AQ : List AD
 AS : List AD
 Bt : List Ao
 FT : Bool
 Ay : Bool
 BN : Int
 Be : Bool
 An : Bb
 Eu : Int
 Bf : Int
 Name : Int
 Head : Int
 BF : Int
def Am (x : BI) : List AB := [vs AA x.AQ, vs AA x.AS, vs AL x.Bt, .bool x.FT, .bool x.Ay, .int .i64 x.BN, .bool x.Be, .int .i64 x.An.CX, .int .i64 x.An.BS, .int .i64 x.Eu, .int .i64 x.Bf, .int .i64 x.Name, .int .i64 x.Head, .int .i64 x.BF]
structure CF where
 c_ : BI
 Aw : AD
 GB : List UInt8
 at_ : Int
 Bx : List ((List UInt8) × Bool)
structure Cw where
 e_ : Int
 at_ : Int
structure Ad where
 w0 : Int
 w1 : Int
 w2 : Int
 w3 : Int
def AN (x : Ad) : List AB := [.int .u64 x.w0, .int .u64 x.w1, .int .u64 x.w2, .int .u64 x.w3]
structure AM where
 Kind : Int
 B : Int
 Set : Ad
def AO (x : AM) : List AB := [.int .i64 x.Kind, .int .u8 x.B, .int .u64 x.Set.w0, .int .u64 x.Set.w1, .int .u64 x.Set.w2, .int .u64 x.Set.w3]
theorem Bw : Ld AO 6 := ⟨fun _ => rfl, fun _ => rfl, fun _ => rfl⟩
structure BW where
 s_ : List UInt8
 at_ : Int
 Gp : Bool
 DR : Ad
def CO (x : BW) : List AB := [.str x.s_, .int .i64 x.at_, .bool x.Gp, .int .u64 x.DR.w0, .int .u64 x.DR.w1, .int .u64 x.DR.w2, .int .u64 x.DR.w3]
structure C3 where
 Fold : Bool
 BG : Bool
structure Bq where
 Bh : (Nat → Int)
 Az : Int
 Bd : List Int
 BM : List Bool
structure Bj where
 l_ : List AM
 f_ : C3
 EG : Int
 t_ : Bq
 DU : List UInt8
 Bx : List ((List UInt8) × Int)
 B9 : List (List UInt8)
structure AV where
 r_ : AD
 t_ : Bq
def AE (x : AV) : List AB := [.str x.r_.Text, .bool x.r_.Bu, .bool x.r_.Fold, .bool x.r_.BG, .BR (DC 256 (AB.int .u8) x.t_.Bh ++ [.int .i64 x.t_.Az, vs (eI .i32) x.t_.Bd, vs eB x.t_.BM])]
structure NR where
 Kind : Int
 A : Int
 B : Int
 Min : Int
 Max : Int
 T8 : Int
 Set : Ad
def Ow (x : NR) : List AB := [.int .i64 x.Kind, .int .i64 x.A, .int .i64 x.B, .int .i64 x.Min, .int .i64 x.Max, .int .i64 x.T8, .int .u64 x.Set.w0, .int .u64 x.Set.w1, .int .u64 x.Set.w2, .int .u64 x.Set.w3]
structure Qg where
 W3 : List NR
 XX : Int
structure Sw where
 VJ : (Nat → Int)
 UI : Int
 Bd : List Int
 BM : List Bool
 Ws : List Bool
 Vx : Int
 WO : Int
 Vy : Bool
structure L6 where
 Kind : Int
 T8 : Int
 Bytes : List UInt8
def OG (x : L6) : List AB := [.int .i64 x.Kind, .int .i64 x.T8, .str x.Bytes]
structure Eb where
 x_ : Ao
 t_ : Qg
 d_ : Sw
 WN : List L6
def AU (x : Eb) : List AB := [.str x.x_.Re, .str x.x_.Qn, .bool x.x_.Global, .bool x.x_.Fold, .bool x.x_.QY, .int .i64 x.x_.Number, .bool x.x_.Names, .bool x.x_.W6, .bool x.x_.Wr, vs Ow x.t_.W3, .int .i64 x.t_.XX, .BR (DC 256 (AB.int .u8) x.d_.VJ ++ [.int .i64 x.d_.UI, vs (eI .i32) x.d_.Bd, vs eB x.d_.BM, vs eB x.d_.Ws, .int .i32 x.d_.Vx, .int .i32 x.d_.WO, .bool x.d_.Vy]), vs OG x.WN]
structure DS where
 l_ : List Eb
 Cm : Int
structure Cf where
 n_ : Int
 Az : Int
 Bl : (Nat → Int)
structure B2 where
 c_ : BI
 Aj : List AV
 Ak : List AV
 Aq : DS
 Ar : Cf
structure Cc where
 Key : List UInt8
 Value : List UInt8
def C0 (x : Cc) : List AB := [.str x.Key, .str x.Value]
theorem IW : Ld C0 2 := ⟨fun _ => rfl, fun _ => rfl, fun _ => rfl⟩
structure Bk where
 Name : List UInt8
 Oy : List UInt8
 Kind : Int
 Mode : Int
 Wk : Int
 We : Int
 RF : List UInt8
 Qk : List UInt8
 RL : Int
 QT : Int
 Time : Bb
 Extra : List Cc
 Data : List UInt8
def Aa (x : Bk) : List AB := [.str x.Name, .str x.Oy, .int .u8 x.Kind, .int .i64 x.Mode, .int .i64 x.Wk, .int .i64 x.We, .str x.RF, .str x.Qk, .int .i64 x.RL, .int .i64 x.QT, .int .i64 x.Time.CX, .int .i64 x.Time.BS, vs C0 x.Extra, .str x.Data]
structure AI where
 Kind : Int
 B : Int
 S : List UInt8
def Bg (x : AI) : List AB := [.int .i64 x.Kind, .int .u8 x.B, .str x.S]
theorem Du : Ld Bg 3 := ⟨fun _ => rfl, fun _ => rfl, fun _ => rfl⟩
structure Ce where
 S : List UInt8
 At : Int
 Ok : Bool
def Hi (x : Ce) : List AB := [.str x.S, .int .i64 x.At, .bool x.Ok]
abbrev I8 (x : Ad) (c1 : AB) : List AB := [.int .u64 x.w0, c1, .int .u64 x.w2, .int .u64 x.w3]
abbrev D5 (x : Bk) (c0 : AB) : List AB := [c0, .str x.Oy, .int .u8 x.Kind, .int .i64 x.Mode, .int .i64 x.Wk, .int .i64 x.We, .str x.RF, .str x.Qk, .int .i64 x.RL, .int .i64 x.QT, .int .i64 x.Time.CX, .int .i64 x.Time.BS, vs C0 x.Extra, .str x.Data]
abbrev Fv (x : Bk) (c0 c1 : AB) : List AB := [c0, c1, .int .u8 x.Kind, .int .i64 x.Mode, .int .i64 x.Wk, .int .i64 x.We, .str x.RF, .str x.Qk, .int .i64 x.RL, .int .i64 x.QT, .int .i64 x.Time.CX, .int .i64 x.Time.BS, vs C0 x.Extra, .str x.Data]
abbrev Mw (x : BW) (c1 : AB) : List AB := [.str x.s_, c1, .bool x.Gp, .int .u64 x.DR.w0, .int .u64 x.DR.w1, .int .u64 x.DR.w2, .int .u64 x.DR.w3]
abbrev JE (x : BI) (c2 : AB) : List AB := [vs AA x.AQ, vs AA x.AS, c2, .bool x.FT, .bool x.Ay, .int .i64 x.BN, .bool x.Be, .int .i64 x.An.CX, .int .i64 x.An.BS, .int .i64 x.Eu, .int .i64 x.Bf, .int .i64 x.Name, .int .i64 x.Head, .int .i64 x.BF]
abbrev Jd (x : AD) (c0 : AB) : List AB := [c0, .bool x.Bu, .bool x.Fold, .bool x.BG]
end Go.Av.L
