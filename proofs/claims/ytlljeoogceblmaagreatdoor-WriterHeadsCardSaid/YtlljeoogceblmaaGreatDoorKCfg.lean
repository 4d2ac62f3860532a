/-
 A part.
-/
import Derived.Test.YtlljeoogceblmaaGreatDoorAvLib
import Derived.Test.YtlljeoogceblmaaGreatDoorAvMap
import Derived.Test.YtlljeoogceblmaaGreatDoorAvCo
import Derived.Test.YtlljeoogceblmaaGreatDoorAvKm
import Derived.Test.YtlljeoogceblmaaGreatDoorAvMw
import Derived.Test.YtlljeoogceblmaaGreatDoorAvFmt
import Derived.Test.YtlljeoogceblmaaGreatDoorAvTold
import Derived.Test.YtlljeoogceblmaaGreatDoorLay
import Derived.Test.YtlljeoogceblmaaGreatDoorProg
namespace Go.Av.L
open Go.Av Go.Lib
set_option linter.unusedSimpArgs false
set_option linter.unusedVariables false
abbrev UV := List UInt8
def kinds : List Nat := [0, 0, 0, 1, 0, 0, 0, 0, 0, 0, 0, 1, 1, 1, 1, 1, 1, 1, 1, 1, 1, 0, 0, 0, 0, 0, 1, 1, 10, 0, 0, 0, 0, 0, 0, 0, 0, 0, 0, 0, 0, 0, 0, 0, 1, 1, 1, 1, 1, 1, 1, 1, 1, 1, 1, 1, 1, 1, 1, 0, 0, 0, 0, 0, 0, 1, 1, 3, 0, 0, 10, 1, 1, 1, 1, 1, 0, 0, 0, 0, 0, 0, 3, 0, 0, 0, 0, 0, 0, 0, 0, 0, 0, 0, 0, 0, 1, 1, 1, 1, 1, 1, 1, 1, 1, 1, 1, 1, 1, 1, 1, 1, 1, 1, 1, 3, 0, 0, 0, 1, 1, 3, 1, 1, 1, 1, 1, 1, 1, 1, 1, 0, 0, 0, 1, 1, 1, 1, 0, 0, 0, 0, 0, 0, 0, 0, 0, 0, 0, 0, 0, 0, 0, 0, 0, 0, 0, 0, 0, 1, 1, 1, 1, 1, 1, 1, 1, 0, 0, 0, 0, 0, 0, 0, 0, 0, 1, 1, 0, 0, 0, 0, 0, 0, 0, 0, 0, 0, 0, 1, 1, 0, 0, 0, 0, 0, 0, 0, 0, 0, 0, 0, 0, 0, 0, 0, 1, 1, 0, 0, 0, 0, 0, 0, 0, 1, 0, 0, 0, 0, 0, 0, 0, 0, 3, 1, 0, 0, 0, 0, 0, 0, 0, 0, 0, 0, 0, 0, 0, 0, 0, 0, 1, 0, 0, 1, 3, 3, 0, 0, 0, 0, 0, 0, 0, 0, 0, 0, 0, 0, 0, 0, 0, 0, 0, 0, 0, 0, 0, 0, 0, 0, 0, 0, 0, 0, 0, 0, 0, 0, 0, 0, 0, 0, 0, 0, 0, 0, 0, 0, 0, 0, 0, 0, 0, 0, 0, 0, 0, 0, 0, 0, 0, 0, 0, 0]
def Ya : List ((Nat × Nat) × List (Nat × List Nat)) := [((48, 1), [(0, []), (1, []), (3, []), (4, []), (2, [4]), (5, []), (6, []), (7, []), (8, []), (10, []), (11, []), (9, [11]), (12, []), (13, []), (14, []), (15, []), (16, []), (18, []), (19, []), (17, [19]), (20, []), (21, []), (22, []), (23, []), (24, []), (26, []), (27, []), (25, [27]), (28, []), (29, []), (30, []), (31, []), (32, []), (33, []), (34, [])]),
 ((48, 7), [(0, []), (1, []), (2, []), (3, []), (4, []), (5, []), (6, []), (7, []), (8, []), (9, []), (10, []), (11, []), (12, []), (13, []), (14, []), (15, []), (16, []), (17, []), (18, []), (19, []), (20, []), (21, []), (22, []), (23, []), (24, []), (25, []), (26, []), (27, []), (28, [])]),
 ((50, 12), [(0, []), (1, []), (2, []), (3, []), (4, []), (8, []), (9, []), (10, []), (11, []), (12, []), (15, []), (16, []), (17, []), (18, []), (19, []), (5, [12, 19]), (6, [12, 19]), (7, []), (13, []), (14, []), (20, []), (21, []), (22, []), (23, [])]),
 ((51, 5), [(0, []), (2, []), (3, []), (6, []), (7, []), (10, []), (11, []), (14, []), (15, []), (18, []), (19, []), (23, []), (25, []), (26, []), (30, []), (31, []), (34, []), (35, []), (38, []), (39, []), (42, []), (43, []), (1, [3, 7, 11, 15, 19, 26, 31, 35, 39, 43]), (4, [7, 11, 15, 19, 26, 31, 35, 39, 43]), (5, []), (8, [11, 15, 19, 26, 31, 35, 39, 43]), (9, []), (12, [15, 19, 26, 31, 35, 39, 43]), (13, []), (16, [19, 26, 31, 35, 39, 43]), (17, []), (20, [26, 31, 35, 39, 43]), (21, []), (22, []), (24, []), (27, [31, 35, 39, 43]), (28, []), (29, []), (32, [35, 39, 43]), (33, []), (36, [39, 43]), (37, []), (40, [43]), (41, []), (44, []), (45, []), (46, []), (47, []), (48, []), (49, []), (50, []), (51, [])]),
 ((66, 13), [(0, []), (1, []), (2, [1]), (3, [])]),
 ((75, 4), [(0, []), (1, []), (2, []), (3, []), (4, []), (5, []), (6, []), (7, []), (8, []), (9, [])]),
 ((103, 12), [(0, []), (1, []), (2, []), (3, []), (4, []), (5, []), (6, []), (7, []), (8, []), (9, [])]),
 ((104, 6), [(0, []), (1, []), (2, []), (3, []), (4, []), (5, []), (6, []), (7, []), (8, []), (9, []), (10, []), (11, [])]),
 ((104, 9), [(0, []), (1, []), (2, []), (3, []), (4, []), (5, []), (6, []), (7, [])]),
 ((105, 4), [(0, []), (1, []), (2, []), (3, []), (4, []), (5, []), (6, []), (7, []), (8, []), (9, []), (10, []), (11, [])]),
 ((110, 8), [(0, []), (1, []), (2, []), (3, []), (4, []), (5, []), (6, []), (7, []), (8, [])]),
 ((135, 8), [(0, []), (1, []), (2, []), (3, []), (4, []), (5, []), (6, []), (7, []), (8, []), (9, [])]),
 ((159, 6), [(0, []), (1, []), (2, []), (3, []), (4, []), (5, []), (6, []), (7, []), (8, []), (9, []), (10, []), (11, []), (12, []), (13, []), (14, []), (15, []), (16, []), (17, []), (18, []), (19, []), (20, []), (21, []), (22, []), (23, []), (24, []), (25, []), (26, []), (27, []), (28, []), (29, []), (30, []), (31, [])])]
def OG : List (Nat × List Bool) := [(3, [true, false]), (11, [true]), (13, [true, false]), (14, [true, false]), (17, [false, true, false]), (26, [true, false]), (27, [true, false]), (28, [true]), (44, [true]), (45, [true, false]), (48, [true]), (49, [true, false]), (51, [true]), (65, [true, false]), (66, [true, false]), (70, [true]), (71, [true]), (73, [true]), (96, [true]), (100, [true]), (104, [false, true]), (107, [true]), (125, [true]), (159, [true]), (160, [true]), (161, [true]), (162, [true]), (176, [true])]
def Zn : List (Nat × List AB) := [(0, []),
 (1, [.int .u64 1, .int .u64 10, .int .u64 100, .int .u64 1000, .int .u64 10000, .int .u64 100000, .int .u64 1000000, .int .u64 10000000, .int .u64 100000000, .int .u64 1000000000, .int .u64 10000000000, .int .u64 100000000000, .int .u64 1000000000000, .int .u64 10000000000000, .int .u64 100000000000000, .int .u64 1000000000000000, .int .u64 10000000000000000, .int .u64 100000000000000000, .int .u64 1000000000000000000, .int .u64 10000000000000000000]),
 (2, [.int .u8 0, .int .u8 1, .int .u8 28, .int .u8 2, .int .u8 29, .int .u8 14, .int .u8 24, .int .u8 3, .int .u8 30, .int .u8 22, .int .u8 20, .int .u8 15, .int .u8 25, .int .u8 17, .int .u8 4, .int .u8 8, .int .u8 31, .int .u8 27, .int .u8 13, .int .u8 23, .int .u8 21, .int .u8 19, .int .u8 16, .int .u8 7, .int .u8 26, .int .u8 12, .int .u8 18, .int .u8 6, .int .u8 11, .int .u8 5, .int .u8 10, .int .u8 9]),
 (3, [.int .u8 0, .int .u8 1, .int .u8 56, .int .u8 2, .int .u8 57, .int .u8 49, .int .u8 28, .int .u8 3, .int .u8 61, .int .u8 58, .int .u8 42, .int .u8 50, .int .u8 38, .int .u8 29, .int .u8 17, .int .u8 4, .int .u8 62, .int .u8 47, .int .u8 59, .int .u8 36, .int .u8 45, .int .u8 43, .int .u8 51, .int .u8 22, .int .u8 53, .int .u8 39, .int .u8 33, .int .u8 30, .int .u8 24, .int .u8 18, .int .u8 12, .int .u8 5, .int .u8 63, .int .u8 55, .int .u8 48, .int .u8 27, .int .u8 60, .int .u8 41, .int .u8 37, .int .u8 16, .int .u8 46, .int .u8 35, .int .u8 44, .int .u8 21, .int .u8 52, .int .u8 32, .int .u8 23, .int .u8 11, .int .u8 54, .int .u8 26, .int .u8 40, .int .u8 15, .int .u8 34, .int .u8 20, .int .u8 31, .int .u8 10, .int .u8 25, .int .u8 14, .int .u8 19, .int .u8 9, .int .u8 13, .int .u8 8, .int .u8 7, .int .u8 6])]
def exts : List (Nat × Nat × Nat × Nat) := [(67, 11, 68, 0), (82, 33, 0, 2), (115, 7, 0, 0), (121, 12, 0, 0), (224, 1, 0, 0), (246, 13, 0, 0), (247, 14, 0, 0)]
def bA : XG := [LT.YR]
def Y4 : List (Nat × Nat × List Nat × List Nat × Option Nat) := [(28, 0, [26, 5, 1], [], some 5), (28, 2, [42, 5, 1], [], some 5), (70, 2, [37, 1, 6], [], none), (70, 4, [57], [2], none)]
noncomputable def cfg : Ft := { P := Go.Proofs.Tryz.prog, kind := Po kinds, LD := OL Ya, ext := Ms Go.Proofs.Tryz.prog bA exts, Cd := J4 Zn, aH := Vg Go.Proofs.Tryz.prog (OL Ya), still := YL OG, Wd := Vn Y4, dec := Qm }
set_option maxHeartbeats 1000000 in
theorem X0 (a b : Ik) (W : World) : Calls Go.Proofs.Tryz.prog 68 #[.agg #[.string ⟨⟨a.1⟩⟩, .string ⟨⟨a.2⟩⟩], .agg #[.string ⟨⟨b.1⟩⟩, .string ⟨⟨b.2⟩⟩]] W fun e w' => e = .returned (.int .i64 (compareBytes a.1 b.1)) ∧ ∃ q os', w' = Go.Sort.grow (W.drewN q) os' := by
 have hcon := fun W' => Go.Proofs.Any.strings_Compare Go.Proofs.Tryz.ZL ⟨⟨a.1⟩⟩ ⟨⟨b.1⟩⟩ W'
 change ∀ W', Calls Go.Proofs.Tryz.prog 69 _ _ _ at hcon
 simp only [] at hcon
 generalize compareBytes a.1 b.1 = r at hcon ⊢
 go_enter Go.Proofs.Tryz.func68, Go.Proofs.Tryz.ntmps68
 go_wp2_with (go_at_call 69; refine (hcon _).mono ?_; rintro e w' ⟨rfl, rfl⟩)
 go_ret
 exact ⟨rfl, 0, _, by rw [Go.Sort.alloc_eq_grow, Go.Sort.alloc_eq_grow, Go.Sort.grow_grow]; rfl⟩
theorem XM : Go.Proofs.Builder.Extra cfg.P Go.Proofs.Tryz.OZ where
 sizeBuilder := by kernel_rfl
 liesBuilder := by kernel_rfl
 t5 := Go.Proofs.Tryz.Og.t5
 a5 := Go.Proofs.Tryz.Og.a5
 z5 := Go.Proofs.Tryz.Og.z5
 v5 := Go.Proofs.Tryz.Og.v5
 infoByte := by kernel_rfl
 cellsByte := by kernel_rfl
 sizeByte := by kernel_rfl
 neB5 := by decide
theorem Xt : ∀ p ∈ exts, Es cfg.P cfg.Cd p.1 (WJ cfg.P bA p.2) := by
 intro p hp
 simp only [exts, List.mem_cons, List.not_mem_nil, or_false] at hp
 rcases hp with rfl | rfl | rfl | rfl | rfl | rfl | rfl
 ·exact Wl Go.Proofs.Tryz.XL (fun w => by kernel_rfl) (fun w => by kernel_rfl) (Ub Go.Proofs.Tryz.func68 (by kernel_rfl) rfl) X0 _
 ·exact LT.Zl
 ·exact Uz Go.Proofs.Tryz.Og XM _
 ·exact Xv Go.Proofs.Tryz.Xr (gn := 1) (by kernel_rfl) (by kernel_rfl)
 ·exact Yd _ (by kernel_rfl) (fun fn h => by
   obtain rfl := Option.some.inj (Go.Proofs.Tryz.func224.symm.trans h)
   exact ⟨by kernel_rfl, by kernel_rfl⟩)
 ·exact Yy Go.Proofs.Tryz.Yu (gn := 1) (by kernel_rfl) (by kernel_rfl)
 ·exact ZD Go.Proofs.Tryz.ZF _
theorem ZG : I5 cfg := Uc (ks := kinds) (l := exts) rfl (by kernel_rfl) (by kernel_rfl) rfl rfl (by kernel_rfl) Xt
structure BZ where
 Cn : Int
 BV : Int
def O9 (x : BZ) : List AB := [.int .i64 x.Cn, .int .i64 x.BV]
structure AA where
 Key : List UInt8
 Value : List UInt8
def AJ (x : AA) : List AB := [.str x.Key, .str x.Value]
theorem AS : Md AJ 2 := ⟨fun _ => rfl, fun _ => rfl, fun _ => rfl⟩
structure AR where
 Name : List UInt8
 Az : List UInt8
 Kind : Int
 Mode : Int
 Br : Int
 CH : Int
 Ah : List UInt8
 Aj : List UInt8
 An : Int
 A2 : Int
 Time : BZ
 Extra : List AA
 Data : List UInt8
def AE (x : AR) : List AB := [.str x.Name, .str x.Az, .int .u8 x.Kind, .int .i64 x.Mode, .int .i64 x.Br, .int .i64 x.CH, .str x.Ah, .str x.Aj, .int .i64 x.An, .int .i64 x.A2, .int .i64 x.Time.Cn, .int .i64 x.Time.BV, vs AJ x.Extra, .str x.Data]
structure BM where
 Fw : Bool
 Gn : Bool
 D2 : Int
 Lr : Int
def Bq (x : BM) : List AB := [.bool x.Fw, .bool x.Gn, .int .i64 x.D2, .int .i64 x.Lr]
structure AK where
 Name : List UInt8
 Az : List UInt8
 Kind : Int
 Mode : Int
 Br : Int
 CH : Int
 Eu : Int
 Time : Int
 Ah : List UInt8
 Aj : List UInt8
 An : Int
 A2 : Int
 Form : Int
def AI (x : AK) : List AB := [.str x.Name, .str x.Az, .int .u8 x.Kind, .int .i64 x.Mode, .int .i64 x.Br, .int .i64 x.CH, .int .i64 x.Eu, .int .i64 x.Time, .str x.Ah, .str x.Aj, .int .i64 x.An, .int .i64 x.A2, .int .i64 x.Form]
structure Ak where
 from_ : Int
 D2 : Int
def Du (x : Ak) : List AB := [.int .i64 x.from_, .int .i64 x.D2]
theorem Dz : Md Du 2 := ⟨fun _ => rfl, fun _ => rfl, fun _ => rfl⟩
structure Gi where
 w0 : Ak
 w1 : Ak
 w2 : Ak
 w3 : Ak
 w4 : Ak
 w5 : Ak
 w6 : Ak
 w7 : Ak
 w8 : Ak
 w9 : Ak
 U5 : Ak
 U9 : Ak
def Lk (x : Gi) : List AB := [.int .i64 x.w0.from_, .int .i64 x.w0.D2, .int .i64 x.w1.from_, .int .i64 x.w1.D2, .int .i64 x.w2.from_, .int .i64 x.w2.D2, .int .i64 x.w3.from_, .int .i64 x.w3.D2, .int .i64 x.w4.from_, .int .i64 x.w4.D2, .int .i64 x.w5.from_, .int .i64 x.w5.D2, .int .i64 x.w6.from_, .int .i64 x.w6.D2, .int .i64 x.w7.from_, .int .i64 x.w7.D2, .int .i64 x.w8.from_, .int .i64 x.w8.D2, .int .i64 x.w9.from_, .int .i64 x.w9.D2, .int .i64 x.U5.from_, .int .i64 x.U5.D2, .int .i64 x.U9.from_, .int .i64 x.U9.D2]
structure WL where
 w0 : Int
 w1 : Int
abbrev DS (x : AR) (c2 : AB) : List AB := [.str x.Name, .str x.Az, c2, .int .i64 x.Mode, .int .i64 x.Br, .int .i64 x.CH, .str x.Ah, .str x.Aj, .int .i64 x.An, .int .i64 x.A2, .int .i64 x.Time.Cn, .int .i64 x.Time.BV, vs AJ x.Extra, .str x.Data]
end Go.Av.L
