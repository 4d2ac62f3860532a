/-
 A part.
-/
import Derived.Test.YtlljeoogceblmaaGreatDoorAvLib
import Derived.Test.YtlljeoogceblmaaGreatDoorAvMap
import Derived.Test.YtlljeoogceblmaaGreatDoorAvCo
import Derived.Test.YtlljeoogceblmaaGreatDoorAvKm
import Derived.Test.YtlljeoogceblmaaGreatDoorAvMw
import Derived.Test.YtlljeoogceblmaaGreatDoorAvFmt
import Derived.Test.YtlljeoogceblmaaGreatDoorAvTold
import Derived.Test.YtlljeoogceblmaaGreatDoorLay
import Derived.Test.YtlljeoogceblmaaGreatDoorProg
namespace Go.Av.L
open Go.Av Go.Lib
set_option linter.unusedSimpArgs false
set_option linter.unusedVariables false
abbrev UV := List UInt8
def kinds : List Nat := [0, 0, 0, 0, 0, 1, 0, 0, 0, 0, 0, 1, 1, 1, 1, 0, 1, 1, 1, 1, 1, 0, 0, 1, 1, 0, 1, 1, 10, 0, 0, 0, 0, 0, 0, 0, 0, 0, 0, 0, 0, 0, 0, 0, 1, 1, 1, 1, 1, 1, 1, 1, 1, 0, 1, 0, 1, 1, 1, 0, 0, 0, 0, 0, 1, 1, 1, 3, 0, 0, 10, 1, 1, 1, 1, 1, 0, 0, 0, 0, 0, 0, 3, 0, 0, 0, 0, 0, 0, 0, 0, 0, 0, 0, 0, 0, 1, 1, 1, 1, 1, 1, 1, 1, 1, 1, 1, 1, 1, 1, 1, 0, 1, 1, 1, 3, 0, 0, 0, 1, 1, 3, 1, 1, 1, 1, 1, 1, 1, 1, 1, 0, 0, 0, 1, 1, 1, 1, 0, 0, 0, 0, 0, 0, 0, 0, 0, 0, 0, 0, 0, 0, 0, 0, 0, 0, 0, 0, 0, 1, 1, 1, 1, 1, 1, 1, 0, 0, 0, 0, 0, 0, 0, 0, 0, 0, 1, 1, 0, 0, 0, 0, 0, 0, 0, 0, 0, 0, 0, 1, 1, 0, 0, 0, 0, 0, 0, 0, 0, 0, 0, 0, 0, 0, 0, 0, 1, 1, 0, 0, 0, 0, 0, 0, 0, 1, 0, 0, 0, 0, 0, 0, 0, 0, 3, 1, 0, 0, 0, 0, 0, 0, 0, 0, 0, 0, 0, 0, 0, 0, 0, 0, 1, 0, 0, 1, 3, 3, 0, 0, 0, 0, 0, 0, 0, 0, 0, 0, 0, 0, 0, 0, 0, 0, 0, 0, 0, 0, 0, 0, 0, 0, 0, 0, 0, 0, 0, 0, 0, 0, 0, 0, 0, 0, 0, 0, 0, 0, 0, 0, 0, 0, 0, 0, 0, 0, 0, 0, 0, 0, 0, 0, 0, 0, 0, 0]
def YB : List ((Nat × Nat) × List (Nat × List Nat)) := [((5, 10), [(0, []), (1, []), (2, []), (3, []), (4, []), (5, []), (11, []), (6, [11]), (7, []), (8, []), (9, []), (10, []), (12, []), (13, []), (14, [])]),
 ((23, 24), [(0, []), (1, []), (4, []), (5, []), (2, [5]), (3, []), (6, []), (7, [])]),
 ((48, 1), [(0, []), (1, []), (3, []), (4, []), (2, [4]), (5, []), (6, []), (7, []), (8, []), (10, []), (11, []), (9, [11]), (12, []), (13, []), (14, []), (15, []), (16, []), (18, []), (19, []), (17, [19]), (20, []), (21, []), (22, []), (23, []), (24, []), (26, []), (27, []), (25, [27]), (28, []), (29, []), (30, []), (31, []), (32, []), (33, []), (34, [])]),
 ((48, 7), [(0, []), (1, []), (2, []), (3, []), (4, []), (5, []), (6, []), (7, []), (8, []), (9, []), (10, []), (11, []), (12, []), (13, []), (14, []), (15, []), (16, []), (17, []), (18, []), (19, []), (20, []), (21, []), (22, []), (23, []), (24, []), (25, []), (26, []), (27, []), (28, [])]),
 ((50, 12), [(0, []), (1, []), (2, []), (3, []), (4, []), (8, []), (9, []), (10, []), (11, []), (12, []), (15, []), (16, []), (17, []), (18, []), (19, []), (5, [12, 19]), (6, [12, 19]), (7, []), (13, []), (14, []), (20, []), (21, []), (22, []), (23, [])]),
 ((51, 5), [(0, []), (2, []), (3, []), (6, []), (7, []), (10, []), (11, []), (14, []), (15, []), (18, []), (19, []), (23, []), (25, []), (26, []), (30, []), (31, []), (34, []), (35, []), (38, []), (39, []), (42, []), (43, []), (1, [3, 7, 11, 15, 19, 26, 31, 35, 39, 43]), (4, [7, 11, 15, 19, 26, 31, 35, 39, 43]), (5, []), (8, [11, 15, 19, 26, 31, 35, 39, 43]), (9, []), (12, [15, 19, 26, 31, 35, 39, 43]), (13, []), (16, [19, 26, 31, 35, 39, 43]), (17, []), (20, [26, 31, 35, 39, 43]), (21, []), (22, []), (24, []), (27, [31, 35, 39, 43]), (28, []), (29, []), (32, [35, 39, 43]), (33, []), (36, [39, 43]), (37, []), (40, [43]), (41, []), (44, []), (45, []), (46, []), (47, []), (48, []), (49, []), (50, []), (51, [])]),
 ((66, 13), [(0, []), (1, []), (2, [1]), (3, [])]),
 ((75, 4), [(0, []), (1, []), (2, []), (3, []), (4, []), (5, []), (6, []), (7, []), (8, []), (9, [])]),
 ((103, 12), [(0, []), (1, []), (2, []), (3, []), (4, []), (5, []), (6, []), (7, []), (8, []), (9, [])]),
 ((104, 6), [(0, []), (1, []), (2, []), (3, []), (4, []), (5, []), (6, []), (7, []), (8, []), (9, []), (10, []), (11, [])]),
 ((104, 9), [(0, []), (1, []), (2, []), (3, []), (4, []), (5, []), (6, []), (7, [])]),
 ((105, 4), [(0, []), (1, []), (2, []), (3, []), (4, []), (5, []), (6, []), (7, []), (8, []), (9, []), (10, []), (11, [])]),
 ((110, 8), [(0, []), (1, []), (2, []), (3, []), (4, []), (5, []), (6, []), (7, []), (8, [])]),
 ((135, 8), [(0, []), (1, []), (2, []), (3, []), (4, []), (5, []), (6, []), (7, []), (8, []), (9, [])]),
 ((159, 6), [(0, []), (1, []), (2, []), (3, []), (4, []), (5, []), (6, []), (7, []), (8, []), (9, []), (10, []), (11, []), (12, []), (13, []), (14, []), (15, []), (16, []), (17, []), (18, []), (19, []), (20, []), (21, []), (22, []), (23, []), (24, []), (25, []), (26, []), (27, []), (28, []), (29, []), (30, []), (31, [])])]
def OX : List (Nat × List Bool) := [(5, [true]), (11, [true]), (13, [true, false]), (14, [true, false]), (17, [false, true, false]), (23, [false, true, true]), (26, [true, false]), (27, [true, false]), (28, [true]), (44, [true]), (45, [true, false]), (48, [true]), (49, [true, false]), (51, [true]), (65, [true, false]), (66, [true, false]), (70, [true]), (71, [true]), (73, [true]), (96, [true]), (100, [true]), (104, [false, true]), (107, [true]), (125, [true]), (159, [true]), (160, [true]), (161, [true]), (162, [true]), (176, [true])]
def Zs : List (Nat × List AB) := [(0, []),
 (1, [.int .u64 1, .int .u64 10, .int .u64 100, .int .u64 1000, .int .u64 10000, .int .u64 100000, .int .u64 1000000, .int .u64 10000000, .int .u64 100000000, .int .u64 1000000000, .int .u64 10000000000, .int .u64 100000000000, .int .u64 1000000000000, .int .u64 10000000000000, .int .u64 100000000000000, .int .u64 1000000000000000, .int .u64 10000000000000000, .int .u64 100000000000000000, .int .u64 1000000000000000000, .int .u64 10000000000000000000]),
 (2, [.int .u8 0, .int .u8 1, .int .u8 28, .int .u8 2, .int .u8 29, .int .u8 14, .int .u8 24, .int .u8 3, .int .u8 30, .int .u8 22, .int .u8 20, .int .u8 15, .int .u8 25, .int .u8 17, .int .u8 4, .int .u8 8, .int .u8 31, .int .u8 27, .int .u8 13, .int .u8 23, .int .u8 21, .int .u8 19, .int .u8 16, .int .u8 7, .int .u8 26, .int .u8 12, .int .u8 18, .int .u8 6, .int .u8 11, .int .u8 5, .int .u8 10, .int .u8 9]),
 (3, [.int .u8 0, .int .u8 1, .int .u8 56, .int .u8 2, .int .u8 57, .int .u8 49, .int .u8 28, .int .u8 3, .int .u8 61, .int .u8 58, .int .u8 42, .int .u8 50, .int .u8 38, .int .u8 29, .int .u8 17, .int .u8 4, .int .u8 62, .int .u8 47, .int .u8 59, .int .u8 36, .int .u8 45, .int .u8 43, .int .u8 51, .int .u8 22, .int .u8 53, .int .u8 39, .int .u8 33, .int .u8 30, .int .u8 24, .int .u8 18, .int .u8 12, .int .u8 5, .int .u8 63, .int .u8 55, .int .u8 48, .int .u8 27, .int .u8 60, .int .u8 41, .int .u8 37, .int .u8 16, .int .u8 46, .int .u8 35, .int .u8 44, .int .u8 21, .int .u8 52, .int .u8 32, .int .u8 23, .int .u8 11, .int .u8 54, .int .u8 26, .int .u8 40, .int .u8 15, .int .u8 34, .int .u8 20, .int .u8 31, .int .u8 10, .int .u8 25, .int .u8 14, .int .u8 19, .int .u8 9, .int .u8 13, .int .u8 8, .int .u8 7, .int .u8 6])]
def exts : List (Nat × Nat × Nat × Nat) := [(67, 11, 68, 0), (82, 33, 0, 2), (115, 7, 0, 0), (121, 12, 0, 0), (224, 1, 0, 0), (246, 13, 0, 0), (247, 14, 0, 0)]
def aW : XM := [LT.YG]
def Yk : List (Nat × Nat × List Nat × List Nat × Option Nat) := [(28, 0, [26, 5, 1], [], some 5), (28, 2, [42, 5, 1], [], some 5), (70, 2, [37, 1, 6], [], none), (70, 4, [57], [2], none)]
noncomputable def cfg : Fi := { P := Go.Proofs.Tryz.prog, kind := P2 kinds, K6 := OS YB, ext := Ml Go.Proofs.Tryz.prog aW exts, CX := KX Zs, Z3 := Vn Go.Proofs.Tryz.prog (OS YB), still := YK OX, Vq := V7 Yk, dec := QM }
set_option maxHeartbeats 1000000 in
theorem XA (a b : It) (W : World) : Calls Go.Proofs.Tryz.prog 68 #[.agg #[.string ⟨⟨a.1⟩⟩, .string ⟨⟨a.2⟩⟩], .agg #[.string ⟨⟨b.1⟩⟩, .string ⟨⟨b.2⟩⟩]] W fun e w' => e = .returned (.int .i64 (compareBytes a.1 b.1)) ∧ ∃ q os', w' = Go.Sort.grow (W.drewN q) os' := by
 have hcon := fun W' => Go.Proofs.Any.strings_Compare Go.Proofs.Tryz.Yp ⟨⟨a.1⟩⟩ ⟨⟨b.1⟩⟩ W'
 change ∀ W', Calls Go.Proofs.Tryz.prog 69 _ _ _ at hcon
 simp only [] at hcon
 generalize compareBytes a.1 b.1 = r at hcon ⊢
 go_enter Go.Proofs.Tryz.func68, Go.Proofs.Tryz.ntmps68
 go_wp2_with (go_at_call 69; refine (hcon _).mono ?_; rintro e w' ⟨rfl, rfl⟩)
 go_ret
 exact ⟨rfl, 0, _, by rw [Go.Sort.alloc_eq_grow, Go.Sort.alloc_eq_grow, Go.Sort.grow_grow]; rfl⟩
theorem W0 : Go.Proofs.Builder.Extra cfg.P Go.Proofs.Tryz.OO where
 sizeBuilder := by kernel_rfl
 liesBuilder := by kernel_rfl
 t5 := Go.Proofs.Tryz.On.t5
 a5 := Go.Proofs.Tryz.On.a5
 z5 := Go.Proofs.Tryz.On.z5
 v5 := Go.Proofs.Tryz.On.v5
 infoByte := by kernel_rfl
 cellsByte := by kernel_rfl
 sizeByte := by kernel_rfl
 neB5 := by decide
theorem W7 : ∀ p ∈ exts, Ew cfg.P cfg.CX p.1 (Wk cfg.P aW p.2) := by
 intro p hp
 simp only [exts, List.mem_cons, List.not_mem_nil, or_false] at hp
 rcases hp with rfl | rfl | rfl | rfl | rfl | rfl | rfl
 ·exact WD Go.Proofs.Tryz.XD (fun w => by kernel_rfl) (fun w => by kernel_rfl) (UR Go.Proofs.Tryz.func68 (by kernel_rfl) rfl) XA _
 ·exact LT.Zb
 ·exact UT Go.Proofs.Tryz.On W0 _
 ·exact XC Go.Proofs.Tryz.XG (gn := 1) (by kernel_rfl) (by kernel_rfl)
 ·exact Ym _ (by kernel_rfl) (fun fn h => by
   obtain rfl := Option.some.inj (Go.Proofs.Tryz.func224.symm.trans h)
   exact ⟨by kernel_rfl, by kernel_rfl⟩)
 ·exact YW Go.Proofs.Tryz.YQ (gn := 1) (by kernel_rfl) (by kernel_rfl)
 ·exact Yu Go.Proofs.Tryz.Yd _
theorem Y3 : I4 cfg := UW (ks := kinds) (l := exts) rfl (by kernel_rfl) (by kernel_rfl) rfl rfl (by kernel_rfl) W7
structure BS where
 Ci : Int
 BQ : Int
def O9 (x : BS) : List AB := [.int .i64 x.Ci, .int .i64 x.BQ]
structure AA where
 Key : List UInt8
 Value : List UInt8
def AI (x : AA) : List AB := [.str x.Key, .str x.Value]
theorem AY : MU AI 2 := ⟨fun _ => rfl, fun _ => rfl, fun _ => rfl⟩
structure AS where
 Name : List UInt8
 Ax : List UInt8
 Kind : Int
 Mode : Int
 Bm : Int
 B3 : Int
 Aj : List UInt8
 Al : List UInt8
 Ap : Int
 Ay : Int
 Time : BS
 Extra : List AA
 Data : List UInt8
def AE (x : AS) : List AB := [.str x.Name, .str x.Ax, .int .u8 x.Kind, .int .i64 x.Mode, .int .i64 x.Bm, .int .i64 x.B3, .str x.Aj, .str x.Al, .int .i64 x.Ap, .int .i64 x.Ay, .int .i64 x.Time.Ci, .int .i64 x.Time.BQ, vs AI x.Extra, .str x.Data]
structure Bn where
 Kind : Int
 N : Int
 M : AS
 S : List UInt8
def AO (x : Bn) : List AB := [.int .i64 x.Kind, .int .i64 x.N, .str x.M.Name, .str x.M.Ax, .int .u8 x.M.Kind, .int .i64 x.M.Mode, .int .i64 x.M.Bm, .int .i64 x.M.B3, .str x.M.Aj, .str x.M.Al, .int .i64 x.M.Ap, .int .i64 x.M.Ay, .int .i64 x.M.Time.Ci, .int .i64 x.M.Time.BQ, vs AI x.M.Extra, .str x.M.Data, .str x.S]
theorem EB : MU AO 17 := ⟨fun _ => rfl, fun _ => rfl, fun _ => rfl⟩
structure Ar where
 EL : Bool
 Ed : Bool
 DF : Int
 IC : Int
def A2 (x : Ar) : List AB := [.bool x.EL, .bool x.Ed, .int .i64 x.DF, .int .i64 x.IC]
structure BD where
 EW : Bool
 Closed : Bool
 DE : Int
 Left : Int
def AK (x : BD) : List AB := [.bool x.EW, .bool x.Closed, .int .i64 x.DE, .int .i64 x.Left]
structure AN where
 Name : List UInt8
 Ax : List UInt8
 Kind : Int
 Mode : Int
 Bm : Int
 B3 : Int
 DE : Int
 Time : Int
 Aj : List UInt8
 Al : List UInt8
 Ap : Int
 Ay : Int
 Form : Int
def AJ (x : AN) : List AB := [.str x.Name, .str x.Ax, .int .u8 x.Kind, .int .i64 x.Mode, .int .i64 x.Bm, .int .i64 x.B3, .int .i64 x.DE, .int .i64 x.Time, .str x.Aj, .str x.Al, .int .i64 x.Ap, .int .i64 x.Ay, .int .i64 x.Form]
structure Am where
 from_ : Int
 DF : Int
def Dq (x : Am) : List AB := [.int .i64 x.from_, .int .i64 x.DF]
theorem D2 : MU Dq 2 := ⟨fun _ => rfl, fun _ => rfl, fun _ => rfl⟩
structure Gn where
 w0 : Am
 w1 : Am
 w2 : Am
 w3 : Am
 w4 : Am
 w5 : Am
 w6 : Am
 w7 : Am
 w8 : Am
 w9 : Am
 Up : Am
 Uv : Am
def LU (x : Gn) : List AB := [.int .i64 x.w0.from_, .int .i64 x.w0.DF, .int .i64 x.w1.from_, .int .i64 x.w1.DF, .int .i64 x.w2.from_, .int .i64 x.w2.DF, .int .i64 x.w3.from_, .int .i64 x.w3.DF, .int .i64 x.w4.from_, .int .i64 x.w4.DF, .int .i64 x.w5.from_, .int .i64 x.w5.DF, .int .i64 x.w6.from_, .int .i64 x.w6.DF, .int .i64 x.w7.from_, .int .i64 x.w7.DF, .int .i64 x.w8.from_, .int .i64 x.w8.DF, .int .i64 x.w9.from_, .int .i64 x.w9.DF, .int .i64 x.Up.from_, .int .i64 x.Up.DF, .int .i64 x.Uv.from_, .int .i64 x.Uv.DF]
structure WY where
 w0 : Int
 w1 : Int
abbrev DQ (x : AS) (c2 : AB) : List AB := [.str x.Name, .str x.Ax, c2, .int .i64 x.Mode, .int .i64 x.Bm, .int .i64 x.B3, .str x.Aj, .str x.Al, .int .i64 x.Ap, .int .i64 x.Ay, .int .i64 x.Time.Ci, .int .i64 x.Time.BQ, vs AI x.Extra, .str x.Data]
abbrev Ea (x : BD) (c3 : AB) : List AB := [.bool x.EW, .bool x.Closed, .int .i64 x.DE, c3]
end Go.Av.L
