/-
 A part.
-/
import Derived.Test.YtlljeoogceblmaaGreatDoorAvLib
import Derived.Test.YtlljeoogceblmaaGreatDoorAvMap
import Derived.Test.YtlljeoogceblmaaGreatDoorAvTail
import Derived.Test.YtlljeoogceblmaaGreatDoorAvCo
import Derived.Test.YtlljeoogceblmaaGreatDoorAvHq
import Derived.Test.YtlljeoogceblmaaGreatDoorAvKm
import Derived.Test.YtlljeoogceblmaaGreatDoorAvWalk
import Derived.Test.YtlljeoogceblmaaGreatDoorAvMw
import Derived.Test.YtlljeoogceblmaaGreatDoorAvTold
import Derived.Test.YtlljeoogceblmaaGreatDoorLay
import Derived.Test.YtlljeoogceblmaaGreatDoorProg
namespace Go.Av.L
open Go.Av Go.Lib
set_option linter.unusedSimpArgs false
set_option linter.unusedVariables false
def kinds : List Nat := [0, 0, 0, 0, 0, 0, 1, 0, 0, 0, 0, 1, 0, 0, 0, 0, 0, 0, 0, 0, 0, 0, 0, 0, 0, 1, 1, 1, 10, 1, 7, 11, 1, 0, 0, 0, 0, 0, 0, 0, 0, 0, 0, 0, 1, 0, 0, 0, 0, 0, 0, 0, 0, 0, 0, 0, 0, 0, 0, 0, 0, 0, 0, 0, 0, 1, 1, 3, 0, 0, 10, 1, 1, 1, 1, 1, 1, 1, 1, 1, 1, 1, 3, 3, 1, 1, 0, 0, 0, 0, 0, 0, 0, 0, 0, 0, 1, 0, 0, 0, 0, 0, 0, 0, 0, 0, 0, 0, 0, 0, 0, 0, 0, 0, 0, 0, 0, 0, 0, 1, 1, 3, 1, 1, 1, 1, 1, 1, 1, 1, 1, 0, 0, 0, 1, 1, 1, 1, 1, 3, 0, 0, 1, 1, 0, 0, 0, 0, 0, 0, 0, 0, 0, 0, 0, 0, 0, 0, 0, 1, 1, 0, 0, 0, 0, 0, 0, 0, 0, 0, 0, 0, 0, 0, 0, 0, 1, 1, 0, 0, 0, 0, 0, 0, 0, 0, 0, 0, 0, 1, 1, 1, 1, 0, 1, 1, 1, 1, 0, 0, 0, 0, 0, 0, 0, 0, 0, 0, 0, 0, 1, 0, 0, 0, 0, 1, 0, 0, 0, 0, 0, 0, 0, 0, 3, 1, 0, 1, 0, 0, 0, 0, 0, 0, 0, 0, 0, 0, 0, 0, 0, 0, 0, 0, 0, 0, 0, 0, 0, 0, 0, 0, 0, 0, 0, 0, 0, 0, 0, 0, 0, 0, 0, 0, 0, 0, 0, 0, 0, 0, 0, 0, 0, 0, 0, 0, 0, 0, 0, 0, 0, 0, 0, 0, 0, 0, 0, 0, 0, 0, 0, 0, 0, 0, 0, 0, 0, 0, 0, 0, 0, 0, 0, 0, 0, 0]
def Xr : List ((Nat × Nat) × List (Nat × List Nat)) := [((6, 11), [(0, []), (1, []), (8, []), (2, [0, 8]), (3, [8]), (4, []), (5, []), (6, []), (7, []), (9, []), (10, []), (11, [])]),
 ((29, 17), [(0, []), (3, []), (4, []), (1, [4]), (2, [4]), (5, []), (6, []), (7, [])]),
 ((30, 14), [(0, []), (1, []), (2, [1]), (3, []), (4, [])]),
 ((66, 13), [(0, []), (1, []), (2, [1]), (3, [])]),
 ((75, 4), [(0, []), (1, []), (2, []), (3, []), (4, []), (5, []), (6, []), (7, []), (8, []), (9, [])]),
 ((85, 6), [(0, []), (1, []), (2, []), (3, []), (4, []), (5, []), (6, []), (7, []), (8, [])]),
 ((135, 8), [(0, []), (1, []), (2, []), (3, []), (4, []), (5, []), (6, []), (7, []), (8, []), (9, [])]),
 ((159, 6), [(0, []), (1, []), (2, []), (3, []), (4, []), (5, []), (6, []), (7, []), (8, []), (9, []), (10, []), (11, []), (12, []), (13, []), (14, []), (15, []), (16, []), (17, []), (18, []), (19, []), (20, []), (21, []), (22, []), (23, []), (24, []), (25, []), (26, []), (27, []), (28, []), (29, []), (30, []), (31, [])])]
def OK : List (Nat × List Bool) := [(6, [true, false]), (11, [true]), (26, [true, false]), (27, [true, false]), (28, [true]), (30, [true, false]), (32, [true, true]), (44, [true]), (65, [true, false]), (66, [true, false]), (70, [true]), (71, [true]), (73, [true]), (85, [true, true]), (96, [true]), (125, [true]), (159, [true]), (160, [true]), (176, [true])]
def Zd : List (Nat × List AA) := [(0, []),
 (1, [.int .u64 1, .int .u64 10, .int .u64 100, .int .u64 1000, .int .u64 10000, .int .u64 100000, .int .u64 1000000, .int .u64 10000000, .int .u64 100000000, .int .u64 1000000000, .int .u64 10000000000, .int .u64 100000000000, .int .u64 1000000000000, .int .u64 10000000000000, .int .u64 100000000000000, .int .u64 1000000000000000, .int .u64 10000000000000000, .int .u64 100000000000000000, .int .u64 1000000000000000000, .int .u64 10000000000000000000]),
 (2, [.int .u8 0, .int .u8 1, .int .u8 28, .int .u8 2, .int .u8 29, .int .u8 14, .int .u8 24, .int .u8 3, .int .u8 30, .int .u8 22, .int .u8 20, .int .u8 15, .int .u8 25, .int .u8 17, .int .u8 4, .int .u8 8, .int .u8 31, .int .u8 27, .int .u8 13, .int .u8 23, .int .u8 21, .int .u8 19, .int .u8 16, .int .u8 7, .int .u8 26, .int .u8 12, .int .u8 18, .int .u8 6, .int .u8 11, .int .u8 5, .int .u8 10, .int .u8 9]),
 (3, [.int .u8 0, .int .u8 1, .int .u8 56, .int .u8 2, .int .u8 57, .int .u8 49, .int .u8 28, .int .u8 3, .int .u8 61, .int .u8 58, .int .u8 42, .int .u8 50, .int .u8 38, .int .u8 29, .int .u8 17, .int .u8 4, .int .u8 62, .int .u8 47, .int .u8 59, .int .u8 36, .int .u8 45, .int .u8 43, .int .u8 51, .int .u8 22, .int .u8 53, .int .u8 39, .int .u8 33, .int .u8 30, .int .u8 24, .int .u8 18, .int .u8 12, .int .u8 5, .int .u8 63, .int .u8 55, .int .u8 48, .int .u8 27, .int .u8 60, .int .u8 41, .int .u8 37, .int .u8 16, .int .u8 46, .int .u8 35, .int .u8 44, .int .u8 21, .int .u8 52, .int .u8 32, .int .u8 23, .int .u8 11, .int .u8 54, .int .u8 26, .int .u8 40, .int .u8 15, .int .u8 34, .int .u8 20, .int .u8 31, .int .u8 10, .int .u8 25, .int .u8 14, .int .u8 19, .int .u8 9, .int .u8 13, .int .u8 8, .int .u8 7, .int .u8 6])]
def exts : List (Nat × Nat × Nat × Nat) := [(67, 11, 68, 0), (82, 33, 0, 2), (83, 2, 146, 9), (121, 12, 0, 0), (139, 8, 0, 0), (224, 1, 0, 0)]
def bT : Xx := [LT.Xo]
def YA : List (Nat × Nat × List Nat × List Nat × Option Nat) := [(28, 0, [26, 5, 1], [], some 5), (28, 2, [42, 5, 1], [], some 5), (70, 2, [37, 1, 6], [], none), (70, 4, [57], [2], none)]
noncomputable def cfg : FY := { P := Go.Proofs.Tryz.prog, kind := Ph kinds, KU := OY Xr, ext := M5 Go.Proofs.Tryz.prog bT exts, Bt := Jp Zd, Xq := V7 Go.Proofs.Tryz.prog (OY Xr), still := Xz OK, VH := Wh YA, dec := Qj }
set_option maxHeartbeats 1000000 in
theorem XR (a b : IF) (W : World) : Calls Go.Proofs.Tryz.prog 68 #[.agg #[.string ⟨⟨a.1⟩⟩, .string ⟨⟨a.2⟩⟩], .agg #[.string ⟨⟨b.1⟩⟩, .string ⟨⟨b.2⟩⟩]] W fun e w' => e = .returned (.int .i64 (compareBytes a.1 b.1)) ∧ ∃ q os', w' = Go.Sort.grow (W.drewN q) os' := by
 have hcon := fun W' => Go.Proofs.Any.strings_Compare Go.Proofs.Tryz.Ya ⟨⟨a.1⟩⟩ ⟨⟨b.1⟩⟩ W'
 change ∀ W', Calls Go.Proofs.Tryz.prog 69 _ _ _ at hcon
 simp only [] at hcon
 generalize compareBytes a.1 b.1 = r at hcon ⊢
 go_enter Go.Proofs.Tryz.func68, Go.Proofs.Tryz.ntmps68
 go_wp2_with (go_at_call 69; refine (hcon _).mono ?_; rintro e w' ⟨rfl, rfl⟩)
 go_ret
 exact ⟨rfl, 0, _, by rw [Go.Sort.alloc_eq_grow, Go.Sort.alloc_eq_grow, Go.Sort.grow_grow]; rfl⟩
theorem W5 : ∀ p ∈ exts, Er cfg.P cfg.Bt p.1 (U3 cfg.P bT p.2) := by
 intro p hp
 simp only [exts, List.mem_cons, List.not_mem_nil, or_false] at hp
 rcases hp with rfl | rfl | rfl | rfl | rfl | rfl
 ·exact V9 Go.Proofs.Tryz.XZ (fun w => by kernel_rfl) (fun w => by kernel_rfl) (Ud Go.Proofs.Tryz.func68 (by kernel_rfl) rfl) XR _
 ·exact LT.Zg
 ·exact UG Go.Proofs.Tryz.Vh Go.Proofs.Tryz.Yi Go.Proofs.Tryz.W3 rfl rfl (by kernel_rfl) _
 ·exact Wz Go.Proofs.Tryz.XG (gn := 1) (by kernel_rfl) (by kernel_rfl)
 ·exact YD Go.Proofs.Tryz.YV (by kernel_rfl)
 ·exact Se _ (by kernel_rfl) (fun fn h => by
   obtain rfl := Option.some.inj (Go.Proofs.Tryz.func224.symm.trans h)
   exact ⟨by kernel_rfl, by kernel_rfl⟩)
theorem Yb : GV cfg := UW (ks := kinds) (l := exts) rfl (by kernel_rfl) (by kernel_rfl) rfl rfl (by kernel_rfl) W5
structure Ac where
 B6 : Int
 BA : Int
def On (x : Ac) : List AA := [.int .i64 x.B6, .int .i64 x.BA]
structure AB where
 Key : List UInt8
 Value : List UInt8
def AE (x : AB) : List AA := [.str x.Key, .str x.Value]
theorem Am : LB AE 2 := ⟨fun _ => rfl, fun _ => rfl, fun _ => rfl⟩
structure AL where
 Name : List UInt8
 AU : List UInt8
 Kind : Int
 Mode : Int
 BP : Int
 BQ : Int
 AN : List UInt8
 AO : List UInt8
 Aa : Int
 Ag : Int
 Time : Ac
 Extra : List AB
 Data : List UInt8
def AI (x : AL) : List AA := [.str x.Name, .str x.AU, .int .u8 x.Kind, .int .i64 x.Mode, .int .i64 x.BP, .int .i64 x.BQ, .str x.AN, .str x.AO, .int .i64 x.Aa, .int .i64 x.Ag, .int .i64 x.Time.B6, .int .i64 x.Time.BA, vs AE x.Extra, .str x.Data]
structure AJ where
 Name : List UInt8
 AU : List UInt8
 Kind : Int
 Mode : Int
 BP : Int
 BQ : Int
 BU : Int
 Time : Int
 AN : List UInt8
 AO : List UInt8
 Aa : Int
 Ag : Int
 Form : Int
def AF (x : AJ) : List AA := [.str x.Name, .str x.AU, .int .u8 x.Kind, .int .i64 x.Mode, .int .i64 x.BP, .int .i64 x.BQ, .int .i64 x.BU, .int .i64 x.Time, .str x.AN, .str x.AO, .int .i64 x.Aa, .int .i64 x.Ag, .int .i64 x.Form]
structure Aj where
 from_ : Int
 Dq : Int
def Cp (x : Aj) : List AA := [.int .i64 x.from_, .int .i64 x.Dq]
theorem Cn : LB Cp 2 := ⟨fun _ => rfl, fun _ => rfl, fun _ => rfl⟩
structure GB where
 w0 : Aj
 w1 : Aj
 w2 : Aj
 w3 : Aj
 w4 : Aj
 w5 : Aj
 w6 : Aj
 w7 : Aj
 w8 : Aj
 w9 : Aj
 Tb : Aj
 TM : Aj
def K3 (x : GB) : List AA := [.int .i64 x.w0.from_, .int .i64 x.w0.Dq, .int .i64 x.w1.from_, .int .i64 x.w1.Dq, .int .i64 x.w2.from_, .int .i64 x.w2.Dq, .int .i64 x.w3.from_, .int .i64 x.w3.Dq, .int .i64 x.w4.from_, .int .i64 x.w4.Dq, .int .i64 x.w5.from_, .int .i64 x.w5.Dq, .int .i64 x.w6.from_, .int .i64 x.w6.Dq, .int .i64 x.w7.from_, .int .i64 x.w7.Dq, .int .i64 x.w8.from_, .int .i64 x.w8.Dq, .int .i64 x.w9.from_, .int .i64 x.w9.Dq, .int .i64 x.Tb.from_, .int .i64 x.Tb.Dq, .int .i64 x.TM.from_, .int .i64 x.TM.Dq]
structure Sk where
 w0 : Int
 w1 : Int
abbrev Jh (x : AJ) (c0 c1 : AA) : List AA := [c0, c1, .int .u8 x.Kind, .int .i64 x.Mode, .int .i64 x.BP, .int .i64 x.BQ, .int .i64 x.BU, .int .i64 x.Time, .str x.AN, .str x.AO, .int .i64 x.Aa, .int .i64 x.Ag, .int .i64 x.Form]
abbrev Ar (x : AL) (c12 : AA) : List AA := [.str x.Name, .str x.AU, .int .u8 x.Kind, .int .i64 x.Mode, .int .i64 x.BP, .int .i64 x.BQ, .str x.AN, .str x.AO, .int .i64 x.Aa, .int .i64 x.Ag, .int .i64 x.Time.B6, .int .i64 x.Time.BA, c12, .str x.Data]
abbrev Oa (x : AL) (c2 : AA) : List AA := [.str x.Name, .str x.AU, c2, .int .i64 x.Mode, .int .i64 x.BP, .int .i64 x.BQ, .str x.AN, .str x.AO, .int .i64 x.Aa, .int .i64 x.Ag, .int .i64 x.Time.B6, .int .i64 x.Time.BA, vs AE x.Extra, .str x.Data]
abbrev Fg (x : AL) (c2 c13 : AA) : List AA := [.str x.Name, .str x.AU, c2, .int .i64 x.Mode, .int .i64 x.BP, .int .i64 x.BQ, .str x.AN, .str x.AO, .int .i64 x.Aa, .int .i64 x.Ag, .int .i64 x.Time.B6, .int .i64 x.Time.BA, vs AE x.Extra, c13]
end Go.Av.L
