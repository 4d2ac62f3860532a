/-
 A part.
-/
import Derived.Test.YtlljeoogceblmaaGreatDoorAvLib
import Derived.Test.YtlljeoogceblmaaGreatDoorAvMap
import Derived.Test.YtlljeoogceblmaaGreatDoorAvChan
import Derived.Test.YtlljeoogceblmaaGreatDoorAvTail
import Derived.Test.YtlljeoogceblmaaGreatDoorAvCo
import Derived.Test.YtlljeoogceblmaaGreatDoorAvHq
import Derived.Test.YtlljeoogceblmaaGreatDoorAvKm
import Derived.Test.YtlljeoogceblmaaGreatDoorAvMw
import Derived.Test.YtlljeoogceblmaaGreatDoorAvItoa
import Derived.Shelf.Strconv.Itoa1
import Derived.Shelf.Strconv.Itoa2
import Derived.Test.YtlljeoogceblmaaGreatDoorAvTold
import Derived.Test.YtlljeoogceblmaaGreatDoorKL
import Derived.Test.YtlljeoogceblmaaGreatDoorLay
import Derived.Test.YtlljeoogceblmaaGreatDoorProg
namespace Go.Av.L
open Go.Av Go.Lib
set_option linter.unusedSimpArgs false
set_option linter.unusedVariables false
abbrev UV := List UInt8
def kinds : List Nat := [0, 0, 0, 0, 0, 0, 0, 0, 0, 1, 0, 0, 0, 1, 0, 0, 1, 1, 1, 1, 1, 0, 0, 0, 0, 0, 1, 1, 10, 1, 7, 1, 0, 0, 0, 0, 0, 1, 1, 1, 0, 0, 0, 0, 0, 1, 1, 1, 0, 0, 0, 0, 0, 0, 0, 0, 0, 1, 1, 0, 0, 0, 0, 0, 0, 1, 1, 3, 0, 0, 10, 1, 1, 1, 1, 1, 1, 1, 1, 1, 1, 1, 3, 3, 1, 0, 0, 1, 11, 0, 1, 1, 0, 0, 0, 0, 1, 1, 1, 1, 0, 0, 0, 0, 0, 0, 0, 0, 0, 0, 0, 0, 0, 1, 1, 3, 0, 0, 0, 1, 1, 3, 1, 1, 1, 1, 1, 1, 1, 1, 1, 0, 0, 0, 1, 1, 1, 1, 1, 3, 0, 0, 0, 0, 0, 0, 0, 0, 1, 8, 1, 1, 1, 1, 1, 0, 0, 0, 0, 1, 1, 0, 0, 0, 0, 0, 0, 0, 0, 0, 0, 0, 0, 0, 0, 0, 0, 0, 0, 0, 0, 0, 0, 0, 0, 0, 0, 0, 0, 1, 0, 0, 1, 0, 0, 0, 0, 0, 0, 0, 1, 1, 1, 0, 8, 1, 0, 0, 0, 0, 0, 0, 0, 0, 0, 0, 0, 0, 0, 0, 0, 0, 0, 0, 3, 0, 0, 0, 0, 0, 0, 0, 0, 0, 0, 0, 0, 1, 1, 0, 1, 0, 0, 0, 0, 0, 0, 0, 0, 0, 0, 0, 0, 0, 0, 0, 0, 0, 0, 0, 0, 1, 1, 0, 0, 0, 0, 0, 0, 0, 0, 0, 0, 0, 0, 0, 0, 0, 0, 0, 0, 0, 0, 0, 0, 0, 0, 0, 0, 0, 0, 0, 0, 0, 0, 0, 0, 0, 0, 0, 0, 0, 0, 0, 0, 0]
def V5 : List ((Nat × Nat) × List (Nat × List Nat)) := [((29, 17), [(0, []), (3, []), (4, []), (1, [4]), (2, [4]), (5, []), (6, []), (7, [])]),
 ((30, 14), [(0, []), (1, []), (2, [1]), (3, []), (4, [])]),
 ((66, 13), [(0, []), (1, []), (2, [1]), (3, [])]),
 ((75, 4), [(0, []), (1, []), (2, []), (3, []), (4, []), (5, []), (6, []), (7, []), (8, []), (9, [])]),
 ((87, 3), [(0, []), (1, [0]), (2, []), (3, []), (4, []), (5, [])]),
 ((88, 4), [(0, []), (1, []), (2, []), (3, []), (4, []), (5, []), (6, []), (7, [])]),
 ((88, 8), [(0, []), (1, []), (2, []), (3, []), (4, []), (5, []), (6, []), (7, []), (8, [3]), (9, [])]),
 ((88, 9), [(0, []), (1, []), (2, []), (3, []), (4, []), (5, []), (6, [])]),
 ((91, 1), [(0, []), (1, []), (2, []), (3, []), (4, []), (5, []), (6, []), (7, []), (8, []), (9, [])]),
 ((135, 8), [(0, []), (1, []), (2, []), (3, []), (4, []), (5, []), (6, []), (7, []), (8, []), (9, [])]),
 ((150, 3), [(0, []), (1, []), (2, []), (3, []), (4, []), (5, []), (6, []), (7, []), (8, []), (9, []), (10, []), (11, []), (12, []), (13, []), (14, []), (15, [4]), (16, []), (17, []), (18, []), (19, [])]),
 ((150, 10), [(0, []), (1, []), (2, []), (3, []), (4, []), (5, []), (6, []), (7, []), (8, []), (9, [])]),
 ((150, 19), [(0, []), (1, []), (2, []), (3, []), (4, []), (5, []), (6, []), (7, []), (8, []), (9, [])]),
 ((150, 28), [(0, []), (1, []), (2, []), (3, []), (4, []), (5, []), (6, []), (7, []), (8, []), (9, []), (10, []), (11, []), (12, [3]), (13, []), (14, []), (15, []), (16, []), (17, [])]),
 ((154, 7), [(0, []), (1, []), (2, []), (3, []), (4, []), (5, []), (6, []), (7, []), (8, []), (9, []), (10, []), (11, []), (12, [])]),
 ((159, 6), [(0, []), (1, []), (2, []), (3, []), (4, []), (5, []), (6, []), (7, []), (8, []), (9, []), (10, []), (11, []), (12, []), (13, []), (14, []), (15, []), (16, []), (17, []), (18, []), (19, []), (20, []), (21, []), (22, []), (23, []), (24, []), (25, []), (26, []), (27, []), (28, []), (29, []), (30, []), (31, [])]),
 ((240, 1), [(0, []), (1, []), (2, []), (3, []), (4, []), (5, []), (6, []), (7, []), (8, []), (14, []), (9, [14]), (10, []), (11, []), (12, []), (13, []), (15, []), (16, []), (17, [])]),
 ((240, 6), [(0, []), (1, []), (2, []), (3, []), (4, []), (5, []), (6, []), (7, []), (8, []), (9, []), (10, []), (11, []), (12, []), (13, []), (14, []), (15, []), (16, []), (17, []), (18, []), (19, []), (20, []), (21, []), (22, []), (23, []), (24, []), (25, []), (26, [])]),
 ((261, 5), [(0, []), (1, []), (2, []), (3, []), (10, []), (4, [0, 10]), (5, [10]), (6, []), (7, []), (8, []), (9, []), (11, []), (12, []), (13, [])]),
 ((261, 10), [(0, []), (1, []), (2, []), (3, [0]), (4, []), (5, []), (6, [])])]
def N4 : List (Nat × List Bool) := [(13, [true, false]), (17, [false, true, false]), (26, [true, false]), (27, [true, false]), (28, [true]), (30, [true, false]), (31, [true, true]), (38, [false, true]), (45, [true, false]), (65, [true, false]), (66, [true, false]), (70, [true]), (71, [true]), (73, [true]), (87, [true]), (96, [true]), (125, [true]), (149, [false, true]), (159, [true]), (160, [true]), (238, [true]), (240, [false, false, true]), (261, [true, true, true]), (262, [true, false])]
def YS : List (Nat × List AB) := [(0, []),
 (1, [.int .u64 1, .int .u64 10, .int .u64 100, .int .u64 1000, .int .u64 10000, .int .u64 100000, .int .u64 1000000, .int .u64 10000000, .int .u64 100000000, .int .u64 1000000000, .int .u64 10000000000, .int .u64 100000000000, .int .u64 1000000000000, .int .u64 10000000000000, .int .u64 100000000000000, .int .u64 1000000000000000, .int .u64 10000000000000000, .int .u64 100000000000000000, .int .u64 1000000000000000000, .int .u64 10000000000000000000]),
 (2, [.int .u8 0, .int .u8 1, .int .u8 28, .int .u8 2, .int .u8 29, .int .u8 14, .int .u8 24, .int .u8 3, .int .u8 30, .int .u8 22, .int .u8 20, .int .u8 15, .int .u8 25, .int .u8 17, .int .u8 4, .int .u8 8, .int .u8 31, .int .u8 27, .int .u8 13, .int .u8 23, .int .u8 21, .int .u8 19, .int .u8 16, .int .u8 7, .int .u8 26, .int .u8 12, .int .u8 18, .int .u8 6, .int .u8 11, .int .u8 5, .int .u8 10, .int .u8 9]),
 (3, [.int .u8 0, .int .u8 1, .int .u8 56, .int .u8 2, .int .u8 57, .int .u8 49, .int .u8 28, .int .u8 3, .int .u8 61, .int .u8 58, .int .u8 42, .int .u8 50, .int .u8 38, .int .u8 29, .int .u8 17, .int .u8 4, .int .u8 62, .int .u8 47, .int .u8 59, .int .u8 36, .int .u8 45, .int .u8 43, .int .u8 51, .int .u8 22, .int .u8 53, .int .u8 39, .int .u8 33, .int .u8 30, .int .u8 24, .int .u8 18, .int .u8 12, .int .u8 5, .int .u8 63, .int .u8 55, .int .u8 48, .int .u8 27, .int .u8 60, .int .u8 41, .int .u8 37, .int .u8 16, .int .u8 46, .int .u8 35, .int .u8 44, .int .u8 21, .int .u8 52, .int .u8 32, .int .u8 23, .int .u8 11, .int .u8 54, .int .u8 26, .int .u8 40, .int .u8 15, .int .u8 34, .int .u8 20, .int .u8 31, .int .u8 10, .int .u8 25, .int .u8 14, .int .u8 19, .int .u8 9, .int .u8 13, .int .u8 8, .int .u8 7, .int .u8 6])]
def exts : List (Nat × Nat × Nat × Nat) := [(67, 11, 68, 0), (82, 33, 0, 2), (83, 2, 146, 9), (115, 7, 0, 0), (121, 12, 0, 0), (139, 8, 0, 0), (224, 1, 0, 0)]
def ZZ : WD := [LT.V8]
def Wv : List (Nat × Nat × List Nat × List Nat × Option Nat) := [(28, 0, [26, 5, 1], [], some 5), (28, 2, [42, 5, 1], [], some 5), (70, 2, [37, 1, 6], [], none), (70, 4, [57], [2], none)]
noncomputable def cfg : E8 := { P := Go.Proofs.Tryz.prog, kind := O0 kinds, Kk := OE V5, ext := MM Go.Proofs.Tryz.prog ZZ exts, Ca := Jq YS, Yk := T2 Go.Proofs.Tryz.prog (OE V5), still := WM N4, Tj := Tq Wv, dec := PT }
set_option maxHeartbeats 1000000 in
theorem Vn (a b : I4) (W : World) : Calls Go.Proofs.Tryz.prog 68 #[.agg #[.string ⟨⟨a.1⟩⟩, .string ⟨⟨a.2⟩⟩], .agg #[.string ⟨⟨b.1⟩⟩, .string ⟨⟨b.2⟩⟩]] W fun e w' => e = .returned (.int .i64 (compareBytes a.1 b.1)) ∧ ∃ q os', w' = Go.Sort.grow (W.drewN q) os' := by
 have B := fun W' => Go.Proofs.Any.strings_Compare Go.Proofs.Tryz.Wc ⟨⟨a.1⟩⟩ ⟨⟨b.1⟩⟩ W'
 change ∀ W', Calls Go.Proofs.Tryz.prog 69 _ _ _ at B
 simp only [] at B
 generalize compareBytes a.1 b.1 = r at B ⊢
 go_enter Go.Proofs.Tryz.func68, Go.Proofs.Tryz.ntmps68
 go_wp2_with (go_at_call 69; refine (B _).mono ?_; rintro e w' ⟨rfl, rfl⟩)
 go_ret
 exact ⟨rfl, 0, _, by rw [Go.Sort.alloc_eq_grow, Go.Sort.alloc_eq_grow, Go.Sort.grow_grow]; rfl⟩
theorem VM : Go.Proofs.Builder.Extra cfg.P Go.Proofs.Tryz.NJ where
 sizeBuilder := by kernel_rfl
 liesBuilder := by kernel_rfl
 t5 := Go.Proofs.Tryz.Nl.t5
 a5 := Go.Proofs.Tryz.Nl.a5
 z5 := Go.Proofs.Tryz.Nl.z5
 v5 := Go.Proofs.Tryz.Nl.v5
 infoByte := by kernel_rfl
 cellsByte := by kernel_rfl
 sizeByte := by kernel_rfl
 neB5 := by decide
theorem VF : ∀ p ∈ exts, En cfg.P cfg.Ca p.1 (Th cfg.P ZZ p.2) := by
 intro p C
 simp only [exts, List.mem_cons, List.not_mem_nil, or_false] at C
 rcases C with rfl | rfl | rfl | rfl | rfl | rfl | rfl
 ·exact T7 Go.Proofs.Tryz.Vg (fun w => by kernel_rfl) (fun w => by kernel_rfl) (Ss Go.Proofs.Tryz.func68 (by kernel_rfl) rfl) Vn _
 ·exact LT.YD
 ·exact TD Go.Proofs.Tryz.Tt Go.Proofs.Tryz.Ww Go.Proofs.Tryz.VG rfl rfl (by kernel_rfl) _
 ·exact TB Go.Proofs.Tryz.Nl VM _
 ·exact Ve Go.Proofs.Tryz.Vh (gn := 1) (by kernel_rfl) (by kernel_rfl)
 ·exact W2 Go.Proofs.Tryz.XT (by kernel_rfl)
 ·exact Wm _ (by kernel_rfl) (fun fn h => by
   obtain rfl := Option.some.inj (Go.Proofs.Tryz.func224.symm.trans h)
   exact ⟨by kernel_rfl, by kernel_rfl⟩)
theorem XA : G2 cfg := Sv (ks := kinds) (l := exts) rfl (by kernel_rfl) (by kernel_rfl) rfl rfl (by kernel_rfl) VF
structure AA where
 Key : List UInt8
 Value : List UInt8
def AJ (x : AA) : List AB := [.str x.Key, .str x.Value]
theorem BJ : Jh AJ 2 := ⟨fun _ => rfl, fun _ => rfl, fun _ => rfl⟩
structure Ad where
 F8 : Int
 EY : Int
structure AG where
 Name : List UInt8
 A9 : List UInt8
 Kind : Int
 Mode : Int
 Cz : Int
 Ct : Int
 Ah : List UInt8
 Aj : List UInt8
 Au : Int
 As : Int
 Time : Ad
 Extra : List AA
 Data : List UInt8
def AE (x : AG) : List AB := [.str x.Name, .str x.A9, .int .u8 x.Kind, .int .i64 x.Mode, .int .i64 x.Cz, .int .i64 x.Ct, .str x.Ah, .str x.Aj, .int .i64 x.Au, .int .i64 x.As, .int .i64 x.Time.F8, .int .i64 x.Time.EY, vs AJ x.Extra, .str x.Data]
theorem CK : Jh AE 14 := ⟨fun _ => rfl, fun _ => rfl, fun _ => rfl⟩
structure BS where
 EH : Bool
 AY : Bool
 Ar : Int
 BQ : Int
def CO (x : BS) : List AB := [.bool x.EH, .bool x.AY, .int .i64 x.Ar, .int .i64 x.BQ]
structure AL where
 Name : List UInt8
 A9 : List UInt8
 Kind : Int
 Mode : Int
 Cz : Int
 Ct : Int
 Bg : Int
 Time : Int
 Ah : List UInt8
 Aj : List UInt8
 Au : Int
 As : Int
 Form : Int
def AK (x : AL) : List AB := [.str x.Name, .str x.A9, .int .u8 x.Kind, .int .i64 x.Mode, .int .i64 x.Cz, .int .i64 x.Ct, .int .i64 x.Bg, .int .i64 x.Time, .str x.Ah, .str x.Aj, .int .i64 x.Au, .int .i64 x.As, .int .i64 x.Form]
structure Ay where
 from_ : Int
 Ar : Int
def DQ (x : Ay) : List AB := [.int .i64 x.from_, .int .i64 x.Ar]
theorem DO : Jh DQ 2 := ⟨fun _ => rfl, fun _ => rfl, fun _ => rfl⟩
structure GM where
 w0 : Ay
 w1 : Ay
 w2 : Ay
 w3 : Ay
 w4 : Ay
 w5 : Ay
 w6 : Ay
 w7 : Ay
 w8 : Ay
 w9 : Ay
 SR : Ay
 Sj : Ay
def LD (x : GM) : List AB := [.int .i64 x.w0.from_, .int .i64 x.w0.Ar, .int .i64 x.w1.from_, .int .i64 x.w1.Ar, .int .i64 x.w2.from_, .int .i64 x.w2.Ar, .int .i64 x.w3.from_, .int .i64 x.w3.Ar, .int .i64 x.w4.from_, .int .i64 x.w4.Ar, .int .i64 x.w5.from_, .int .i64 x.w5.Ar, .int .i64 x.w6.from_, .int .i64 x.w6.Ar, .int .i64 x.w7.from_, .int .i64 x.w7.Ar, .int .i64 x.w8.from_, .int .i64 x.w8.Ar, .int .i64 x.w9.from_, .int .i64 x.w9.Ar, .int .i64 x.SR.from_, .int .i64 x.SR.Ar, .int .i64 x.Sj.from_, .int .i64 x.Sj.Ar]
structure Rm where
 w0 : Int
 w1 : Int
structure CW where
 Head : Int
 Name : Int
structure AU where
 BL : List (List UInt8)
 Bz : List UInt8
 Ar : Int
 AY : Bool
structure Ap where
 P1 : List AA
 Ba : List UInt8
 Be : List UInt8
 Ag : Bool
 Af : Bool
 Ak : Bool
def CX (x : Ap) : List AB := [vs AJ x.P1, .str x.Ba, .str x.Be, .bool x.Ag, .bool x.Af, .bool x.Ak]
structure AV where
 Aw : CW
 Az : AU
 BE : Int
 BQ : Int
 at_ : Int
 BD : Bool
 BG : Int
 BH : Int
 AD : AL
 BI : Int
 DR : List UInt8
 AM : Ap
 Vi : List AA
structure AI where
 Kind : Int
 B6 : AG
 Bg : Int
 Bytes : List UInt8
def Al (x : AI) : List AB := [.int .i64 x.Kind, .str x.B6.Name, .str x.B6.A9, .int .u8 x.B6.Kind, .int .i64 x.B6.Mode, .int .i64 x.B6.Cz, .int .i64 x.B6.Ct, .str x.B6.Ah, .str x.B6.Aj, .int .i64 x.B6.Au, .int .i64 x.B6.As, .int .i64 x.B6.Time.F8, .int .i64 x.B6.Time.EY, vs AJ x.B6.Extra, .str x.B6.Data, .int .i64 x.Bg, .str x.Bytes]
theorem CU : Jh Al 17 := ⟨fun _ => rfl, fun _ => rfl, fun _ => rfl⟩
abbrev JS (x : AL) (c0 : AB) : List AB := [c0, .str x.A9, .int .u8 x.Kind, .int .i64 x.Mode, .int .i64 x.Cz, .int .i64 x.Ct, .int .i64 x.Bg, .int .i64 x.Time, .str x.Ah, .str x.Aj, .int .i64 x.Au, .int .i64 x.As, .int .i64 x.Form]
abbrev EP (x : AL) (c0 c1 : AB) : List AB := [c0, c1, .int .u8 x.Kind, .int .i64 x.Mode, .int .i64 x.Cz, .int .i64 x.Ct, .int .i64 x.Bg, .int .i64 x.Time, .str x.Ah, .str x.Aj, .int .i64 x.Au, .int .i64 x.As, .int .i64 x.Form]
abbrev Fo (x : AG) (c2 : AB) : List AB := [.str x.Name, .str x.A9, c2, .int .i64 x.Mode, .int .i64 x.Cz, .int .i64 x.Ct, .str x.Ah, .str x.Aj, .int .i64 x.Au, .int .i64 x.As, .int .i64 x.Time.F8, .int .i64 x.Time.EY, vs AJ x.Extra, .str x.Data]
abbrev Gv (x : Ap) (c0 : AB) : List AB := [c0, .str x.Ba, .str x.Be, .bool x.Ag, .bool x.Af, .bool x.Ak]
end Go.Av.L
