/-
 A part.
-/
import Derived.Test.YtlljeoogceblmaaGreatDoorKCfg
import Derived.Test.YtlljeoogceblmaaGreatDoorK3
import Derived.Test.YtlljeoogceblmaaGreatDoorK4
import Derived.Test.YtlljeoogceblmaaGreatDoorK6
namespace Go.Av.L
open Go.Av Go.Lib
open IntKind (i64)
set_option maxRecDepth 10000
set_option linter.unusedVariables false
set_option linter.unusedSimpArgs false
variable {g : Gd} {h : AF} {F : List Ck} {av : List AB}
noncomputable section
def AR (s : Int × Int × Int × Int × Int × Bool × Int × Int × (List UInt8) × (List UInt8) × Int × Int × Int × Int × Int × Int × (List UInt8) × (List UInt8) × Int × Int × Int × Int × (List UInt8) × (List UInt8) × Bool × Bool × Bool × (List UInt8) × Int × Bool × (List (List UInt8)) × (List AI) × (List UInt8)) : Option ((Int × Int × Int × Int × Int × Bool × Int × Int × (List UInt8) × (List UInt8) × Int × Int × Int × Int × Int × Int × (List UInt8) × (List UInt8) × Int × Int × Int × Int × (List UInt8) × (List UInt8) × Bool × Bool × Bool × (List UInt8) × Int × Bool × (List (List UInt8)) × (List AI) × (List UInt8)) ⊕ ((Int × Int × Int × Int × Int × Bool × Int × Int × (List UInt8) × (List UInt8) × Int × Int × Int × Int × Int × Int × (List UInt8) × (List UInt8) × Int × Int × Int × Int × (List UInt8) × (List UInt8) × Bool × Bool × Bool × (List UInt8) × Int × Bool × (List (List UInt8)) × (List AI) × (List UInt8)))) :=
 match s with
 | (x1, x2, x3, x4, x5, x6, x7, x8, x9, x10, x11, x12, x13, x14, x15, x16, x17, x18, x19, x20, x21, x22, x23, x24, x25, x26, x27, x28, x29, x30, x31, x32, x33) => Ao (x3 == 0) ((A6 (⟨x31, x28, x29, x30⟩ : AU) (i64.wrap ((512 : Int) - (x33.length : Int)))).bind fun (x67, x68, x69) => Cl (Hs 1 (x33.length + x67.length)) <| Ao (decide (((x33 ++ x67).length : Int) < 512)) (some (.inr (x1, x2, x3, x4, x5, x6, x7, x8, x9, x10, x11, x12, x13, x14, x15, x16, x17, x18, x19, x20, x21, x22, x23, x24, x25, x26, x27, x68.Bz, x68.Ar, x68.AY, x69, x32, (x33 ++ x67)))) ((Ax (⟨(⟨x1, x2⟩ : CW), (⟨x69, x68.Bz, x68.Ar, x68.AY⟩ : AU), x3, x4, x5, x6, x7, x8, (⟨x9, x10, x11, x12, x13, x14, x15, x16, x17, x18, x19, x20, x21⟩ : AL), x22, ([] : UV), (⟨([] : List AA), x23, x24, x25, x26, x27⟩ : Ap), ([] : List AA)⟩ : AV) x32 (x33 ++ x67)).bind fun (x71, x72, x73) => some (.inl (x71.Aw.Head, x71.Aw.Name, x71.BE, x71.BQ, i64.wrap (x71.at_ + 1), x71.BD, x71.BG, x71.BH, x71.AD.Name, x71.AD.A9, x71.AD.Kind, x71.AD.Mode, x71.AD.Cz, x71.AD.Ct, x71.AD.Bg, x71.AD.Time, x71.AD.Ah, x71.AD.Aj, x71.AD.Au, x71.AD.As, x71.AD.Form, x71.BI, x71.AM.Ba, x71.AM.Be, x71.AM.Ag, x71.AM.Af, x71.AM.Ak, x68.Bz, x68.Ar, x68.AY, x69, x73, x72)))) (Ao (x3 == 1) ((A6 (⟨x31, x28, x29, x30⟩ : AU) x4).bind fun (x74, x75, x76) => Ao ((x74 == ([] : UV)) && (decide (x4 > 0))) (some (.inr (x1, x2, x3, x4, x5, x6, x7, x8, x9, x10, x11, x12, x13, x14, x15, x16, x17, x18, x19, x20, x21, x22, x23, x24, x25, x26, x27, x75.Bz, x75.Ar, x75.AY, x76, x32, x33))) ((Ao (!(x74 == ([] : UV))) (Cl (Hs 200 (x32.length + ([(⟨(2 : Int), (⟨([] : UV), ([] : UV), (0 : Int), (0 : Int), (0 : Int), (0 : Int), ([] : UV), ([] : UV), (0 : Int), (0 : Int), (⟨(0 : Int), (0 : Int)⟩ : Ad), ([] : List AA), ([] : UV)⟩ : AG), (0 : Int), x74⟩ : AI)] : List AI).length)) <| some (x32 ++ ([(⟨(2 : Int), (⟨([] : UV), ([] : UV), (0 : Int), (0 : Int), (0 : Int), (0 : Int), ([] : UV), ([] : UV), (0 : Int), (0 : Int), (⟨(0 : Int), (0 : Int)⟩ : Ad), ([] : List AA), ([] : UV)⟩ : AG), (0 : Int), x74⟩ : AI)] : List AI))) (some x32) : Option (((List AI)))).bind fun x77 => Ao (decide ((i64.wrap (x4 - (x74.length : Int))) > 0)) (some (.inl (x1, x2, x3, i64.wrap (x4 - (x74.length : Int)), x5, x6, x7, x8, x9, x10, x11, x12, x13, x14, x15, x16, x17, x18, x19, x20, x21, x22, x23, x24, x25, x26, x27, x75.Bz, x75.Ar, x75.AY, x76, x77, x33))) (Cl (Hs 200 (x77.length + ([(⟨(3 : Int), (⟨([] : UV), ([] : UV), (0 : Int), (0 : Int), (0 : Int), (0 : Int), ([] : UV), ([] : UV), (0 : Int), (0 : Int), (⟨(0 : Int), (0 : Int)⟩ : Ad), ([] : List AA), ([] : UV)⟩ : AG), (0 : Int), ([] : UV)⟩ : AI)] : List AI).length)) <| (CG (⟨(⟨x1, x2⟩ : CW), (⟨x76, x75.Bz, x75.Ar, x75.AY⟩ : AU), x3, i64.wrap (x4 - (x74.length : Int)), x5, x6, x7, x8, (⟨x9, x10, x11, x12, x13, x14, x15, x16, x17, x18, x19, x20, x21⟩ : AL), x22, x33, (⟨([] : List AA), x23, x24, x25, x26, x27⟩ : Ap), ([] : List AA)⟩ : AV) x15).bind fun x78 => some (.inl (x78.Aw.Head, x78.Aw.Name, x78.BE, x78.BQ, x78.at_, x78.BD, x78.BG, x78.BH, x78.AD.Name, x78.AD.A9, x78.AD.Kind, x78.AD.Mode, x78.AD.Cz, x78.AD.Ct, x78.AD.Bg, x78.AD.Time, x78.AD.Ah, x78.AD.Aj, x78.AD.Au, x78.AD.As, x78.AD.Form, x78.BI, x78.AM.Ba, x78.AM.Be, x78.AM.Ag, x78.AM.Af, x78.AM.Ak, x75.Bz, x75.Ar, x75.AY, x76, (x77 ++ ([(⟨(3 : Int), (⟨([] : UV), ([] : UV), (0 : Int), (0 : Int), (0 : Int), (0 : Int), ([] : UV), ([] : UV), (0 : Int), (0 : Int), (⟨(0 : Int), (0 : Int)⟩ : Ad), ([] : List AA), ([] : UV)⟩ : AG), (0 : Int), ([] : UV)⟩ : AI)] : List AI)), x33))))) (Ao (x3 == 2) ((A6 (⟨x31, x28, x29, x30⟩ : AU) x4).bind fun (x79, x80, x81) => Ao ((x79 == ([] : UV)) && (decide (x4 > 0))) (some (.inr (x1, x2, x3, x4, x5, x6, x7, x8, x9, x10, x11, x12, x13, x14, x15, x16, x17, x18, x19, x20, x21, x22, x23, x24, x25, x26, x27, x80.Bz, x80.Ar, x80.AY, x81, x32, x33))) (Cl (Hs 1 (x33.length + x79.length)) <| Ao (decide ((i64.wrap (x4 - (x79.length : Int))) > 0)) (some (.inl (x1, x2, x3, i64.wrap (x4 - (x79.length : Int)), x5, x6, x7, x8, x9, x10, x11, x12, x13, x14, x15, x16, x17, x18, x19, x20, x21, x22, x23, x24, x25, x26, x27, x80.Bz, x80.Ar, x80.AY, x81, x32, (x33 ++ x79)))) (none))) (Ao (x3 == 3) ((A6 (⟨x31, x28, x29, x30⟩ : AU) x4).bind fun (x82, x83, x84) => Ao (decide ((i64.wrap (x4 - (x82.length : Int))) > 0)) (some (.inr (x1, x2, x3, i64.wrap (x4 - (x82.length : Int)), x5, x6, x7, x8, x9, x10, x11, x12, x13, x14, x15, x16, x17, x18, x19, x20, x21, x22, x23, x24, x25, x26, x27, x83.Bz, x83.Ar, x83.AY, x84, x32, x33))) (some (.inl (x1, x2, (0 : Int), i64.wrap (x4 - (x82.length : Int)), x5, x6, x7, x8, x9, x10, x11, x12, x13, x14, x15, x16, x17, x18, x19, x20, x21, x22, x23, x24, x25, x26, x27, x83.Bz, x83.Ar, x83.AY, x84, x32, x33)))) (Ao (x3 == 4) (some (.inr (x1, x2, x3, x4, x5, x6, x7, x8, x9, x10, x11, x12, x13, x14, x15, x16, x17, x18, x19, x20, x21, x22, x23, x24, x25, x26, x27, x28, x29, x30, x31, x32, x33))) (some (.inl (x1, x2, x3, x4, x5, x6, x7, x8, x9, x10, x11, x12, x13, x14, x15, x16, x17, x18, x19, x20, x21, x22, x23, x24, x25, x26, x27, x28, x29, x30, x31, x32, x33)))))))
def Bh (p0 : AV) (p1 : List AI) : Option (AV × AU × (List (List UInt8)) × (List UInt8) × (List AI)) :=
 (loop (AR) (p0.Aw.Head, p0.Aw.Name, p0.BE, p0.BQ, p0.at_, p0.BD, p0.BG, p0.BH, p0.AD.Name, p0.AD.A9, p0.AD.Kind, p0.AD.Mode, p0.AD.Cz, p0.AD.Ct, p0.AD.Bg, p0.AD.Time, p0.AD.Ah, p0.AD.Aj, p0.AD.Au, p0.AD.As, p0.AD.Form, p0.BI, p0.AM.Ba, p0.AM.Be, p0.AM.Ag, p0.AM.Af, p0.AM.Ak, p0.Az.Bz, p0.Az.Ar, p0.Az.AY, p0.Az.BL, p1, p0.DR)).bind fun (x34, x35, x36, x37, x38, x39, x40, x41, x42, x43, x44, x45, x46, x47, x48, x49, x50, x51, x52, x53, x54, x55, x56, x57, x58, x59, x60, x61, x62, x63, x64, x65, x66) => some ((⟨(⟨x34, x35⟩ : CW), (⟨x64, x61, x62, x63⟩ : AU), x36, x37, x38, x39, x40, x41, (⟨x42, x43, x44, x45, x46, x47, x48, x49, x50, x51, x52, x53, x54⟩ : AL), x55, x66, (⟨([] : List AA), x56, x57, x58, x59, x60⟩ : Ap), ([] : List AA)⟩ : AV), (⟨x64, x61, x62, x63⟩ : AU), x64, x66, x65)
theorem GA {p0 p1 bp0 bp0_2 bp0_2_0 rp0_23 rp1 u0 u1 u2 u3 u4} (M : Bh p0 p1 = some (u0, u1, u2, u3, u4)) (A : HH g h [.obj bp0 (.cells none 2 [Ai p0.Aw.Head, Ai p0.Aw.Name, .ptr (some (bp0_2, 0)), Ai p0.BE, Ai p0.BQ, Ai p0.at_, .bool p0.BD, Ai p0.BG, Ai p0.BH, .str p0.AD.Name, .str p0.AD.A9, Ab p0.AD.Kind, Ai p0.AD.Mode, Ai p0.AD.Cz, Ai p0.AD.Ct, Ai p0.AD.Bg, Ai p0.AD.Time, .str p0.AD.Ah, .str p0.AD.Aj, Ai p0.AD.Au, Ai p0.AD.As, Ai p0.AD.Form, Ai p0.BI, AP rp0_23 p0.DR.length, .slice none 0, .str p0.AM.Ba, .str p0.AM.Be, .bool p0.AM.Ag, .bool p0.AM.Af, .bool p0.AM.Ak, .slice none 0]), .obj bp0_2 (.cells none 2 [.chan (some bp0_2_0), .str p0.Az.Bz, Ai p0.Az.Ar, .bool p0.Az.AY]), .obj bp0_2_0 (.chan 64 (AQ eS p0.Az.BL)), .AQ rp0_23 5 (AQ eY p0.DR), .AQ rp1 164 (AQ Al p1)] F) (hc : BP (cfg.still 150) av = [.ptr (some (bp0, 0)), AP rp1 p1.length] := by kernel_rfl) : ∃ v Q, BZ cfg g h 150 av v Q ∧ ∃ (r'3 : Option Nat) (r'4 : Option Nat), v = AP r'4 u4.length ∧ HH g Q [.obj bp0 (.cells none 2 [Ai u0.Aw.Head, Ai u0.Aw.Name, .ptr (some (bp0_2, 0)), Ai u0.BE, Ai u0.BQ, Ai u0.at_, .bool u0.BD, Ai u0.BG, Ai u0.BH, .str u0.AD.Name, .str u0.AD.A9, Ab u0.AD.Kind, Ai u0.AD.Mode, Ai u0.AD.Cz, Ai u0.AD.Ct, Ai u0.AD.Bg, Ai u0.AD.Time, .str u0.AD.Ah, .str u0.AD.Aj, Ai u0.AD.Au, Ai u0.AD.As, Ai u0.AD.Form, Ai u0.BI, AP r'3 u3.length, .slice none 0, .str u0.AM.Ba, .str u0.AM.Be, .bool u0.AM.Ag, .bool u0.AM.Af, .bool u0.AM.Ak, .slice none 0]), .obj bp0_2 (.cells none 2 [.chan (some bp0_2_0), .str u1.Bz, Ai u1.Ar, .bool u1.AY]), .obj bp0_2_0 (.chan 64 (AQ eS u2)), .AQ r'3 5 (AQ eY u3), .AQ r'4 164 (AQ Al u4)] F := by
 refine EE 197 [.tmp 4] hc ?_
 clear hc
 unfold Bh at M
 refine bg 197 [(0, .ptr (some (bp0, 0))), (1, AP rp1 p1.length)] fun D H => ?_
 refine AH 1 (AN 1 [] H fun D H => Lv (by kernel_rfl) ?_)
 refine AS (LY (by kernel_rfl) ?_)
 show AW _ _ _ _ _ _ _
 refine AS (Aa (id := 0) (by kernel_rfl) ?_)
 replace A := A.k5 3 0 1 2 4
 obtain ⟨o1, O, M⟩ := bind_some M
 refine Bb (Q' := fun e N Q => (∃ x34 x35 x36 x37 x38 x39 x40 x41 x42 x43 x44 x45 x46 x47 x48 x49 x50 x51 x52 x53 x54 x55 x56 x57 x58 x59 x60 x61 x62 x63 x64 x65 x66, e = .exit 0 ∧ (x34, x35, x36, x37, x38, x39, x40, x41, x42, x43, x44, x45, x46, x47, x48, x49, x50, x51, x52, x53, x54, x55, x56, x57, x58, x59, x60, x61, x62, x63, x64, x65, x66) = o1 ∧ ∃ r3 r4, Has N 197 [(1, AP r3 x65.length)] ∧ HH g Q [.AQ r4 5 (AQ eY x66), .obj bp0 (.cells none 2 [Ai x34, Ai x35, .ptr (some (bp0_2, 0)), Ai x36, Ai x37, Ai x38, .bool x39, Ai x40, Ai x41, .str x42, .str x43, Ab x44, Ai x45, Ai x46, Ai x47, Ai x48, Ai x49, .str x50, .str x51, Ai x52, Ai x53, Ai x54, Ai x55, AP r4 x66.length, .slice none 0, .str x56, .str x57, .bool x58, .bool x59, .bool x60, .slice none 0]), .obj bp0_2 (.cells none 2 [.chan (some bp0_2_0), .str x61, Ai x62, .bool x63]), .obj bp0_2_0 (.chan 64 (AQ eS x64)), .AQ r3 164 (AQ Al x65)] F) ∨ False) ?_ ?_
 ·refine C2 (by kernel_rfl) (fun (s : Int × Int × Int × Int × Int × Bool × Int × Int × (List UInt8) × (List UInt8) × Int × Int × Int × Int × Int × Int × (List UInt8) × (List UInt8) × Int × Int × Int × Int × (List UInt8) × (List UInt8) × Bool × Bool × Bool × (List UInt8) × Int × Bool × (List (List UInt8)) × (List AI) × (List UInt8)) N Q => ∃ x1 x2 x3 x4 x5 x6 x7 x8 x9 x10 x11 x12 x13 x14 x15 x16 x17 x18 x19 x20 x21 x22 x23 x24 x25 x26 x27 x28 x29 x30 x31 x32 x33, (x1, x2, x3, x4, x5, x6, x7, x8, x9, x10, x11, x12, x13, x14, x15, x16, x17, x18, x19, x20, x21, x22, x23, x24, x25, x26, x27, x28, x29, x30, x31, x32, x33) = s ∧ ∃ r1 r2, Has N 197 [(0, .ptr (some (bp0, 0))), (1, AP r1 x32.length)] ∧ HH g Q [.AQ r2 5 (AQ eY x33), .obj bp0 (.cells none 2 [Ai x1, Ai x2, .ptr (some (bp0_2, 0)), Ai x3, Ai x4, Ai x5, .bool x6, Ai x7, Ai x8, .str x9, .str x10, Ab x11, Ai x12, Ai x13, Ai x14, Ai x15, Ai x16, .str x17, .str x18, Ai x19, Ai x20, Ai x21, Ai x22, AP r2 x33.length, .slice none 0, .str x23, .str x24, .bool x25, .bool x26, .bool x27, .slice none 0]), .obj bp0_2 (.cells none 2 [.chan (some bp0_2_0), .str x28, Ai x29, .bool x30]), .obj bp0_2_0 (.chan 64 (AQ eS x31)), .AQ r1 164 (AQ Al x32)] F) O ⟨_, _, _, _, _, _, _, _, _, _, _, _, _, _, _, _, _, _, _, _, _, _, _, _, _, _, _, _, _, _, _, _, _, rfl, rp1, rp0_23, H.ls, A⟩ ?_
  clear O M H A
  intro s q D h1 S M
  obtain ⟨x1, x2, x3, x4, x5, x6, x7, x8, x9, x10, x11, x12, x13, x14, x15, x16, x17, x18, x19, x20, x21, x22, x23, x24, x25, x26, x27, x28, x29, x30, x31, x32, x33, rfl, r1, r2, H, A⟩ := S
  unfold AR at M
  refine Aa (id := 1) (by kernel_rfl) ?_
  refine AH 4 (AX 3 [] 11 1 3 A H fun D t H => ?_)
  refine Bq id (Aa (id := 2) (by kernel_rfl) ?_)
  refine AH 2 (AN 2 [(12, .bool (x3 == 0))] H fun D H => Ac 12 H M (fun B M H => ?_) fun B M H => ?_)
  ·refine AS (J2 3 20 [(0, []), (1, []), (2, []), (3, []), (4, []), (5, []), (6, []), (7, []), (8, []), (9, []), (10, []), (11, []), (12, []), (13, []), (14, []), (15, [4]), (16, []), (17, []), (18, []), (19, [])] ?_)
   refine AO 4 [(14, .ptr (some (bp0, 0))), (17, .ptr (some (bp0, 23)))] H fun D H => C3 18 (AP r2 x33.length) h1 [(4, bp0)] (g.CD) H (fun D => .of (Ib (by kernel_rfl) (A.l1 1 23))) (fun D H => ?_)
   refine AO 3 [(21, .ptr (some (bp0, 2)))] H fun D H => C3 22 (.ptr (some (bp0_2, 0))) h1 [(8, bp0), (4, bp0)] (g.CD) H (fun D => .of (Ib (by kernel_rfl) (A.l1 1 2))) (fun D H => ?_)
   refine AO 3 [(25, .ptr (some (bp0, 23)))] H fun D H => C3 26 (AP r2 x33.length) h1 [(12, bp0), (8, bp0), (4, bp0)] (g.CD) H (fun D => .of (Ib (by kernel_rfl) (A.l1 1 23))) (fun D H => ?_)
   refine AO 2 [(28, Ai (i64.wrap ((512 : Int) - (x33.length : Int))))] H fun D H => ?_
   replace A := A.k5 2 3 0 1 4
   have E := A.Hw 2 (pr := [bp0]) (.cons 1 rfl (by simp [Ck.ids]) .nil)
   obtain ⟨⟨x67, x68, x69⟩, X, M⟩ := bind_some M
   obtain ⟨v1, h2, R, rfl, E⟩ := C1 (av := [.ptr (some (bp0_2, 0)), Ai (i64.wrap ((512 : Int) - (x33.length : Int)))]) X E
   replace A := A.Y7 E
   refine C3 29 (.str x67) h2 [(12, bp0), (8, bp0), (4, bp0)] (bp0 :: g.CD) H (fun D => Steps.call (by kernel_rfl) R) (fun D H => ?_)
   obtain ⟨B, M⟩ := Aq M
   obtain ⟨r5, C, X, E⟩ := HH.FN Df (by decide) A 2 (xs := x33) (ys := x67) rfl (FF _ x67) (Df.BP _) rfl B
   replace A : HH g C [_, _, .AQ r5 5 (AQ eY (x33 ++ x67)), _, _] F := E
   refine C3 30 (AP r5 ((x33 ++ x67).length)) C [(12, bp0), (8, bp0), (4, bp0)] (g.CD) H (fun D => .of (DU (s := CF r2 x33.length) (by kernel_rfl) X)) (fun D H => ?_)
   refine AO 2 [(32, .ptr (some (bp0, 23)))] H fun D H => ?_
   obtain ⟨K, X, E⟩ := A.st 3 rfl (o := 23) (new := [AP r5 ((x33 ++ x67).length)]) (ds := [Ai x1, Ai x2, .ptr (some (bp0_2, 0)), Ai x3, Ai x4, Ai x5, .bool x6, Ai x7, Ai x8, .str x9, .str x10, Ab x11, Ai x12, Ai x13, Ai x14, Ai x15, Ai x16, .str x17, .str x18, Ai x19, Ai x20, Ai x21, Ai x22, AP r5 ((x33 ++ x67).length), .slice none 0, .str x23, .str x24, .bool x25, .bool x26, .bool x27, .slice none 0]) (Nat.le_of_ble_eq_true rfl) rfl rfl
   replace A : HH g K [_, _, _, .obj bp0 (.cells none 2 [_, _, _, _, _, _, _, _, _, _, _, _, _, _, _, _, _, _, _, _, _, _, _, AP r5 ((x33 ++ x67).length), _, _, _, _, _, _, _]), _] F := E
   refine Kw (.tuple []) K [(12, bp0), (8, bp0), (4, bp0)] (g.CD) H (fun D => .of (Sr (by kernel_rfl) rfl X)) (fun D H => ?_)
   refine Bq id (AS (AH 6 (AX 3 [] 36 3 23 A H fun D t H => ?_)))
   refine AN 2 [(38, .bool (decide (((x33 ++ x67).length : Int) < 512)))] H fun D H => Ac 38 H M (fun B M H => ?_) fun B M H => ?_
   ·refine Bp (i := 0) (by kernel_rfl) ?_
    replace A := A.k5 2 3 0 1 4
    exact nr M fun e => .inl ⟨_, _, _, _, _, _, _, _, _, _, _, _, _, _, _, _, _, _, _, _, _, _, _, _, _, _, _, _, _, _, _, _, _, rfl, e, _, _, H.ls, A⟩
   refine B3 6 id (AX 3 [] 42 3 23 A H fun D t H => ?_)
   refine Ae 43 (.str (x33 ++ x67)) K H (fun D => .of (Kt (xs := (x33 ++ x67)) A 2 rfl (by kernel_rfl))) fun D t H => ?_
   refine B5 1 [(5, .str (x33 ++ x67))] 4 H fun D H => ?_
   obtain ⟨T, X, A⟩ := A.s3 23 [.slice none 0] [_, _, _, _, _, _, _, _, _, _, _, _, _, _, _, _, _, _, _, _, _, _, _, _, _, _, _, _, _, _, _]
   refine Bu 3 [] X H fun D t H => ?_
   refine Bs 5 id ?_
   replace A : HH g T [.AQ none 5 (AQ eY ([] : UV)), _, _, _, .obj bp0 (.cells none 2 [_, _, _, _, _, _, _, _, _, _, _, _, _, _, _, _, _, _, _, _, _, _, _, AP none (([] : UV).length), _, _, _, _, _, _, _]), _] F := A.Hv 5
   replace A := A.k6 4 1 2 0 5 3
   obtain ⟨⟨x71, x72, x73⟩, X, M⟩ := bind_some M
   obtain ⟨v1, V, R, r6, r7, rfl, E⟩ := Fl (av := [.ptr (some (bp0, 0)), AP r1 x32.length, .str (x33 ++ x67)]) X (A.cut 5)
   replace A : HH g V [.obj bp0 (.cells none 2 [Ai x71.Aw.Head, Ai x71.Aw.Name, _, Ai x71.BE, Ai x71.BQ, Ai x71.at_, .bool x71.BD, Ai x71.BG, Ai x71.BH, .str x71.AD.Name, .str x71.AD.A9, Ab x71.AD.Kind, Ai x71.AD.Mode, Ai x71.AD.Cz, Ai x71.AD.Ct, Ai x71.AD.Bg, Ai x71.AD.Time, .str x71.AD.Ah, .str x71.AD.Aj, Ai x71.AD.Au, Ai x71.AD.As, Ai x71.AD.Form, Ai x71.BI, AP r6 x72.length, _, .str x71.AM.Ba, .str x71.AM.Be, .bool x71.AM.Ag, .bool x71.AM.Af, .bool x71.AM.Ak, _]), .obj bp0_2 (.cells none 2 [_, _, _, _]), .obj bp0_2_0 (.chan 64 (AQ eS x69)), .AQ r6 5 (AQ eY x72), .AQ r7 164 (AQ Al x73), _] F := A.Eg (n := 5) E
   refine BC 3 [] 50 R H fun D t H => ?_
   refine Bv 1 [(0, .ptr (some (bp0, 0))), (1, AP r7 x73.length)] H fun D H => Bs 8 id (AX 3 [(51, .ptr (some (bp0, 0)))] 54 0 5 A H fun D t H => ?_)
   obtain ⟨h7, X, A⟩ := A.s0 5 [Ai (i64.wrap (x71.at_ + 1))] [_, _, _, _, _, _, _, _, _, _, _, _, _, _, _, _, _, _, _, _, _, _, _, _, _, _, _, _, _, _, _]
   refine Bu 3 [] X H fun D t H => ?_
   refine Bq id (Bp (i := 1) (by kernel_rfl) ?_)
   replace A := A.k5 3 0 1 2 4
   exact nx M ⟨_, _, _, _, _, _, _, _, _, _, _, _, _, _, _, _, _, _, _, _, _, _, _, _, _, _, _, _, _, _, _, _, _, rfl, _, _, H.ls, A⟩
  refine AH 2 (AN 2 [(58, .bool (x3 == 1))] H fun D H => Ac 58 H M (fun B M H => ?_) fun B M H => ?_)
  ·refine AS (Ga 10 10 ?_)
   refine AX 3 [] 63 1 2 A H fun D t H => ?_
   refine AX 3 [] 67 1 4 A H fun D t H => ?_
   replace A := A.k5 2 3 0 1 4
   obtain ⟨⟨x74, x75, x76⟩, X, M⟩ := bind_some M
   obtain ⟨v1, h8, R, rfl, E⟩ := C1 (av := [.ptr (some (bp0_2, 0)), Ai x4]) X (A.cut 2)
   replace A := A.g22 E
   refine BM 68 R H fun D t H => ?_
   refine AN 1 [(6, .str x74)] H fun D H => AS (AH 9 (AO 3 [(71, .bool (x74 == ([] : UV)))] H fun D H => Bi 6 (fun N Q => h8 = Q ∧ Has N 197 [(0, .ptr (some (bp0, 0))), (1, AP r1 x32.length), (6, .str x74), (77, .bool ((x74 == ([] : UV)) && (decide (x4 > 0))))]) ?_ ?_))
   ·cases B : (x74 == ([] : UV) : Bool) with
    | true =>
     replace H := H.kn 71 B
     refine AX 3 [] 75 3 4 A H fun D t H => ?_
     exact AO 2 [(77, .bool (decide (x4 > 0)))] H fun D H => A8 H B
    | false =>
     replace H := H.kn 71 B
     exact AO 6 [(77, .bool false)] H fun D H => A8 H B
   intro t D Q I
   obtain ⟨e, H⟩ := I
   subst e
   refine Bq id (Ac 77 H M (fun B M H => ?_) fun B M H => ?_)
   ·refine Bp (i := 0) (by kernel_rfl) ?_
    replace A := A.k5 2 3 0 1 4
    exact nr M fun e => .inl ⟨_, _, _, _, _, _, _, _, _, _, _, _, _, _, _, _, _, _, _, _, _, _, _, _, _, _, _, _, _, _, _, _, _, rfl, e, _, _, H.ls, A⟩
   refine B3 10 id (AX 3 [(78, .ptr (some (bp0, 0)))] 81 3 4 A H fun D t H => ?_)
   obtain ⟨U, X, A⟩ := A.s3 4 [Ai (i64.wrap (x4 - (x74.length : Int)))] [_, _, _, _, _, _, _, _, _, _, _, _, _, _, _, _, _, _, _, _, _, _, _, _, _, _, _, _, _, _, _]
   refine Bu 5 [] X H fun D t H => ?_
   refine Bq id (AS ?_)
   obtain ⟨o2, O, M⟩ := bind_some M
   refine Bb (Q' := fun e N Q => (∃ x77, e = .normal ∧ x77 = o2 ∧ ∃ r8, Has N 197 [(0, .ptr (some (bp0, 0))), (1, AP r8 x77.length)] ∧ HH g Q [.obj bp0_2 (.cells none 2 [.chan (some bp0_2_0), .str x75.Bz, Ai x75.Ar, .bool x75.AY]), .obj bp0_2_0 (.chan 64 (AQ eS x76)), .AQ r2 5 (AQ eY x33), .obj bp0 (.cells none 2 [Ai x1, Ai x2, .ptr (some (bp0_2, 0)), Ai x3, Ai (i64.wrap (x4 - (x74.length : Int))), Ai x5, .bool x6, Ai x7, Ai x8, .str x9, .str x10, Ab x11, Ai x12, Ai x13, Ai x14, Ai x15, Ai x16, .str x17, .str x18, Ai x19, Ai x20, Ai x21, Ai x22, AP r2 x33.length, .slice none 0, .str x23, .str x24, .bool x25, .bool x26, .bool x27, .slice none 0]), .AQ r8 164 (AQ Al x77)] F) ∨ False) ?_ ?_
   ·replace M := O
    clear O
    refine AH 2 (AN 2 [(88, .bool (!(x74 == ([] : UV))))] H fun D H => Ac 88 H M (fun B M H => ?_) fun B M H => ?_)
    ·refine CE 6 (AO 3 [(89, AP r1 x32.length), (91, .agg [Ai 2, .str ([] : UV), .str ([] : UV), Ab 0, Ai 0, Ai 0, Ai 0, .str ([] : UV), .str ([] : UV), Ai 0, Ai 0, Ai 0, Ai 0, .slice none 0, .str ([] : UV), Ai 0, .str x74])] H fun D H => ?_)
     obtain ⟨h10, e1, A⟩ := A.pL 164 [Ai 2, .str ([] : UV), .str ([] : UV), Ab 0, Ai 0, Ai 0, Ai 0, .str ([] : UV), .str ([] : UV), Ai 0, Ai 0, Ai 0, Ai 0, vs AJ ([] : List AA), .str ([] : UV), Ai 0, .str x74]
     refine BU 92 (AP (some U.size) (([(⟨(2 : Int), (⟨([] : UV), ([] : UV), (0 : Int), (0 : Int), (0 : Int), (0 : Int), ([] : UV), ([] : UV), (0 : Int), (0 : Int), (⟨(0 : Int), (0 : Int)⟩ : Ad), ([] : List AA), ([] : UV)⟩ : AG), (0 : Int), x74⟩ : AI)] : List AI).length)) e1 H fun D t H => ?_
     obtain ⟨B, M⟩ := Aq M
     obtain ⟨r9, h11, X, E⟩ := HH.FN CU (by decide) A 5 (xs := x32) (ys := ([(⟨(2 : Int), (⟨([] : UV), ([] : UV), (0 : Int), (0 : Int), (0 : Int), (0 : Int), ([] : UV), ([] : UV), (0 : Int), (0 : Int), (⟨(0 : Int), (0 : Int)⟩ : Ad), ([] : List AA), ([] : UV)⟩ : AG), (0 : Int), x74⟩ : AI)] : List AI)) rfl (C0 A 0 rfl (n := ([(⟨(2 : Int), (⟨([] : UV), ([] : UV), (0 : Int), (0 : Int), (0 : Int), (0 : Int), ([] : UV), ([] : UV), (0 : Int), (0 : Int), (⟨(0 : Int), (0 : Int)⟩ : Ad), ([] : List AA), ([] : UV)⟩ : AG), (0 : Int), x74⟩ : AI)] : List AI).length) (z := 17) rfl (by decide)) rfl rfl B
     replace A : HH g h11 [.AQ (some U.size) 164 ([Ai 2, .str ([] : UV), .str ([] : UV), Ab 0, Ai 0, Ai 0, Ai 0, .str ([] : UV), .str ([] : UV), Ai 0, Ai 0, Ai 0, Ai 0, vs AJ ([] : List AA), .str ([] : UV), Ai 0, .str x74]), _, _, _, _, .AQ r9 164 (AQ Al (x32 ++ ([(⟨(2 : Int), (⟨([] : UV), ([] : UV), (0 : Int), (0 : Int), (0 : Int), (0 : Int), ([] : UV), ([] : UV), (0 : Int), (0 : Int), (⟨(0 : Int), (0 : Int)⟩ : Ad), ([] : List AA), ([] : UV)⟩ : AG), (0 : Int), x74⟩ : AI)] : List AI)))] F := E
     replace A := A.k5 1 2 3 4 5
     refine Ae 93 _ _ H (fun D => .of (DU (s := CF r1 x32.length) (by kernel_rfl) X)) fun D t H => ?_
     refine Bv 1 [(0, .ptr (some (bp0, 0))), (1, AP r9 ((x32 ++ ([(⟨(2 : Int), (⟨([] : UV), ([] : UV), (0 : Int), (0 : Int), (0 : Int), (0 : Int), ([] : UV), ([] : UV), (0 : Int), (0 : Int), (⟨(0 : Int), (0 : Int)⟩ : Ad), ([] : List AA), ([] : UV)⟩ : AG), (0 : Int), x74⟩ : AI)] : List AI)).length))] H fun D H => at_nil ?_
     exact .inl ⟨_, rfl, BB M, _, H.ls, A⟩
    exact EJ (.inl ⟨_, rfl, BB M, _, H.ls, A⟩)
   clear O
   clear A
   intro e D P G
   rcases G with ⟨x77, rfl, rfl, r8, H, A⟩ | J
   ·show AW _ _ _ _ _ _ _
    refine AS (AH 5 (AX 3 [] 97 3 4 A H fun D t H => ?_))
    refine AN 1 [(98, .bool (decide ((i64.wrap (x4 - (x74.length : Int))) > 0)))] H fun D H => Ac 98 H M (fun B M H => ?_) fun B M H => ?_
    ·refine Bp (i := 1) (by kernel_rfl) ?_
     replace A := A.k5 2 3 0 1 4
     exact nx M ⟨_, _, _, _, _, _, _, _, _, _, _, _, _, _, _, _, _, _, _, _, _, _, _, _, _, _, _, _, _, _, _, _, _, rfl, _, _, H.ls, A⟩
    refine B3 5 id (AO 2 [(99, AP r8 x77.length), (100, .agg [Ai 3, .str ([] : UV), .str ([] : UV), Ab 0, Ai 0, Ai 0, Ai 0, .str ([] : UV), .str ([] : UV), Ai 0, Ai 0, Ai 0, Ai 0, .slice none 0, .str ([] : UV), Ai 0, .str ([] : UV)])] H fun D H => ?_)
    obtain ⟨h13, e2, A⟩ := A.pL 164 [Ai 3, .str ([] : UV), .str ([] : UV), Ab 0, Ai 0, Ai 0, Ai 0, .str ([] : UV), .str ([] : UV), Ai 0, Ai 0, Ai 0, Ai 0, vs AJ ([] : List AA), .str ([] : UV), Ai 0, .str ([] : UV)]
    refine BU 101 (AP (some P.size) (([(⟨(3 : Int), (⟨([] : UV), ([] : UV), (0 : Int), (0 : Int), (0 : Int), (0 : Int), ([] : UV), ([] : UV), (0 : Int), (0 : Int), (⟨(0 : Int), (0 : Int)⟩ : Ad), ([] : List AA), ([] : UV)⟩ : AG), (0 : Int), ([] : UV)⟩ : AI)] : List AI).length)) e2 H fun D t H => ?_
    obtain ⟨B, M⟩ := Aq M
    obtain ⟨r10, h14, X, E⟩ := HH.FN CU (by decide) A 5 (xs := x77) (ys := ([(⟨(3 : Int), (⟨([] : UV), ([] : UV), (0 : Int), (0 : Int), (0 : Int), (0 : Int), ([] : UV), ([] : UV), (0 : Int), (0 : Int), (⟨(0 : Int), (0 : Int)⟩ : Ad), ([] : List AA), ([] : UV)⟩ : AG), (0 : Int), ([] : UV)⟩ : AI)] : List AI)) rfl (C0 A 0 rfl (n := ([(⟨(3 : Int), (⟨([] : UV), ([] : UV), (0 : Int), (0 : Int), (0 : Int), (0 : Int), ([] : UV), ([] : UV), (0 : Int), (0 : Int), (⟨(0 : Int), (0 : Int)⟩ : Ad), ([] : List AA), ([] : UV)⟩ : AG), (0 : Int), ([] : UV)⟩ : AI)] : List AI).length) (z := 17) rfl (by decide)) rfl rfl B
    replace A : HH g h14 [.AQ (some P.size) 164 ([Ai 3, .str ([] : UV), .str ([] : UV), Ab 0, Ai 0, Ai 0, Ai 0, .str ([] : UV), .str ([] : UV), Ai 0, Ai 0, Ai 0, Ai 0, vs AJ ([] : List AA), .str ([] : UV), Ai 0, .str ([] : UV)]), _, _, _, _, .AQ r10 164 (AQ Al (x77 ++ ([(⟨(3 : Int), (⟨([] : UV), ([] : UV), (0 : Int), (0 : Int), (0 : Int), (0 : Int), ([] : UV), ([] : UV), (0 : Int), (0 : Int), (⟨(0 : Int), (0 : Int)⟩ : Ad), ([] : List AA), ([] : UV)⟩ : AG), (0 : Int), ([] : UV)⟩ : AI)] : List AI)))] F := E
    replace A := A.k5 1 2 3 4 5
    refine Ae 102 _ _ H (fun D => .of (DU (s := CF r8 x77.length) (by kernel_rfl) X)) fun D t H => ?_
    refine Bv 1 [(0, .ptr (some (bp0, 0))), (1, AP r10 ((x77 ++ ([(⟨(3 : Int), (⟨([] : UV), ([] : UV), (0 : Int), (0 : Int), (0 : Int), (0 : Int), ([] : UV), ([] : UV), (0 : Int), (0 : Int), (⟨(0 : Int), (0 : Int)⟩ : Ad), ([] : List AA), ([] : UV)⟩ : AG), (0 : Int), ([] : UV)⟩ : AI)] : List AI)).length))] H fun D H => ED 7 id (AX 5 [(103, .ptr (some (bp0, 0)))] 108 3 15 A H fun D t H => ?_)
    replace A := A.k5 3 0 1 2 4
    obtain ⟨x78, X, M⟩ := bind_some M
    obtain ⟨v1, h15, R, rfl, E⟩ := GK (av := [.ptr (some (bp0, 0)), Ai x15]) X (A.cut 4)
    replace A := A.P5 E
    refine KB R H fun D t H => ?_
    refine at_nil ?_
    replace A := A.k5 3 0 1 2 4
    exact nx M ⟨_, _, _, _, _, _, _, _, _, _, _, _, _, _, _, _, _, _, _, _, _, _, _, _, _, _, _, _, _, _, _, _, _, rfl, _, _, H.ls, A⟩
   exact J.elim
  refine AH 2 (AN 2 [(110, .bool (x3 == 2))] H fun D H => Ac 110 H M (fun B M H => ?_) fun B M H => ?_)
  ·refine AS (Ga 19 10 ?_)
   refine AX 3 [] 115 1 2 A H fun D t H => ?_
   refine AX 3 [] 119 1 4 A H fun D t H => ?_
   replace A := A.k5 2 3 0 1 4
   obtain ⟨⟨x79, x80, x81⟩, X, M⟩ := bind_some M
   obtain ⟨v1, h16, R, rfl, E⟩ := C1 (av := [.ptr (some (bp0_2, 0)), Ai x4]) X (A.cut 2)
   replace A := A.g22 E
   refine BM 120 R H fun D t H => ?_
   refine AN 1 [(7, .str x79)] H fun D H => AS (AH 9 (AO 3 [(123, .bool (x79 == ([] : UV)))] H fun D H => Bi 6 (fun N Q => h16 = Q ∧ Has N 197 [(0, .ptr (some (bp0, 0))), (1, AP r1 x32.length), (7, .str x79), (129, .bool ((x79 == ([] : UV)) && (decide (x4 > 0))))]) ?_ ?_))
   ·cases B : (x79 == ([] : UV) : Bool) with
    | true =>
     replace H := H.kn 123 B
     refine AX 3 [] 127 3 4 A H fun D t H => ?_
     exact AO 2 [(129, .bool (decide (x4 > 0)))] H fun D H => A8 H B
    | false =>
     replace H := H.kn 123 B
     exact AO 6 [(129, .bool false)] H fun D H => A8 H B
   intro t D Q I
   obtain ⟨e, H⟩ := I
   subst e
   refine Bq id (Ac 129 H M (fun B M H => ?_) fun B M H => ?_)
   ·refine Bp (i := 0) (by kernel_rfl) ?_
    replace A := A.k5 2 3 0 1 4
    exact nr M fun e => .inl ⟨_, _, _, _, _, _, _, _, _, _, _, _, _, _, _, _, _, _, _, _, _, _, _, _, _, _, _, _, _, _, _, _, _, rfl, e, _, _, H.ls, A⟩
   refine B3 10 id (AX 3 [(130, .ptr (some (bp0, 0)))] 133 3 4 A H fun D t H => ?_)
   obtain ⟨h17, X, A⟩ := A.s3 4 [Ai (i64.wrap (x4 - (x79.length : Int)))] [_, _, _, _, _, _, _, _, _, _, _, _, _, _, _, _, _, _, _, _, _, _, _, _, _, _, _, _, _, _, _]
   refine Bu 5 [] X H fun D t H => ?_
   refine Bs 10 id (AX 4 [(139, .ptr (some (bp0, 0)))] 143 3 23 A H fun D t H => ?_)
   refine AO 1 [(144, .str x79)] H fun D H => ?_
   obtain ⟨B, M⟩ := Aq M
   obtain ⟨r11, h18, X, E⟩ := HH.FN Df (by decide) A 2 (xs := x33) (ys := x79) rfl (FF _ x79) (Df.BP _) rfl B
   replace A : HH g h18 [_, _, .AQ r11 5 (AQ eY (x33 ++ x79)), _, _] F := E
   refine Ae 145 _ _ H (fun D => .of (DU (s := CF r2 x33.length) (by kernel_rfl) X)) fun D t H => ?_
   obtain ⟨h19, X, E⟩ := A.st 3 rfl (o := 23) (new := [AP r11 ((x33 ++ x79).length)]) (ds := [Ai x1, Ai x2, .ptr (some (bp0_2, 0)), Ai x3, Ai (i64.wrap (x4 - (x79.length : Int))), Ai x5, .bool x6, Ai x7, Ai x8, .str x9, .str x10, Ab x11, Ai x12, Ai x13, Ai x14, Ai x15, Ai x16, .str x17, .str x18, Ai x19, Ai x20, Ai x21, Ai x22, AP r11 ((x33 ++ x79).length), .slice none 0, .str x23, .str x24, .bool x25, .bool x26, .bool x27, .slice none 0]) (Nat.le_of_ble_eq_true rfl) rfl rfl
   replace A : HH g h19 [_, _, _, .obj bp0 (.cells none 2 [_, _, _, _, _, _, _, _, _, _, _, _, _, _, _, _, _, _, _, _, _, _, _, AP r11 ((x33 ++ x79).length), _, _, _, _, _, _, _]), _] F := E
   refine Bu 2 [] X H fun D t H => ?_
   refine Bq id (AS (AH 5 (AX 3 [] 151 3 4 A H fun D t H => ?_)))
   refine AN 1 [(152, .bool (decide ((i64.wrap (x4 - (x79.length : Int))) > 0)))] H fun D H => Ac 152 H M (fun B M H => ?_) fun B M H => ?_
   ·refine Bp (i := 1) (by kernel_rfl) ?_
    replace A := A.k5 2 3 0 1 4
    exact nx M ⟨_, _, _, _, _, _, _, _, _, _, _, _, _, _, _, _, _, _, _, _, _, _, _, _, _, _, _, _, _, _, _, _, _, rfl, _, _, H.ls, A⟩
   refine B3 2 id ?_
   cases M
  refine AH 2 (AN 2 [(167, .bool (x3 == 3))] H fun D H => Ac 167 H M (fun B M H => ?_) fun B M H => ?_)
  ·refine AS (J2 28 18 [(0, []), (1, []), (2, []), (3, []), (4, []), (5, []), (6, []), (7, []), (8, []), (9, []), (10, []), (11, []), (12, [3]), (13, []), (14, []), (15, []), (16, []), (17, [])] ?_)
   refine AO 3 [(169, .ptr (some (bp0, 0))), (171, .ptr (some (bp0, 4)))] H fun D H => C3 172 (Ai x4) h1 [(3, bp0)] (g.CD) H (fun D => .of (Ib (by kernel_rfl) (A.l1 1 4))) (fun D H => ?_)
   refine AO 3 [(175, .ptr (some (bp0, 2)))] H fun D H => C3 176 (.ptr (some (bp0_2, 0))) h1 [(7, bp0), (3, bp0)] (g.CD) H (fun D => .of (Ib (by kernel_rfl) (A.l1 1 2))) (fun D H => ?_)
   refine AO 3 [(179, .ptr (some (bp0, 4)))] H fun D H => C3 180 (Ai x4) h1 [(11, bp0), (7, bp0), (3, bp0)] (g.CD) H (fun D => .of (Ib (by kernel_rfl) (A.l1 1 4))) (fun D H => ?_)
   replace A := A.k5 2 3 0 1 4
   have E := A.Hw 2 (pr := [bp0]) (.cons 1 rfl (by simp [Ck.ids]) .nil)
   obtain ⟨⟨x82, x83, x84⟩, X, M⟩ := bind_some M
   obtain ⟨v1, h20, R, rfl, E⟩ := C1 (av := [.ptr (some (bp0_2, 0)), Ai x4]) X E
   replace A := A.Y7 E
   refine C3 181 (.str x82) h20 [(11, bp0), (7, bp0), (3, bp0)] (bp0 :: g.CD) H (fun D => Steps.call (by kernel_rfl) R) (fun D H => ?_)
   refine AO 4 [(183, Ai (i64.wrap (x4 - (x82.length : Int)))), (185, .ptr (some (bp0, 4)))] H fun D H => ?_
   obtain ⟨h21, X, A⟩ := A.s3 4 [Ai (i64.wrap (x4 - (x82.length : Int)))] [_, _, _, _, _, _, _, _, _, _, _, _, _, _, _, _, _, _, _, _, _, _, _, _, _, _, _, _, _, _, _]
   refine Kw (.tuple []) h21 [(11, bp0), (7, bp0), (3, bp0)] (g.CD) H (fun D => .of (Sr (by kernel_rfl) rfl X)) (fun D H => ?_)
   refine Bq id (AS (AH 5 (AX 3 [] 189 3 4 A H fun D t H => ?_)))
   refine AN 1 [(190, .bool (decide ((i64.wrap (x4 - (x82.length : Int))) > 0)))] H fun D H => Ac 190 H M (fun B M H => ?_) fun B M H => ?_
   ·refine Bp (i := 0) (by kernel_rfl) ?_
    replace A := A.k5 2 3 0 1 4
    exact nr M fun e => .inl ⟨_, _, _, _, _, _, _, _, _, _, _, _, _, _, _, _, _, _, _, _, _, _, _, _, _, _, _, _, _, _, _, _, _, rfl, e, _, _, H.ls, A⟩
   refine EX 4 id ?_
   obtain ⟨h22, X, A⟩ := A.s3 3 [Ai 0] [_, _, _, _, _, _, _, _, _, _, _, _, _, _, _, _, _, _, _, _, _, _, _, _, _, _, _, _, _, _, _]
   refine Bu 3 [] X H fun D t H => ?_
   refine at_nil ?_
   replace A := A.k5 2 3 0 1 4
   exact nx M ⟨_, _, _, _, _, _, _, _, _, _, _, _, _, _, _, _, _, _, _, _, _, _, _, _, _, _, _, _, _, _, _, _, _, rfl, _, _, H.ls, A⟩
  refine AH 2 (AN 2 [(194, .bool (x3 == 4))] H fun D H => Ac 194 H M (fun B M H => ?_) fun B M H => ?_)
  ·refine Bp (i := 0) (by kernel_rfl) ?_
   exact nr M fun e => .inl ⟨_, _, _, _, _, _, _, _, _, _, _, _, _, _, _, _, _, _, _, _, _, _, _, _, _, _, _, _, _, _, _, _, _, rfl, e, _, _, H.ls, A⟩
  exact EJ (nx M ⟨_, _, _, _, _, _, _, _, _, _, _, _, _, _, _, _, _, _, _, _, _, _, _, _, _, _, _, _, _, _, _, _, _, rfl, _, _, H.ls, A⟩)
 clear O
 clear A
 intro e D h23 G
 rcases G with ⟨x34, x35, x36, x37, x38, x39, x40, x41, x42, x43, x44, x45, x46, x47, x48, x49, x50, x51, x52, x53, x54, x55, x56, x57, x58, x59, x60, x61, x62, x63, x64, x65, x66, rfl, rfl, r3, r4, H, A⟩ | J
 ·show AW _ _ _ _ _ _ _
  refine AH 2 (AN 2 [(4, AP r3 x65.length)] H fun D H => AZ ?_)
  obtain ⟨rfl, rfl, rfl, rfl, rfl⟩ := Va M
  refine ⟨.inl rfl, AP r3 x65.length, rH H, ?_⟩
  replace A := A.k5 1 2 3 0 4
  exact ⟨r4, r3, rfl, A⟩
 exact J.elim
def BN (s : (List AI) × Int × Int × Int × Int × Int × Bool × Int × Int × (List UInt8) × (List UInt8) × Int × Int × Int × Int × Int × Int × (List UInt8) × (List UInt8) × Int × Int × Int × Int × (List UInt8) × (List UInt8) × Bool × Bool × Bool × (List UInt8) × Int × Bool × (List (List UInt8)) × (List UInt8) × (List UInt8)) : Option (((List AI) × Int × Int × Int × Int × Int × Bool × Int × Int × (List UInt8) × (List UInt8) × Int × Int × Int × Int × Int × Int × (List UInt8) × (List UInt8) × Int × Int × Int × Int × (List UInt8) × (List UInt8) × Bool × Bool × Bool × (List UInt8) × Int × Bool × (List (List UInt8)) × (List UInt8) × (List UInt8)) ⊕ (((List AI) × Int × Int × Int × Int × Int × Bool × Int × Int × (List UInt8) × (List UInt8) × Int × Int × Int × Int × Int × Int × (List UInt8) × (List UInt8) × Int × Int × Int × Int × (List UInt8) × (List UInt8) × Bool × Bool × Bool × (List UInt8) × Int × Bool × (List (List UInt8)) × (List UInt8)))) :=
 match s with
 | (x1, x2, x3, x4, x5, x6, x7, x8, x9, x10, x11, x12, x13, x14, x15, x16, x17, x18, x19, x20, x21, x22, x23, x24, x25, x26, x27, x28, x29, x30, x31, x32, x33, x34) => Ao ((decide ((x34.length : Int) > 0)) && (x4 != 4)) ((Kd x34 none (some (mn (x34.length : Int) (65536 : Int)))).bind fun x68 => (CA (⟨x32, x29, x30, x31⟩ : AU) x68).bind fun (x69, x70, x71) => (Kd x34 (some (mn (x34.length : Int) (65536 : Int))) none).bind fun x72 => (Bh (⟨(⟨x2, x3⟩ : CW), (⟨x71, x70.Bz, x70.Ar, x70.AY⟩ : AU), x4, x5, x6, x7, x8, x9, (⟨x10, x11, x12, x13, x14, x15, x16, x17, x18, x19, x20, x21, x22⟩ : AL), x23, x33, (⟨([] : List AA), x24, x25, x26, x27, x28⟩ : Ap), ([] : List AA)⟩ : AV) x1).bind fun (x74, x75, x76, x77, x78) => Ao (x74.BE == 4) ((EC (⟨x76, x75.Bz, x75.Ar, x75.AY⟩ : AU)).bind fun x79 => (A6 (⟨x76, x75.Bz, x75.Ar, x75.AY⟩ : AU) x79).bind fun (x80, x81, x82) => some (.inl (x78, x74.Aw.Head, x74.Aw.Name, x74.BE, x74.BQ, x74.at_, x74.BD, x74.BG, x74.BH, x74.AD.Name, x74.AD.A9, x74.AD.Kind, x74.AD.Mode, x74.AD.Cz, x74.AD.Ct, x74.AD.Bg, x74.AD.Time, x74.AD.Ah, x74.AD.Aj, x74.AD.Au, x74.AD.As, x74.AD.Form, x74.BI, x74.AM.Ba, x74.AM.Be, x74.AM.Ag, x74.AM.Af, x74.AM.Ak, x81.Bz, x81.Ar, x81.AY, x82, x77, x72))) (some (.inl (x78, x74.Aw.Head, x74.Aw.Name, x74.BE, x74.BQ, x74.at_, x74.BD, x74.BG, x74.BH, x74.AD.Name, x74.AD.A9, x74.AD.Kind, x74.AD.Mode, x74.AD.Cz, x74.AD.Ct, x74.AD.Bg, x74.AD.Time, x74.AD.Ah, x74.AD.Aj, x74.AD.Au, x74.AD.As, x74.AD.Form, x74.BI, x74.AM.Ba, x74.AM.Be, x74.AM.Ag, x74.AM.Af, x74.AM.Ak, x75.Bz, x75.Ar, x75.AY, x76, x77, x72)))) (some (.inr (x1, x2, x3, x4, x5, x6, x7, x8, x9, x10, x11, x12, x13, x14, x15, x16, x17, x18, x19, x20, x21, x22, x23, x24, x25, x26, x27, x28, x29, x30, x31, x32, x33)))
def Bo (p0 : AV) (p1 : List UInt8) : Option ((List AI) × Int × AV × AU × (List (List UInt8)) × (List UInt8)) :=
 (loop (BN) (([] : List AI), p0.Aw.Head, p0.Aw.Name, p0.BE, p0.BQ, p0.at_, p0.BD, p0.BG, p0.BH, p0.AD.Name, p0.AD.A9, p0.AD.Kind, p0.AD.Mode, p0.AD.Cz, p0.AD.Ct, p0.AD.Bg, p0.AD.Time, p0.AD.Ah, p0.AD.Aj, p0.AD.Au, p0.AD.As, p0.AD.Form, p0.BI, p0.AM.Ba, p0.AM.Be, p0.AM.Ag, p0.AM.Af, p0.AM.Ak, p0.Az.Bz, p0.Az.Ar, p0.Az.AY, p0.Az.BL, p0.DR, p1)).bind fun (x35, x36, x37, x38, x39, x40, x41, x42, x43, x44, x45, x46, x47, x48, x49, x50, x51, x52, x53, x54, x55, x56, x57, x58, x59, x60, x61, x62, x63, x64, x65, x66, x67) => some (x35, x42, (⟨(⟨x36, x37⟩ : CW), (⟨x66, x63, x64, x65⟩ : AU), x38, x39, x40, x41, x42, x43, (⟨x44, x45, x46, x47, x48, x49, x50, x51, x52, x53, x54, x55, x56⟩ : AL), x57, x67, (⟨([] : List AA), x58, x59, x60, x61, x62⟩ : Ap), ([] : List AA)⟩ : AV), (⟨x66, x63, x64, x65⟩ : AU), x66, x67)
theorem GJ {p0 p1 bp0 bp0_2 bp0_2_0 rp0_23 q0 q1 u0 u1 u2 u3} (M : Bo p0 p1 = some (q0, q1, u0, u1, u2, u3)) {h0} (A : HH g h [.obj bp0 (.cells none 2 [Ai p0.Aw.Head, Ai p0.Aw.Name, .ptr (some (bp0_2, 0)), Ai p0.BE, Ai p0.BQ, Ai p0.at_, .bool p0.BD, Ai p0.BG, Ai p0.BH, .str p0.AD.Name, .str p0.AD.A9, Ab p0.AD.Kind, Ai p0.AD.Mode, Ai p0.AD.Cz, Ai p0.AD.Ct, Ai p0.AD.Bg, Ai p0.AD.Time, .str p0.AD.Ah, .str p0.AD.Aj, Ai p0.AD.Au, Ai p0.AD.As, Ai p0.AD.Form, Ai p0.BI, AP rp0_23 p0.DR.length, .slice none 0, .str p0.AM.Ba, .str p0.AM.Be, .bool p0.AM.Ag, .bool p0.AM.Af, .bool p0.AM.Ak, .slice none 0]), .obj bp0_2 (.cells none 2 [.chan (some bp0_2_0), .str p0.Az.Bz, Ai p0.Az.Ar, .bool p0.Az.AY]), .obj bp0_2_0 (.chan 64 (AQ eS p0.Az.BL)), .AQ rp0_23 5 (AQ eY p0.DR)] F) (hc : K9 (Kf g) av h0 = some ([.ptr (some (bp0, 0)), vs eY p1], h) := by kernel_rfl) : ∃ v Q, BZ cfg g h0 88 av v Q ∧ ∃ (r'3 : Option Nat) (rq0 : Option Nat), v = .tuple [AP rq0 q0.length, Ai q1] ∧ HH g Q [.AQ rq0 164 (AQ Al q0), .obj bp0 (.cells none 2 [Ai u0.Aw.Head, Ai u0.Aw.Name, .ptr (some (bp0_2, 0)), Ai u0.BE, Ai u0.BQ, Ai u0.at_, .bool u0.BD, Ai u0.BG, Ai u0.BH, .str u0.AD.Name, .str u0.AD.A9, Ab u0.AD.Kind, Ai u0.AD.Mode, Ai u0.AD.Cz, Ai u0.AD.Ct, Ai u0.AD.Bg, Ai u0.AD.Time, .str u0.AD.Ah, .str u0.AD.Aj, Ai u0.AD.Au, Ai u0.AD.As, Ai u0.AD.Form, Ai u0.BI, AP r'3 u3.length, .slice none 0, .str u0.AM.Ba, .str u0.AM.Be, .bool u0.AM.Ag, .bool u0.AM.Af, .bool u0.AM.Ak, .slice none 0]), .obj bp0_2 (.cells none 2 [.chan (some bp0_2_0), .str u1.Bz, Ai u1.Ar, .bool u1.AY]), .obj bp0_2_0 (.chan 64 (AQ eS u2)), .AQ r'3 5 (AQ eY u3)] F := by
 refine Vq (n := 55) (rs := [.tmp 4, .tmp 5]) (by kernel_rfl) hc (by kernel_rfl) ?_
 clear hc
 unfold Bo at M
 refine bg 55 [(0, .ptr (some (bp0, 0))), (1, vs eY p1)] fun D H => ?_
 refine AH 2 (B5 2 [] 1 H fun D H => AN 1 [(6, .slice none 0)] H fun D H => AS (Aa (id := 0) (by kernel_rfl) ?_))
 replace A : HH g h [.AQ none 164 (AQ Al ([] : List AI)), _, _, _, _] F := A.Hv 164
 obtain ⟨o1, O, M⟩ := bind_some M
 refine Bb (Q' := fun e N Q => (∃ x35 x36 x37 x38 x39 x40 x41 x42 x43 x44 x45 x46 x47 x48 x49 x50 x51 x52 x53 x54 x55 x56 x57 x58 x59 x60 x61 x62 x63 x64 x65 x66 x67, e = .exit 0 ∧ (x35, x36, x37, x38, x39, x40, x41, x42, x43, x44, x45, x46, x47, x48, x49, x50, x51, x52, x53, x54, x55, x56, x57, x58, x59, x60, x61, x62, x63, x64, x65, x66, x67) = o1 ∧ ∃ r3 r4, Has N 55 [(0, .ptr (some (bp0, 0))), (6, AP r3 x35.length)] ∧ HH g Q [.AQ r3 164 (AQ Al x35), .obj bp0 (.cells none 2 [Ai x36, Ai x37, .ptr (some (bp0_2, 0)), Ai x38, Ai x39, Ai x40, .bool x41, Ai x42, Ai x43, .str x44, .str x45, Ab x46, Ai x47, Ai x48, Ai x49, Ai x50, Ai x51, .str x52, .str x53, Ai x54, Ai x55, Ai x56, Ai x57, AP r4 x67.length, .slice none 0, .str x58, .str x59, .bool x60, .bool x61, .bool x62, .slice none 0]), .obj bp0_2 (.cells none 2 [.chan (some bp0_2_0), .str x63, Ai x64, .bool x65]), .obj bp0_2_0 (.chan 64 (AQ eS x66)), .AQ r4 5 (AQ eY x67)] F) ∨ False) ?_ ?_
 ·refine C2 (by kernel_rfl) (fun (s : (List AI) × Int × Int × Int × Int × Int × Bool × Int × Int × (List UInt8) × (List UInt8) × Int × Int × Int × Int × Int × Int × (List UInt8) × (List UInt8) × Int × Int × Int × Int × (List UInt8) × (List UInt8) × Bool × Bool × Bool × (List UInt8) × Int × Bool × (List (List UInt8)) × (List UInt8) × (List UInt8)) N Q => ∃ x1 x2 x3 x4 x5 x6 x7 x8 x9 x10 x11 x12 x13 x14 x15 x16 x17 x18 x19 x20 x21 x22 x23 x24 x25 x26 x27 x28 x29 x30 x31 x32 x33 x34, (x1, x2, x3, x4, x5, x6, x7, x8, x9, x10, x11, x12, x13, x14, x15, x16, x17, x18, x19, x20, x21, x22, x23, x24, x25, x26, x27, x28, x29, x30, x31, x32, x33, x34) = s ∧ ∃ r1 r2, Has N 55 [(0, .ptr (some (bp0, 0))), (1, vs eY x34), (6, AP r1 x1.length)] ∧ HH g Q [.AQ r1 164 (AQ Al x1), .obj bp0 (.cells none 2 [Ai x2, Ai x3, .ptr (some (bp0_2, 0)), Ai x4, Ai x5, Ai x6, .bool x7, Ai x8, Ai x9, .str x10, .str x11, Ab x12, Ai x13, Ai x14, Ai x15, Ai x16, Ai x17, .str x18, .str x19, Ai x20, Ai x21, Ai x22, Ai x23, AP r2 x33.length, .slice none 0, .str x24, .str x25, .bool x26, .bool x27, .bool x28, .slice none 0]), .obj bp0_2 (.cells none 2 [.chan (some bp0_2_0), .str x29, Ai x30, .bool x31]), .obj bp0_2_0 (.chan 64 (AQ eS x32)), .AQ r2 5 (AQ eY x33)] F) O ⟨_, _, _, _, _, _, _, _, _, _, _, _, _, _, _, _, _, _, _, _, _, _, _, _, _, _, _, _, _, _, _, _, _, _, rfl, none, rp0_23, H.ls, A⟩ ?_
  clear O M H A
  intro s q D h1 S M
  obtain ⟨x1, x2, x3, x4, x5, x6, x7, x8, x9, x10, x11, x12, x13, x14, x15, x16, x17, x18, x19, x20, x21, x22, x23, x24, x25, x26, x27, x28, x29, x30, x31, x32, x33, x34, rfl, r1, r2, H, A⟩ := S
  unfold BN at M
  refine AS (AH 10 (AO 4 [(11, .bool (decide ((x34.length : Int) > 0)))] H fun D H => Bi 6 (fun N Q => h1 = Q ∧ Has N 55 [(0, .ptr (some (bp0, 0))), (1, vs eY x34), (6, AP r1 x1.length), (17, .bool ((decide ((x34.length : Int) > 0)) && (x4 != 4)))]) ?_ ?_))
  ·cases B : (decide ((x34.length : Int) > 0) : Bool) with
   | true =>
    replace H := H.kn 11 B
    refine AX 3 [] 15 1 3 A H fun D t H => ?_
    exact AO 2 [(17, .bool (x4 != 4))] H fun D H => A8 H B
   | false =>
    replace H := H.kn 11 B
    exact AO 6 [(17, .bool false)] H fun D H => A8 H B
  intro t D Q I
  obtain ⟨e, H⟩ := I
  subst e
  refine Bq id (Ac 17 H M (fun B M H => ?_) fun B M H => ?_)
  ·refine CT id (Aa (id := 1) (by kernel_rfl) ?_)
   refine AH 4 (AN 4 [(7, Ai (mn (x34.length : Int) (65536 : Int)))] H fun D H => AS (Ga 4 8 ?_))
   refine AX 3 [] 24 1 2 A H fun D t H => ?_
   obtain ⟨x68, X, M⟩ := bind_some M
   refine B0 2 [] 27 (vs eY x68) h1 H (fun D => .of (Tu (e := eY) Df (k := .i64) (k' := .i64) (lo := none) (hi := (some (mn (x34.length : Int) (65536 : Int)))) (by kernel_rfl) X)) fun D t H => ?_
   replace A := A.k5 2 3 0 1 4
   obtain ⟨⟨x69, x70, x71⟩, X, M⟩ := bind_some M
   obtain ⟨v1, h2, R, rfl, E⟩ := JO (av := [.ptr (some (bp0_2, 0)), vs eY x68]) X (A.cut 2)
   replace A := A.g22 E
   refine KB R H fun D t H => ?_
   refine Bs 4 id ?_
   obtain ⟨x72, X, M⟩ := bind_some M
   refine B0 2 [] 31 (vs eY x72) h2 H (fun D => .of (Tu (e := eY) Df (k := .i64) (k' := .i64) (lo := (some (mn (x34.length : Int) (65536 : Int)))) (hi := none) (by kernel_rfl) X)) fun D t H => ?_
   refine Bv 1 [(0, .ptr (some (bp0, 0))), (1, vs eY x72), (6, AP r1 x1.length)] H fun D H => Bs 4 id ?_
   replace A := A.k5 3 0 1 4 2
   obtain ⟨⟨x74, x75, x76, x77, x78⟩, X, M⟩ := bind_some M
   obtain ⟨v1, C, R, r5, r6, rfl, E⟩ := GA (av := [.ptr (some (bp0, 0)), AP r1 x1.length]) X (A.cut 5)
   replace A : HH g C [.obj bp0 (.cells none 2 [Ai x74.Aw.Head, Ai x74.Aw.Name, _, Ai x74.BE, Ai x74.BQ, Ai x74.at_, .bool x74.BD, Ai x74.BG, Ai x74.BH, .str x74.AD.Name, .str x74.AD.A9, Ab x74.AD.Kind, Ai x74.AD.Mode, Ai x74.AD.Cz, Ai x74.AD.Ct, Ai x74.AD.Bg, Ai x74.AD.Time, .str x74.AD.Ah, .str x74.AD.Aj, Ai x74.AD.Au, Ai x74.AD.As, Ai x74.AD.Form, Ai x74.BI, AP r5 x77.length, _, .str x74.AM.Ba, .str x74.AM.Be, .bool x74.AM.Ag, .bool x74.AM.Af, .bool x74.AM.Ak, _]), .obj bp0_2 (.cells none 2 [_, .str x75.Bz, Ai x75.Ar, .bool x75.AY]), .obj bp0_2_0 (.chan 64 (AQ eS x76)), .AQ r5 5 (AQ eY x77), .AQ r6 164 (AQ Al x78)] F := A.Eg (n := 5) E
   refine BC 2 [] 34 R H fun D t H => ?_
   refine Bv 1 [(0, .ptr (some (bp0, 0))), (1, vs eY x72), (6, AP r6 x78.length)] H fun D H => Bs 5 id (AX 3 [] 38 0 3 A H fun D t H => ?_)
   refine AN 1 [(39, .bool (x74.BE == 4))] H fun D H => Ac 39 H M (fun B M H => ?_) fun B M H => ?_
   ·refine J2 8 10 [(0, []), (1, []), (2, []), (3, []), (4, []), (5, []), (6, []), (7, []), (8, [3]), (9, [])] ?_
    refine AO 3 [(42, .ptr (some (bp0, 2)))] H fun D H => C3 43 (.ptr (some (bp0_2, 0))) C [(3, bp0)] (g.CD) H (fun D => .of (Ib (by kernel_rfl) (A.l1 0 2))) (fun D H => ?_)
    refine AO 3 [(46, .ptr (some (bp0, 2)))] H fun D H => C3 47 (.ptr (some (bp0_2, 0))) C [(7, bp0), (3, bp0)] (g.CD) H (fun D => .of (Ib (by kernel_rfl) (A.l1 0 2))) (fun D H => ?_)
    replace A := A.k5 1 2 0 3 4
    have E := A.Hw 2 (pr := [bp0]) (.cons 0 rfl (by simp [Ck.ids]) .nil)
    obtain ⟨x79, X, M⟩ := bind_some M
    obtain ⟨v1, K, R, rfl, E⟩ := Je (av := [.ptr (some (bp0_2, 0))]) X E
    replace A := A.Y7 E
    refine C3 48 (Ai x79) K [(7, bp0), (3, bp0)] (bp0 :: g.CD) H (fun D => Steps.call (by kernel_rfl) R) (fun D H => ?_)
    obtain ⟨⟨x80, x81, x82⟩, X, M⟩ := bind_some M
    obtain ⟨v1, T, R, rfl, E⟩ := C1 (av := [.ptr (some (bp0_2, 0)), Ai x79]) X (A.cut 2)
    replace A := A.g22 E
    refine Kw (.str x80) T [(7, bp0), (3, bp0)] (g.CD) H (fun D => Steps.call (by kernel_rfl) R) (fun D H => ?_)
    refine at_nil ?_
    replace A := A.k5 4 2 0 1 3
    exact nx M ⟨_, _, _, _, _, _, _, _, _, _, _, _, _, _, _, _, _, _, _, _, _, _, _, _, _, _, _, _, _, _, _, _, _, _, rfl, _, _, H.ls, A⟩
   refine EJ ?_
   replace A := A.k5 4 0 1 2 3
   exact nx M ⟨_, _, _, _, _, _, _, _, _, _, _, _, _, _, _, _, _, _, _, _, _, _, _, _, _, _, _, _, _, _, _, _, _, _, rfl, _, _, H.ls, A⟩
  refine Bp (i := 0) (by kernel_rfl) ?_
  exact nr M fun e => .inl ⟨_, _, _, _, _, _, _, _, _, _, _, _, _, _, _, _, _, _, _, _, _, _, _, _, _, _, _, _, _, _, _, _, _, rfl, e, _, _, H.ls, A⟩
 clear O
 clear A
 intro e D V G
 rcases G with ⟨x35, x36, x37, x38, x39, x40, x41, x42, x43, x44, x45, x46, x47, x48, x49, x50, x51, x52, x53, x54, x55, x56, x57, x58, x59, x60, x61, x62, x63, x64, x65, x66, x67, rfl, rfl, r3, r4, H, A⟩ | J
 ·show AW _ _ _ _ _ _ _
  refine AS (Ga 9 7 ?_)
  refine AX 4 [(50, AP r3 x35.length)] 54 1 7 A H fun D t H => ?_
  refine AN 2 [(4, AP r3 x35.length), (5, Ai x42)] H fun D H => AZ ?_
  obtain ⟨rfl, rfl, rfl, rfl, rfl, rfl⟩ := Y0 M
  exact ⟨.inl rfl, _, rH H, _, _, rfl, A⟩
 exact J.elim
end
end Go.Av.L
