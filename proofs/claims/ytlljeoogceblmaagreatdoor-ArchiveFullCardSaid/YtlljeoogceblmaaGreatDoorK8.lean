/-
 A part.
-/
import Derived.Test.YtlljeoogceblmaaGreatDoorKCfg
import Derived.Test.YtlljeoogceblmaaGreatDoorK3
import Derived.Test.YtlljeoogceblmaaGreatDoorK6
import Derived.Test.YtlljeoogceblmaaGreatDoorK7
namespace Go.Av.L
open Go.Av Go.Lib
open IntKind (i64)
set_option maxRecDepth 10000
set_option linter.unusedVariables false
set_option linter.unusedSimpArgs false
variable {g : Gd} {h : AF} {F : List Ck} {av : List AB}
noncomputable section
def A7 (x3 : List AI) (s : ((List AG) × (List UInt8) × (List UInt8) × Int × Int × Int × Int × (List UInt8) × (List UInt8) × Int × Int × Int × Int × (List UInt8) × (List UInt8) × Int) ⊕ ((List AG) × (List UInt8) × (List UInt8) × Int × Int × Int × Int × (List UInt8) × (List UInt8) × Int × Int × Int × Int × (List AA) × (List UInt8) × (List UInt8) × Int)) : Option ((((List AG) × (List UInt8) × (List UInt8) × Int × Int × Int × Int × (List UInt8) × (List UInt8) × Int × Int × Int × Int × (List UInt8) × (List UInt8) × Int) ⊕ ((List AG) × (List UInt8) × (List UInt8) × Int × Int × Int × Int × (List UInt8) × (List UInt8) × Int × Int × Int × Int × (List AA) × (List UInt8) × (List UInt8) × Int)) ⊕ (((List AG) × (List UInt8) × (List UInt8) × Int × Int × Int × Int × (List UInt8) × (List UInt8) × Int × Int × Int × Int × (List UInt8)) ⊕ ((List AG) × (List UInt8) × (List UInt8) × Int × Int × Int × Int × (List UInt8) × (List UInt8) × Int × Int × Int × Int × (List AA) × (List UInt8)) ⊕ ((List UInt8) × (List UInt8) × Int × Int × Int × Int × (List UInt8) × (List UInt8) × Int × Int × Int × Int × (List UInt8) × Int × Int) ⊕ ((List UInt8) × (List UInt8) × Int × Int × Int × Int × (List UInt8) × (List UInt8) × Int × Int × Int × Int × (List AA) × (List UInt8) × Int × Int))) :=
 match s with
 | .inl (x12, x13, x14, x15, x16, x17, x18, x19, x20, x21, x22, x23, x24, x25, x26, x27) => Ao (decide (x27 < (x3.length : Int))) (((Ii x3 x27).bind fun x124 => Ao (x124.Kind == 1) (some (.inl (x124.B6.Name, x124.B6.A9, x124.B6.Kind, x124.B6.Mode, x124.B6.Cz, x124.B6.Ct, x124.B6.Ah, x124.B6.Aj, x124.B6.Au, x124.B6.As, x124.B6.Time.F8, x124.B6.Time.EY, x124.B6.Extra, x124.B6.Data))) (Ao (x124.Kind == 2) (Cl (Hs 1 (x26.length + x124.Bytes.length)) <| some (.inr (.inl ((x26 ++ x124.Bytes), x12, x25)))) (Ao (x124.Kind == 3) (Ao ((x12.length : Int) == 4096) (some (.inr (.inr (.inr ((7 : Int), (0 : Int)))))) (Cl (Hs 168 (x12.length + ([(⟨x13, x14, x15, x16, x17, x18, x19, x20, x21, x22, (⟨x23, x24⟩ : Ad), ([] : List AA), x26⟩ : AG)] : List AG).length)) <| some (.inr (.inl (x26, (x12 ++ ([(⟨x13, x14, x15, x16, x17, x18, x19, x20, x21, x22, (⟨x23, x24⟩ : Ad), ([] : List AA), x26⟩ : AG)] : List AG)), x26))))) (some (.inr (.inr (.inl ())))))) : Option (((List UInt8) × (List UInt8) × Int × Int × Int × Int × (List UInt8) × (List UInt8) × Int × Int × Int × Int × (List AA) × (List UInt8)) ⊕ ((List UInt8) × (List AG) × (List UInt8)) ⊕ (Unit) ⊕ (Int × Int))).bind fun o2 => (match o2 with | .inl (x105, x106, x107, x108, x109, x110, x111, x112, x113, x114, x115, x116, x117, x118) => some (.inl (.inr (x12, x105, x106, x107, x108, x109, x110, x111, x112, x113, x114, x115, x116, x117, x118, ([] : UV), i64.wrap (x27 + 1)))) | .inr (.inl (x119, x120, x121)) => some (.inl (.inl (x120, x13, x14, x15, x16, x17, x18, x19, x20, x21, x22, x23, x24, x121, x119, i64.wrap (x27 + 1)))) | .inr (.inr (.inl _)) => some (.inr (.inl (x12, x13, x14, x15, x16, x17, x18, x19, x20, x21, x22, x23, x24, x25))) | .inr (.inr (.inr (x122, x123))) => some (.inr (.inr (.inr (.inl (x13, x14, x15, x16, x17, x18, x19, x20, x21, x22, x23, x24, x25, x122, x123))))))) (some (.inr (.inl (x12, x13, x14, x15, x16, x17, x18, x19, x20, x21, x22, x23, x24, x25))))
 | .inr (x28, x29, x30, x31, x32, x33, x34, x35, x36, x37, x38, x39, x40, x41, x42, x43, x44) => Ao (decide (x44 < (x3.length : Int))) (((Ii x3 x44).bind fun x143 => Ao (x143.Kind == 1) (some (.inl (x28, x143.B6.Name, x143.B6.A9, x143.B6.Kind, x143.B6.Mode, x143.B6.Cz, x143.B6.Ct, x143.B6.Ah, x143.B6.Aj, x143.B6.Au, x143.B6.As, x143.B6.Time.F8, x143.B6.Time.EY, x143.B6.Extra, x143.B6.Data, ([] : UV)))) (Ao (x143.Kind == 2) (Cl (Hs 1 (x43.length + x143.Bytes.length)) <| some (.inl (x28, x29, x30, x31, x32, x33, x34, x35, x36, x37, x38, x39, x40, x41, x42, (x43 ++ x143.Bytes)))) (Ao (x143.Kind == 3) (Ao ((x28.length : Int) == 4096) (some (.inr (.inr ((7 : Int), (0 : Int))))) (Cl (Hs 168 (x28.length + ([(⟨x29, x30, x31, x32, x33, x34, x35, x36, x37, x38, (⟨x39, x40⟩ : Ad), x41, x43⟩ : AG)] : List AG).length)) <| some (.inl ((x28 ++ ([(⟨x29, x30, x31, x32, x33, x34, x35, x36, x37, x38, (⟨x39, x40⟩ : Ad), x41, x43⟩ : AG)] : List AG)), x29, x30, x31, x32, x33, x34, x35, x36, x37, x38, x39, x40, x41, x43, x43)))) (some (.inr (.inl ()))))) : Option (((List AG) × (List UInt8) × (List UInt8) × Int × Int × Int × Int × (List UInt8) × (List UInt8) × Int × Int × Int × Int × (List AA) × (List UInt8) × (List UInt8)) ⊕ (Unit) ⊕ (Int × Int))).bind fun o3 => (match o3 with | .inl (x125, x126, x127, x128, x129, x130, x131, x132, x133, x134, x135, x136, x137, x138, x139, x140) => some (.inl (.inr (x125, x126, x127, x128, x129, x130, x131, x132, x133, x134, x135, x136, x137, x138, x139, x140, i64.wrap (x44 + 1)))) | .inr (.inl _) => some (.inr (.inr (.inl (x28, x29, x30, x31, x32, x33, x34, x35, x36, x37, x38, x39, x40, x41, x42)))) | .inr (.inr (x141, x142)) => some (.inr (.inr (.inr (.inr (x29, x30, x31, x32, x33, x34, x35, x36, x37, x38, x39, x40, x41, x42, x141, x142))))))) (some (.inr (.inr (.inl (x28, x29, x30, x31, x32, x33, x34, x35, x36, x37, x38, x39, x40, x41, x42)))))
def Ce (p0 : List UInt8) (p1 : CW) : Option ((List AG) × Int × Int) :=
 (G4 p1).bind fun (w2, x2) => (match w2 with | some x1w1 => Ao (x2 != 0) (some (([] : List AG), x2, (0 : Int))) (Cl (decide (p0.length ≤ 1099511627776)) <| (Bo (⟨x1w1.Aw, x1w1.Az, x1w1.BE, x1w1.BQ, x1w1.at_, x1w1.BD, x1w1.BG, x1w1.BH, x1w1.AD, x1w1.BI, x1w1.DR, (⟨([] : List AA), x1w1.AM.Ba, x1w1.AM.Be, x1w1.AM.Ag, x1w1.AM.Af, x1w1.AM.Ak⟩ : Ap), ([] : List AA)⟩ : AV) p0).bind fun (x3, x4, x5, x6, x7, x8) => (Bx (⟨x5.Aw, (⟨x7, x6.Bz, x6.Ar, x6.AY⟩ : AU), x5.BE, x5.BQ, x5.at_, x5.BD, x5.BG, x5.BH, x5.AD, x5.BI, x8, (⟨([] : List AA), x5.AM.Ba, x5.AM.Be, x5.AM.Ag, x5.AM.Af, x5.AM.Ak⟩ : Ap), ([] : List AA)⟩ : AV)).bind fun (x9, x10, x11) => (loop (A7 x3) (.inl (([] : List AG), ([] : UV), ([] : UV), (0 : Int), (0 : Int), (0 : Int), (0 : Int), ([] : UV), ([] : UV), (0 : Int), (0 : Int), (0 : Int), (0 : Int), ([] : UV), ([] : UV), (0 : Int)))).bind fun o1 => (match o1 with | .inl (x45, x46, x47, x48, x49, x50, x51, x52, x53, x54, x55, x56, x57, x58) => (By (⟨x10.Aw, (⟨x7, x6.Bz, x6.Ar, x6.AY⟩ : AU), x10.BE, x10.BQ, x10.at_, x10.BD, x10.BG, x10.BH, x10.AD, x10.BI, x11, (⟨([] : List AA), x10.AM.Ba, x10.AM.Be, x10.AM.Ag, x10.AM.Af, x10.AM.Ak⟩ : Ap), ([] : List AA)⟩ : AV)).bind fun (x144, x145) => some (x45, x144, x145) | .inr (.inl (x59, x60, x61, x62, x63, x64, x65, x66, x67, x68, x69, x70, x71, x72, x73)) => (By (⟨x10.Aw, (⟨x7, x6.Bz, x6.Ar, x6.AY⟩ : AU), x10.BE, x10.BQ, x10.at_, x10.BD, x10.BG, x10.BH, x10.AD, x10.BI, x11, (⟨([] : List AA), x10.AM.Ba, x10.AM.Be, x10.AM.Ag, x10.AM.Af, x10.AM.Ak⟩ : Ap), ([] : List AA)⟩ : AV)).bind fun (x146, x147) => some (x59, x146, x147) | .inr (.inr (.inl (x74, x75, x76, x77, x78, x79, x80, x81, x82, x83, x84, x85, x86, x87, x88))) => some (([] : List AG), x87, x88) | .inr (.inr (.inr (x89, x90, x91, x92, x93, x94, x95, x96, x97, x98, x99, x100, x101, x102, x103, x104))) => some (([] : List AG), x103, x104))) | none => Ao (x2 != 0) (some (([] : List AG), x2, (0 : Int))) (Cl (decide (p0.length ≤ 1099511627776)) <| none))
theorem H3 {p0 p1 q0 q1 q2} (M : Ce p0 p1 = some (q0, q1, q2)) (A : HH g h [] F) (hc : BP (cfg.still 38) av = [.str p0, .agg [Ai p1.Head, Ai p1.Name]] := by kernel_rfl) : ∃ v Q, BZ cfg g h 38 av v Q ∧ ∃ (rq0 : Option Nat), v = .tuple [AP rq0 q0.length, Ai q1, Ai q2] ∧ HH g Q [.AQ rq0 26 (AQ AE q0)] F := by
 refine EE 73 [.tmp 4, .tmp 5, .tmp 6] hc ?_
 clear hc
 unfold Ce at M
 refine bg 73 [(0, .str p0), (1, .agg [Ai p1.Head, Ai p1.Name])] fun D H => ?_
 refine AH 4 ?_
 obtain ⟨h1, e1, A⟩ := A.pu (.cells none 2 [Ai p1.Head, Ai p1.Name])
 refine BU 3 (.ptr (some (h.size, 0))) e1 H fun D t H => ?_
 refine AN 3 [] H fun D H => Lv (by kernel_rfl) ?_
 refine AH 7 (Ae 18 _ _ H (fun D => .of (BX (by kernel_rfl) (A.Ef 0 rfl (o := 0) (n := 2) ⟨Nat.le_of_ble_eq_true rfl, rfl⟩))) fun D t H => ?_)
 obtain ⟨⟨w2, x2⟩, X, M⟩ := bind_some M
 obtain ⟨v1, h2, R, hc⟩ := Ob (av := [.agg [Ai p1.Head, Ai p1.Name]]) X (A.cut 0)
 rcases hc with ⟨bx1w1, bx1w1_2, bx1w1_2_0, rx1w1_23, x1w1, rfl, rfl, E⟩ | ⟨rfl, rfl, E⟩
 ·replace A : HH g h2 [.obj bx1w1 (.cells none 2 [Ai x1w1.Aw.Head, Ai x1w1.Aw.Name, .ptr (some (bx1w1_2, 0)), Ai x1w1.BE, Ai x1w1.BQ, Ai x1w1.at_, .bool x1w1.BD, Ai x1w1.BG, Ai x1w1.BH, .str x1w1.AD.Name, .str x1w1.AD.A9, Ab x1w1.AD.Kind, Ai x1w1.AD.Mode, Ai x1w1.AD.Cz, Ai x1w1.AD.Ct, Ai x1w1.AD.Bg, Ai x1w1.AD.Time, .str x1w1.AD.Ah, .str x1w1.AD.Aj, Ai x1w1.AD.Au, Ai x1w1.AD.As, Ai x1w1.AD.Form, Ai x1w1.BI, AP rx1w1_23 x1w1.DR.length, .slice none 0, .str x1w1.AM.Ba, .str x1w1.AM.Be, .bool x1w1.AM.Ag, .bool x1w1.AM.Af, .bool x1w1.AM.Ak, .slice none 0]), .obj bx1w1_2 (.cells none 2 [.chan (some bx1w1_2_0), .str x1w1.Az.Bz, Ai x1w1.Az.Ar, .bool x1w1.Az.AY]), .obj bx1w1_2_0 (.chan 64 (AQ eS x1w1.Az.BL)), .AQ rx1w1_23 5 (AQ eY x1w1.DR), .obj h.size (.cells none 2 [Ai p1.Head, Ai p1.Name])] F := A.Eg (n := 0) E
  refine BM 19 R H fun D t H => ?_
  refine AN 5 [(7, .ptr (some (bx1w1, 0))), (8, Ai x2)] H fun D H => AS (AH 2 (AN 2 [(23, .bool (x2 != 0))] H fun D H => Ac 23 H M (fun B M H => ?_) fun B M H => ?_))
  ·refine AH 4 (AN 4 [(4, .slice none 0), (5, Ai x2), (6, Ai 0)] H fun D H => AZ ?_)
   obtain ⟨rfl, rfl, rfl⟩ := EG M
   refine ⟨.inl rfl, .tuple [.slice none 0, Ai x2, Ai 0], rH H, ?_⟩
   replace A : HH g h2 [.AQ none 26 (AQ AE ([] : List AG)), _, _, _, _, _] F := A.Hv 26
   replace A := A.d1
   exact ⟨none, rfl, A⟩
  refine B3 9 id (AO 2 [(26, .ptr (some (bx1w1, 0))), (27, .str p0)] H fun D H => ?_)
  obtain ⟨B, M⟩ := Aq M
  obtain ⟨Y, e2⟩ : ∃ x, x = h2.push (.cells (some 5) 2 (p0.map fun b => Ab b.toNat)) := ⟨_, rfl⟩
  replace A := (A.Se _ _).to e2
  rw [UN] at A
  refine Ae 28 (AP (some h2.size) p0.length) Y H (fun D => .of (WI (by kernel_rfl) B (congrArg some e2.symm))) fun D t H => ?_
  obtain ⟨h4, hz1, E⟩ := (A.front 0 rfl).Zh (n := p0.length) (z := 1) (Df.Gb _) (by decide)
  replace A : HH g h4 [_, _, _, _, _] F := E
  have E := A.cut 4
  obtain ⟨⟨x3, x4, x5, x6, x7, x8⟩, X, M⟩ := bind_some M
  obtain ⟨v1, h5, R, r1, rqw4, rfl, E⟩ := GJ (av := [.ptr (some (bx1w1, 0)), AP (some h2.size) p0.length]) X (h0 := Y) (hc := (by first | rfl | (simp only [YW, Xc, X8, Y1, YG, YC, YU, YE, Xj, hz1, Option.map_some] <;> rfl))) E
  replace A := A.Zp E
  refine BM 29 R H fun D t H => ?_
  refine B5 5 [(9, AP rqw4 x3.length)] 2 H fun D H => ?_
  replace A := A.k6 1 2 3 4 0 5
  obtain ⟨⟨x9, x10, x11⟩, X, M⟩ := bind_some M
  obtain ⟨v1, C, R, r2, rfl, E⟩ := F2 (av := [.ptr (some (bx1w1, 0))]) X (A.cut 4)
  replace A := A.P5 E
  refine El 1 [] R H fun D t H => ?_
  refine Bs 1 id (B5 1 [(11, .slice none 0)] 1 H fun D H => ?_)
  obtain ⟨W, e3, A⟩ := A.pu (.cells none 2 [.str ([] : UV), .str ([] : UV), Ab 0, Ai 0, Ai 0, Ai 0, .str ([] : UV), .str ([] : UV), Ai 0, Ai 0, Ai 0, Ai 0, .slice none 0, .str ([] : UV)])
  refine BU 12 (.ptr (some (C.size, 0))) e3 H fun D t H => ?_
  refine Bs 1 id (AN 1 [(13, .slice none 0)] H fun D H => AS (LY (by kernel_rfl) ?_))
  show AW _ _ _ _ _ _ _
  refine AS (AH 3 (AN 3 [(34, AP rqw4 x3.length), (35, Ai (x3.length : Int)), (36, Ai 0)] H fun D H => Aa (id := 0) (by kernel_rfl) ?_))
  replace A : HH g W [.AQ none 5 (AQ eY ([] : UV)), .obj C.size (.cells none 2 [.str ([] : UV), .str ([] : UV), Ab 0, Ai 0, Ai 0, Ai 0, .str ([] : UV), .str ([] : UV), Ai 0, Ai 0, Ai 0, Ai 0, .slice none 0, .str ([] : UV)]), _, _, _, _, _, _] F := A.Hv 5
  replace A : HH g W [.AQ none 26 (AQ AE ([] : List AG)), _, _, _, _, _, _, _, _] F := A.Hv 26
  replace A := A.k9 1 0 2 3 4 5 6 7 8
  obtain ⟨o1, O, M⟩ := bind_some M
  refine Bb (Q' := fun e N Q => (∃ x45 x46 x47 x48 x49 x50 x51 x52 x53 x54 x55 x56 x57 x58, e = .exit 0 ∧ .inl (x45, x46, x47, x48, x49, x50, x51, x52, x53, x54, x55, x56, x57, x58) = o1 ∧ ∃ r7, Has N 73 [(7, .ptr (some (bx1w1, 0))), (11, AP r7 x45.length)] ∧ HH g Q [.AQ r7 26 (AQ AE x45), .obj C.size (.cells none 2 [.str x46, .str x47, Ab x48, Ai x49, Ai x50, Ai x51, .str x52, .str x53, Ai x54, Ai x55, Ai x56, Ai x57, .slice none 0, .str x58]), .obj bx1w1 (.cells none 2 [Ai x10.Aw.Head, Ai x10.Aw.Name, .ptr (some (bx1w1_2, 0)), Ai x10.BE, Ai x10.BQ, Ai x10.at_, .bool x10.BD, Ai x10.BG, Ai x10.BH, .str x10.AD.Name, .str x10.AD.A9, Ab x10.AD.Kind, Ai x10.AD.Mode, Ai x10.AD.Cz, Ai x10.AD.Ct, Ai x10.AD.Bg, Ai x10.AD.Time, .str x10.AD.Ah, .str x10.AD.Aj, Ai x10.AD.Au, Ai x10.AD.As, Ai x10.AD.Form, Ai x10.BI, AP r2 x11.length, .slice none 0, .str x10.AM.Ba, .str x10.AM.Be, .bool x10.AM.Ag, .bool x10.AM.Af, .bool x10.AM.Ak, .slice none 0]), .obj bx1w1_2 (.cells none 2 [.chan (some bx1w1_2_0), .str x6.Bz, Ai x6.Ar, .bool x6.AY]), .obj bx1w1_2_0 (.chan 64 (AQ eS x7)), .AQ r2 5 (AQ eY x11), .obj h.size (.cells none 2 [Ai p1.Head, Ai p1.Name])] F) ∨ (∃ x59 x60 x61 x62 x63 x64 x65 x66 x67 x68 x69 x70 x71 x72 x73, e = .exit 0 ∧ .inr (.inl (x59, x60, x61, x62, x63, x64, x65, x66, x67, x68, x69, x70, x71, x72, x73)) = o1 ∧ ∃ r8, Has N 73 [(7, .ptr (some (bx1w1, 0))), (11, AP r8 x59.length)] ∧ HH g Q [.AQ r8 26 (AQ AE x59), .obj C.size (.cells none 2 [.str x60, .str x61, Ab x62, Ai x63, Ai x64, Ai x65, .str x66, .str x67, Ai x68, Ai x69, Ai x70, Ai x71, vs AJ x72, .str x73]), .obj bx1w1 (.cells none 2 [Ai x10.Aw.Head, Ai x10.Aw.Name, .ptr (some (bx1w1_2, 0)), Ai x10.BE, Ai x10.BQ, Ai x10.at_, .bool x10.BD, Ai x10.BG, Ai x10.BH, .str x10.AD.Name, .str x10.AD.A9, Ab x10.AD.Kind, Ai x10.AD.Mode, Ai x10.AD.Cz, Ai x10.AD.Ct, Ai x10.AD.Bg, Ai x10.AD.Time, .str x10.AD.Ah, .str x10.AD.Aj, Ai x10.AD.Au, Ai x10.AD.As, Ai x10.AD.Form, Ai x10.BI, AP r2 x11.length, .slice none 0, .str x10.AM.Ba, .str x10.AM.Be, .bool x10.AM.Ag, .bool x10.AM.Af, .bool x10.AM.Ak, .slice none 0]), .obj bx1w1_2 (.cells none 2 [.chan (some bx1w1_2_0), .str x6.Bz, Ai x6.Ar, .bool x6.AY]), .obj bx1w1_2_0 (.chan 64 (AQ eS x7)), .AQ r2 5 (AQ eY x11), .obj h.size (.cells none 2 [Ai p1.Head, Ai p1.Name])] F) ∨ (∃ x74 x75 x76 x77 x78 x79 x80 x81 x82 x83 x84 x85 x86 x87 x88, e = .ret ∧ .inr (.inr (.inl (x74, x75, x76, x77, x78, x79, x80, x81, x82, x83, x84, x85, x86, x87, x88))) = o1 ∧ Has N 73 [(4, .slice none 0), (5, Ai x87), (6, Ai x88)] ∧ HH g Q [.obj C.size (.cells none 2 [.str x74, .str x75, Ab x76, Ai x77, Ai x78, Ai x79, .str x80, .str x81, Ai x82, Ai x83, Ai x84, Ai x85, .slice none 0, .str x86]), .obj bx1w1 (.cells none 2 [Ai x10.Aw.Head, Ai x10.Aw.Name, .ptr (some (bx1w1_2, 0)), Ai x10.BE, Ai x10.BQ, Ai x10.at_, .bool x10.BD, Ai x10.BG, Ai x10.BH, .str x10.AD.Name, .str x10.AD.A9, Ab x10.AD.Kind, Ai x10.AD.Mode, Ai x10.AD.Cz, Ai x10.AD.Ct, Ai x10.AD.Bg, Ai x10.AD.Time, .str x10.AD.Ah, .str x10.AD.Aj, Ai x10.AD.Au, Ai x10.AD.As, Ai x10.AD.Form, Ai x10.BI, AP r2 x11.length, .slice none 0, .str x10.AM.Ba, .str x10.AM.Be, .bool x10.AM.Ag, .bool x10.AM.Af, .bool x10.AM.Ak, .slice none 0]), .obj bx1w1_2 (.cells none 2 [.chan (some bx1w1_2_0), .str x6.Bz, Ai x6.Ar, .bool x6.AY]), .obj bx1w1_2_0 (.chan 64 (AQ eS x7)), .AQ r2 5 (AQ eY x11), .obj h.size (.cells none 2 [Ai p1.Head, Ai p1.Name])] F) ∨ (∃ x89 x90 x91 x92 x93 x94 x95 x96 x97 x98 x99 x100 x101 x102 x103 x104, e = .ret ∧ .inr (.inr (.inr (x89, x90, x91, x92, x93, x94, x95, x96, x97, x98, x99, x100, x101, x102, x103, x104))) = o1 ∧ Has N 73 [(4, .slice none 0), (5, Ai x103), (6, Ai x104)] ∧ HH g Q [.obj C.size (.cells none 2 [.str x89, .str x90, Ab x91, Ai x92, Ai x93, Ai x94, .str x95, .str x96, Ai x97, Ai x98, Ai x99, Ai x100, vs AJ x101, .str x102]), .obj bx1w1 (.cells none 2 [Ai x10.Aw.Head, Ai x10.Aw.Name, .ptr (some (bx1w1_2, 0)), Ai x10.BE, Ai x10.BQ, Ai x10.at_, .bool x10.BD, Ai x10.BG, Ai x10.BH, .str x10.AD.Name, .str x10.AD.A9, Ab x10.AD.Kind, Ai x10.AD.Mode, Ai x10.AD.Cz, Ai x10.AD.Ct, Ai x10.AD.Bg, Ai x10.AD.Time, .str x10.AD.Ah, .str x10.AD.Aj, Ai x10.AD.Au, Ai x10.AD.As, Ai x10.AD.Form, Ai x10.BI, AP r2 x11.length, .slice none 0, .str x10.AM.Ba, .str x10.AM.Be, .bool x10.AM.Ag, .bool x10.AM.Af, .bool x10.AM.Ak, .slice none 0]), .obj bx1w1_2 (.cells none 2 [.chan (some bx1w1_2_0), .str x6.Bz, Ai x6.Ar, .bool x6.AY]), .obj bx1w1_2_0 (.chan 64 (AQ eS x7)), .AQ r2 5 (AQ eY x11), .obj h.size (.cells none 2 [Ai p1.Head, Ai p1.Name])] F) ∨ False) ?_ ?_
  ·refine C2 (by kernel_rfl) (fun (s : ((List AG) × (List UInt8) × (List UInt8) × Int × Int × Int × Int × (List UInt8) × (List UInt8) × Int × Int × Int × Int × (List UInt8) × (List UInt8) × Int) ⊕ ((List AG) × (List UInt8) × (List UInt8) × Int × Int × Int × Int × (List UInt8) × (List UInt8) × Int × Int × Int × Int × (List AA) × (List UInt8) × (List UInt8) × Int)) N Q => (∃ x12 x13 x14 x15 x16 x17 x18 x19 x20 x21 x22 x23 x24 x25 x26 x27, .inl (x12, x13, x14, x15, x16, x17, x18, x19, x20, x21, x22, x23, x24, x25, x26, x27) = s ∧ ∃ r3 r4, Has N 73 [(7, .ptr (some (bx1w1, 0))), (11, AP r3 x12.length), (12, .ptr (some (C.size, 0))), (13, AP r4 x26.length), (34, AP rqw4 x3.length), (35, Ai (x3.length : Int)), (36, Ai x27)] ∧ HH g Q [.AQ r4 5 (AQ eY x26), .AQ r3 26 (AQ AE x12), .obj C.size (.cells none 2 [.str x13, .str x14, Ab x15, Ai x16, Ai x17, Ai x18, .str x19, .str x20, Ai x21, Ai x22, Ai x23, Ai x24, .slice none 0, .str x25]), .obj bx1w1 (.cells none 2 [Ai x10.Aw.Head, Ai x10.Aw.Name, .ptr (some (bx1w1_2, 0)), Ai x10.BE, Ai x10.BQ, Ai x10.at_, .bool x10.BD, Ai x10.BG, Ai x10.BH, .str x10.AD.Name, .str x10.AD.A9, Ab x10.AD.Kind, Ai x10.AD.Mode, Ai x10.AD.Cz, Ai x10.AD.Ct, Ai x10.AD.Bg, Ai x10.AD.Time, .str x10.AD.Ah, .str x10.AD.Aj, Ai x10.AD.Au, Ai x10.AD.As, Ai x10.AD.Form, Ai x10.BI, AP r2 x11.length, .slice none 0, .str x10.AM.Ba, .str x10.AM.Be, .bool x10.AM.Ag, .bool x10.AM.Af, .bool x10.AM.Ak, .slice none 0]), .obj bx1w1_2 (.cells none 2 [.chan (some bx1w1_2_0), .str x6.Bz, Ai x6.Ar, .bool x6.AY]), .obj bx1w1_2_0 (.chan 64 (AQ eS x7)), .AQ r2 5 (AQ eY x11), .AQ rqw4 164 (AQ Al x3), .obj h.size (.cells none 2 [Ai p1.Head, Ai p1.Name])] F) ∨ (∃ x28 x29 x30 x31 x32 x33 x34 x35 x36 x37 x38 x39 x40 x41 x42 x43 x44, .inr (x28, x29, x30, x31, x32, x33, x34, x35, x36, x37, x38, x39, x40, x41, x42, x43, x44) = s ∧ ∃ r5 r6, Has N 73 [(7, .ptr (some (bx1w1, 0))), (11, AP r5 x28.length), (12, .ptr (some (C.size, 0))), (13, AP r6 x43.length), (34, AP rqw4 x3.length), (35, Ai (x3.length : Int)), (36, Ai x44)] ∧ HH g Q [.AQ r6 5 (AQ eY x43), .AQ r5 26 (AQ AE x28), .obj C.size (.cells none 2 [.str x29, .str x30, Ab x31, Ai x32, Ai x33, Ai x34, .str x35, .str x36, Ai x37, Ai x38, Ai x39, Ai x40, vs AJ x41, .str x42]), .obj bx1w1 (.cells none 2 [Ai x10.Aw.Head, Ai x10.Aw.Name, .ptr (some (bx1w1_2, 0)), Ai x10.BE, Ai x10.BQ, Ai x10.at_, .bool x10.BD, Ai x10.BG, Ai x10.BH, .str x10.AD.Name, .str x10.AD.A9, Ab x10.AD.Kind, Ai x10.AD.Mode, Ai x10.AD.Cz, Ai x10.AD.Ct, Ai x10.AD.Bg, Ai x10.AD.Time, .str x10.AD.Ah, .str x10.AD.Aj, Ai x10.AD.Au, Ai x10.AD.As, Ai x10.AD.Form, Ai x10.BI, AP r2 x11.length, .slice none 0, .str x10.AM.Ba, .str x10.AM.Be, .bool x10.AM.Ag, .bool x10.AM.Af, .bool x10.AM.Ak, .slice none 0]), .obj bx1w1_2 (.cells none 2 [.chan (some bx1w1_2_0), .str x6.Bz, Ai x6.Ar, .bool x6.AY]), .obj bx1w1_2_0 (.chan 64 (AQ eS x7)), .AQ r2 5 (AQ eY x11), .AQ rqw4 164 (AQ Al x3), .obj h.size (.cells none 2 [Ai p1.Head, Ai p1.Name])] F)) O (Or.inl ⟨_, _, _, _, _, _, _, _, _, _, _, _, _, _, _, _, rfl, none, none, H.ls, A⟩) ?_
   clear O M H A
   intro s q D V hI M
   rcases hI with ⟨x12, x13, x14, x15, x16, x17, x18, x19, x20, x21, x22, x23, x24, x25, x26, x27, rfl, r3, r4, H, A⟩ | ⟨x28, x29, x30, x31, x32, x33, x34, x35, x36, x37, x38, x39, x40, x41, x42, x43, x44, rfl, r5, r6, H, A⟩
   ·unfold A7 at M
    refine AH 1 (AN 1 [(37, .bool (decide (x27 < (x3.length : Int))))] H fun D H => AS (Ac 37 H M (fun B M H => ?_) fun B M H => ?_))
    ·refine CT id (AS ?_)
     obtain ⟨o2, O, M⟩ := bind_some M
     refine Bb (Q' := fun e N Q => (∃ x105 x106 x107 x108 x109 x110 x111 x112 x113 x114 x115 x116 x117 x118, e = .normal ∧ .inl (x105, x106, x107, x108, x109, x110, x111, x112, x113, x114, x115, x116, x117, x118) = o2 ∧ Has N 73 [(7, .ptr (some (bx1w1, 0))), (11, AP r3 x12.length), (12, .ptr (some (C.size, 0))), (13, .slice none 0), (34, AP rqw4 x3.length), (35, Ai (x3.length : Int)), (36, Ai x27)] ∧ HH g Q [.AQ r3 26 (AQ AE x12), .obj C.size (.cells none 2 [.str x105, .str x106, Ab x107, Ai x108, Ai x109, Ai x110, .str x111, .str x112, Ai x113, Ai x114, Ai x115, Ai x116, vs AJ x117, .str x118]), .obj bx1w1 (.cells none 2 [Ai x10.Aw.Head, Ai x10.Aw.Name, .ptr (some (bx1w1_2, 0)), Ai x10.BE, Ai x10.BQ, Ai x10.at_, .bool x10.BD, Ai x10.BG, Ai x10.BH, .str x10.AD.Name, .str x10.AD.A9, Ab x10.AD.Kind, Ai x10.AD.Mode, Ai x10.AD.Cz, Ai x10.AD.Ct, Ai x10.AD.Bg, Ai x10.AD.Time, .str x10.AD.Ah, .str x10.AD.Aj, Ai x10.AD.Au, Ai x10.AD.As, Ai x10.AD.Form, Ai x10.BI, AP r2 x11.length, .slice none 0, .str x10.AM.Ba, .str x10.AM.Be, .bool x10.AM.Ag, .bool x10.AM.Af, .bool x10.AM.Ak, .slice none 0]), .obj bx1w1_2 (.cells none 2 [.chan (some bx1w1_2_0), .str x6.Bz, Ai x6.Ar, .bool x6.AY]), .obj bx1w1_2_0 (.chan 64 (AQ eS x7)), .AQ r2 5 (AQ eY x11), .AQ rqw4 164 (AQ Al x3), .obj h.size (.cells none 2 [Ai p1.Head, Ai p1.Name])] F) ∨ (∃ x119 x120 x121, e = .normal ∧ .inr (.inl (x119, x120, x121)) = o2 ∧ ∃ r9 r10, Has N 73 [(7, .ptr (some (bx1w1, 0))), (11, AP r10 x120.length), (12, .ptr (some (C.size, 0))), (13, AP r9 x119.length), (34, AP rqw4 x3.length), (35, Ai (x3.length : Int)), (36, Ai x27)] ∧ HH g Q [.AQ r9 5 (AQ eY x119), .AQ r10 26 (AQ AE x120), .obj C.size (.cells none 2 [.str x13, .str x14, Ab x15, Ai x16, Ai x17, Ai x18, .str x19, .str x20, Ai x21, Ai x22, Ai x23, Ai x24, .slice none 0, .str x121]), .obj bx1w1 (.cells none 2 [Ai x10.Aw.Head, Ai x10.Aw.Name, .ptr (some (bx1w1_2, 0)), Ai x10.BE, Ai x10.BQ, Ai x10.at_, .bool x10.BD, Ai x10.BG, Ai x10.BH, .str x10.AD.Name, .str x10.AD.A9, Ab x10.AD.Kind, Ai x10.AD.Mode, Ai x10.AD.Cz, Ai x10.AD.Ct, Ai x10.AD.Bg, Ai x10.AD.Time, .str x10.AD.Ah, .str x10.AD.Aj, Ai x10.AD.Au, Ai x10.AD.As, Ai x10.AD.Form, Ai x10.BI, AP r2 x11.length, .slice none 0, .str x10.AM.Ba, .str x10.AM.Be, .bool x10.AM.Ag, .bool x10.AM.Af, .bool x10.AM.Ak, .slice none 0]), .obj bx1w1_2 (.cells none 2 [.chan (some bx1w1_2_0), .str x6.Bz, Ai x6.Ar, .bool x6.AY]), .obj bx1w1_2_0 (.chan 64 (AQ eS x7)), .AQ r2 5 (AQ eY x11), .AQ rqw4 164 (AQ Al x3), .obj h.size (.cells none 2 [Ai p1.Head, Ai p1.Name])] F) ∨ (e = .exit 0 ∧ .inr (.inr (.inl ())) = o2 ∧ Has N 73 [(7, .ptr (some (bx1w1, 0))), (11, AP r3 x12.length)] ∧ HH g Q [.AQ r3 26 (AQ AE x12), .obj C.size (.cells none 2 [.str x13, .str x14, Ab x15, Ai x16, Ai x17, Ai x18, .str x19, .str x20, Ai x21, Ai x22, Ai x23, Ai x24, .slice none 0, .str x25]), .obj bx1w1 (.cells none 2 [Ai x10.Aw.Head, Ai x10.Aw.Name, .ptr (some (bx1w1_2, 0)), Ai x10.BE, Ai x10.BQ, Ai x10.at_, .bool x10.BD, Ai x10.BG, Ai x10.BH, .str x10.AD.Name, .str x10.AD.A9, Ab x10.AD.Kind, Ai x10.AD.Mode, Ai x10.AD.Cz, Ai x10.AD.Ct, Ai x10.AD.Bg, Ai x10.AD.Time, .str x10.AD.Ah, .str x10.AD.Aj, Ai x10.AD.Au, Ai x10.AD.As, Ai x10.AD.Form, Ai x10.BI, AP r2 x11.length, .slice none 0, .str x10.AM.Ba, .str x10.AM.Be, .bool x10.AM.Ag, .bool x10.AM.Af, .bool x10.AM.Ak, .slice none 0]), .obj bx1w1_2 (.cells none 2 [.chan (some bx1w1_2_0), .str x6.Bz, Ai x6.Ar, .bool x6.AY]), .obj bx1w1_2_0 (.chan 64 (AQ eS x7)), .AQ r2 5 (AQ eY x11), .obj h.size (.cells none 2 [Ai p1.Head, Ai p1.Name])] F) ∨ (∃ x122 x123, e = .ret ∧ .inr (.inr (.inr (x122, x123))) = o2 ∧ Has N 73 [(4, .slice none 0), (5, Ai x122), (6, Ai x123)] ∧ HH g Q [.obj C.size (.cells none 2 [.str x13, .str x14, Ab x15, Ai x16, Ai x17, Ai x18, .str x19, .str x20, Ai x21, Ai x22, Ai x23, Ai x24, .slice none 0, .str x25]), .obj bx1w1 (.cells none 2 [Ai x10.Aw.Head, Ai x10.Aw.Name, .ptr (some (bx1w1_2, 0)), Ai x10.BE, Ai x10.BQ, Ai x10.at_, .bool x10.BD, Ai x10.BG, Ai x10.BH, .str x10.AD.Name, .str x10.AD.A9, Ab x10.AD.Kind, Ai x10.AD.Mode, Ai x10.AD.Cz, Ai x10.AD.Ct, Ai x10.AD.Bg, Ai x10.AD.Time, .str x10.AD.Ah, .str x10.AD.Aj, Ai x10.AD.Au, Ai x10.AD.As, Ai x10.AD.Form, Ai x10.BI, AP r2 x11.length, .slice none 0, .str x10.AM.Ba, .str x10.AM.Be, .bool x10.AM.Ag, .bool x10.AM.Af, .bool x10.AM.Ak, .slice none 0]), .obj bx1w1_2 (.cells none 2 [.chan (some bx1w1_2_0), .str x6.Bz, Ai x6.Ar, .bool x6.AY]), .obj bx1w1_2_0 (.chan 64 (AQ eS x7)), .AQ r2 5 (AQ eY x11), .obj h.size (.cells none 2 [Ai p1.Head, Ai p1.Name])] F) ∨ False) ?_ ?_
     ·replace M := O
      clear O
      refine Aa (id := 1) (by kernel_rfl) ?_
      refine AH 4 ?_
      obtain ⟨x124, X, M⟩ := bind_some M
      obtain ⟨i1, er1, _, X, hq1⟩ := HH.Ra CU (by decide) A 7 (xs := x3) rfl X
      refine Ae 38 (.ptr (some (i1, x27.toNat * 17))) V H (fun D => .of (G1 (s := CF rqw4 x3.length) (by kernel_rfl) X)) fun D t H => ?_
      refine Ae 39 _ _ H (fun D => .of (BX (by kernel_rfl) (IH CU (HH.row A 7 rfl er1) hq1 0 17 (Nat.le_of_ble_eq_true rfl)))) fun D t H => ?_
      obtain ⟨h9, e4, A⟩ := A.pu (.cells none 2 [Ai 0, .str ([] : UV), .str ([] : UV), Ab 0, Ai 0, Ai 0, Ai 0, .str ([] : UV), .str ([] : UV), Ai 0, Ai 0, Ai 0, Ai 0, .slice none 0, .str ([] : UV), Ai 0, .str ([] : UV)])
      refine BU 15 (.ptr (some (V.size, 0))) e4 H fun D t H => ?_
      obtain ⟨h10, X, A⟩ := A.s0 0 (Al x124) [_, _, _, _, _, _, _, _, _, _, _, _, _, _, _, _, _]
      refine C9 X H fun D t H => ?_
      refine Bs 2 id (AX 1 [] 41 0 0 A H fun D t H => ?_)
      refine Bq id (Aa (id := 2) (by kernel_rfl) ?_)
      refine AH 2 (AN 2 [(42, .bool (x124.Kind == 1))] H fun D H => Ac 42 H M (fun B M H => ?_) fun B M H => ?_)
      ·refine CE 4 (B0 1 [] 45 _ _ H (fun D => .of (BX (by kernel_rfl) (A.Ef 0 rfl (o := 1) (n := 14) ⟨Nat.le_of_ble_eq_true rfl, rfl⟩))) fun D t H => ?_)
       obtain ⟨h11, X, A⟩ := A.s3 0 (AE x124.B6) [_, _, _, _, _, _, _, _, _, _, _, _, _, _]
       refine C9 X H fun D t H => ?_
       refine Bv 1 [(7, .ptr (some (bx1w1, 0))), (11, AP r3 x12.length), (12, .ptr (some (C.size, 0))), (13, .slice none 0), (34, AP rqw4 x3.length), (35, Ai (x3.length : Int)), (36, Ai x27)] H fun D H => at_nil ?_
       replace A := A.k8 2 3 4 5 6 7 8 9
       exact .inl ⟨_, _, _, _, _, _, _, _, _, _, _, _, _, _, rfl, BB M, H.ls, A⟩
      refine AH 2 (AN 2 [(46, .bool (x124.Kind == 2))] H fun D H => Ac 46 H M (fun B M H => ?_) fun B M H => ?_)
      ·refine CE 5 (AX 2 [(48, AP r4 x26.length)] 50 0 16 A H fun D t H => ?_)
       obtain ⟨B, M⟩ := Aq M
       obtain ⟨r11, h12, X, E⟩ := HH.FN Df (by decide) A 1 (xs := x26) (ys := x124.Bytes) rfl (FF _ x124.Bytes) (Df.BP _) rfl B
       replace A : HH g h12 [_, .AQ r11 5 (AQ eY (x26 ++ x124.Bytes)), _, _, _, _, _, _, _, _] F := E
       refine Ae 51 _ _ H (fun D => .of (DU (s := CF r4 x26.length) (by kernel_rfl) X)) fun D t H => ?_
       refine Bv 1 [(7, .ptr (some (bx1w1, 0))), (11, AP r3 x12.length), (12, .ptr (some (C.size, 0))), (13, AP r11 ((x26 ++ x124.Bytes).length)), (34, AP rqw4 x3.length), (35, Ai (x3.length : Int)), (36, Ai x27)] H fun D H => at_nil ?_
       replace A := A.k9 1 2 3 4 5 6 7 8 9
       exact .inr (.inl ⟨_, _, _, rfl, BB M, _, _, H.ls, A⟩)
      refine AH 2 (AN 2 [(52, .bool (x124.Kind == 3))] H fun D H => Ac 52 H M (fun B M H => ?_) fun B M H => ?_)
      ·refine AS (AH 3 (AN 3 [(56, .bool ((x12.length : Int) == 4096))] H fun D H => Ac 56 H M (fun B M H => ?_) fun B M H => ?_))
       ·refine AH 3 (AN 3 [(4, .slice none 0), (5, Ai 7), (6, Ai 0)] H fun D H => AZ ?_)
        replace A := A.k6 3 4 5 6 7 9
        exact .inr (.inr (.inr (.inl ⟨_, _, rfl, BB M, H.ls, A⟩)))
       refine B3 4 id (AO 1 [(57, AP r4 x26.length)] H fun D H => Ae 58 (.str x26) h10 H (fun D => .of (Kt (xs := x26) A 1 rfl (by kernel_rfl))) fun D t H => ?_)
       obtain ⟨U, X, A⟩ := A.s3 13 [.str x26] [_, _, _, _, _, _, _, _, _, _, _, _, _, _]
       refine Bu 1 [] X H fun D t H => ?_
       refine ED 5 id (B0 1 [(60, AP r3 x12.length)] 61 _ _ H (fun D => .of (BX (by kernel_rfl) (A.Ef 3 rfl (o := 0) (n := 14) ⟨Nat.le_of_ble_eq_true rfl, rfl⟩))) fun D t H => ?_)
       obtain ⟨h14, e5, A⟩ := A.pL 26 [.str x13, .str x14, Ab x15, Ai x16, Ai x17, Ai x18, .str x19, .str x20, Ai x21, Ai x22, Ai x23, Ai x24, vs AJ ([] : List AA), .str x26]
       refine BU 62 (AP (some U.size) (([(⟨x13, x14, x15, x16, x17, x18, x19, x20, x21, x22, (⟨x23, x24⟩ : Ad), ([] : List AA), x26⟩ : AG)] : List AG).length)) e5 H fun D t H => ?_
       obtain ⟨B, M⟩ := Aq M
       obtain ⟨r12, T, X, E⟩ := HH.FN CK (by decide) A 3 (xs := x12) (ys := ([(⟨x13, x14, x15, x16, x17, x18, x19, x20, x21, x22, (⟨x23, x24⟩ : Ad), ([] : List AA), x26⟩ : AG)] : List AG)) rfl (C0 A 0 rfl (n := ([(⟨x13, x14, x15, x16, x17, x18, x19, x20, x21, x22, (⟨x23, x24⟩ : Ad), ([] : List AA), x26⟩ : AG)] : List AG).length) (z := 14) rfl (by decide)) rfl rfl B
       replace A : HH g T [.AQ (some U.size) 26 ([.str x13, .str x14, Ab x15, Ai x16, Ai x17, Ai x18, .str x19, .str x20, Ai x21, Ai x22, Ai x23, Ai x24, vs AJ ([] : List AA), .str x26]), _, _, .AQ r12 26 (AQ AE (x12 ++ ([(⟨x13, x14, x15, x16, x17, x18, x19, x20, x21, x22, (⟨x23, x24⟩ : Ad), ([] : List AA), x26⟩ : AG)] : List AG))), _, _, _, _, _, _, _] F := E
       replace A : HH g T [_, _, _, _, _, _, _, _, _, _] F := (HH.Nz ((((((((((A.front 10 rfl).front 10 rfl).front 10 rfl).front 10 rfl).front 10 rfl).front 10 rfl).front 10 rfl).front 10 rfl).front 10 rfl).front 10 rfl) 10)
       refine Ae 63 _ _ H (fun D => .of (DU (s := CF r3 x12.length) (by kernel_rfl) X)) fun D t H => ?_
       refine Bv 1 [(7, .ptr (some (bx1w1, 0))), (11, AP r12 ((x12 ++ ([(⟨x13, x14, x15, x16, x17, x18, x19, x20, x21, x22, (⟨x23, x24⟩ : Ad), ([] : List AA), x26⟩ : AG)] : List AG)).length)), (12, .ptr (some (C.size, 0))), (13, AP r4 x26.length), (34, AP rqw4 x3.length), (35, Ai (x3.length : Int)), (36, Ai x27)] H fun D H => at_nil ?_
       replace A := A.k9 1 2 3 4 5 6 7 8 9
       exact .inr (.inl ⟨_, _, _, rfl, BB M, _, _, H.ls, A⟩)
      refine Bp (i := 0) (by kernel_rfl) ?_
      replace A := A.k7 2 3 4 5 6 7 9
      exact .inr (.inr (.inl ⟨rfl, BB M, H.ls, A⟩))
     clear O
     clear A
     intro e D h16 I
     rcases I with ⟨x105, x106, x107, x108, x109, x110, x111, x112, x113, x114, x115, x116, x117, x118, rfl, rfl, H, A⟩ | ⟨x119, x120, x121, rfl, rfl, r9, r10, H, A⟩ | ⟨rfl, rfl, H, A⟩ | ⟨x122, x123, rfl, rfl, H, A⟩ | J
     ·show AW _ _ _ _ _ _ _
      refine CE 2 (Bv 2 [(7, .ptr (some (bx1w1, 0))), (11, AP r3 x12.length), (12, .ptr (some (C.size, 0))), (13, .slice none 0), (34, AP rqw4 x3.length), (35, Ai (x3.length : Int)), (36, Ai (i64.wrap (x27 + 1)))] H fun D H => at_nil ?_)
      replace A : HH g h16 [.AQ none 5 (AQ eY ([] : UV)), _, _, _, _, _, _, _, _] F := A.Hv 5
      exact Exists.intro (.inr (x12, x105, x106, x107, x108, x109, x110, x111, x112, x113, x114, x115, x116, x117, x118, ([] : UV), i64.wrap (x27 + 1))) (And.intro (Option.some.inj M).symm (Or.inr (⟨x12, x105, x106, x107, x108, x109, x110, x111, x112, x113, x114, x115, x116, x117, x118, ([] : UV), i64.wrap (x27 + 1), rfl, r3, none, H.ls, A⟩)))
     ·show AW _ _ _ _ _ _ _
      refine CE 2 (Bv 2 [(7, .ptr (some (bx1w1, 0))), (11, AP r10 x120.length), (12, .ptr (some (C.size, 0))), (13, AP r9 x119.length), (34, AP rqw4 x3.length), (35, Ai (x3.length : Int)), (36, Ai (i64.wrap (x27 + 1)))] H fun D H => at_nil ?_)
      exact Exists.intro (.inl (x120, x13, x14, x15, x16, x17, x18, x19, x20, x21, x22, x23, x24, x121, x119, i64.wrap (x27 + 1))) (And.intro (Option.some.inj M).symm (Or.inl ⟨x120, x13, x14, x15, x16, x17, x18, x19, x20, x21, x22, x23, x24, x121, x119, i64.wrap (x27 + 1), rfl, r10, r9, H.ls, A⟩))
     ·exact nr M fun e => .inl ⟨_, _, _, _, _, _, _, _, _, _, _, _, _, _, rfl, e, _, H.ls, A⟩
     ·exact nr M fun e => Or.inr (.inr (.inl ⟨_, _, _, _, _, _, _, _, _, _, _, _, _, _, _, rfl, e, H.ls, A⟩))
     exact J.elim
    refine Bp (i := 0) (by kernel_rfl) ?_
    replace A := A.k7 1 2 3 4 5 6 8
    exact nr M fun e => .inl ⟨_, _, _, _, _, _, _, _, _, _, _, _, _, _, rfl, e, _, H.ls, A⟩
   unfold A7 at M
   refine AH 1 (AN 1 [(37, .bool (decide (x44 < (x3.length : Int))))] H fun D H => AS (Ac 37 H M (fun B M H => ?_) fun B M H => ?_))
   ·refine CT id (AS ?_)
    obtain ⟨o3, O, M⟩ := bind_some M
    refine Bb (Q' := fun e N Q => (∃ x125 x126 x127 x128 x129 x130 x131 x132 x133 x134 x135 x136 x137 x138 x139 x140, e = .normal ∧ .inl (x125, x126, x127, x128, x129, x130, x131, x132, x133, x134, x135, x136, x137, x138, x139, x140) = o3 ∧ ∃ r13 r14, Has N 73 [(7, .ptr (some (bx1w1, 0))), (11, AP r13 x125.length), (12, .ptr (some (C.size, 0))), (13, AP r14 x140.length), (34, AP rqw4 x3.length), (35, Ai (x3.length : Int)), (36, Ai x44)] ∧ HH g Q [.AQ r14 5 (AQ eY x140), .AQ r13 26 (AQ AE x125), .obj C.size (.cells none 2 [.str x126, .str x127, Ab x128, Ai x129, Ai x130, Ai x131, .str x132, .str x133, Ai x134, Ai x135, Ai x136, Ai x137, vs AJ x138, .str x139]), .obj bx1w1 (.cells none 2 [Ai x10.Aw.Head, Ai x10.Aw.Name, .ptr (some (bx1w1_2, 0)), Ai x10.BE, Ai x10.BQ, Ai x10.at_, .bool x10.BD, Ai x10.BG, Ai x10.BH, .str x10.AD.Name, .str x10.AD.A9, Ab x10.AD.Kind, Ai x10.AD.Mode, Ai x10.AD.Cz, Ai x10.AD.Ct, Ai x10.AD.Bg, Ai x10.AD.Time, .str x10.AD.Ah, .str x10.AD.Aj, Ai x10.AD.Au, Ai x10.AD.As, Ai x10.AD.Form, Ai x10.BI, AP r2 x11.length, .slice none 0, .str x10.AM.Ba, .str x10.AM.Be, .bool x10.AM.Ag, .bool x10.AM.Af, .bool x10.AM.Ak, .slice none 0]), .obj bx1w1_2 (.cells none 2 [.chan (some bx1w1_2_0), .str x6.Bz, Ai x6.Ar, .bool x6.AY]), .obj bx1w1_2_0 (.chan 64 (AQ eS x7)), .AQ r2 5 (AQ eY x11), .AQ rqw4 164 (AQ Al x3), .obj h.size (.cells none 2 [Ai p1.Head, Ai p1.Name])] F) ∨ (e = .exit 0 ∧ .inr (.inl ()) = o3 ∧ Has N 73 [(7, .ptr (some (bx1w1, 0))), (11, AP r5 x28.length)] ∧ HH g Q [.AQ r5 26 (AQ AE x28), .obj C.size (.cells none 2 [.str x29, .str x30, Ab x31, Ai x32, Ai x33, Ai x34, .str x35, .str x36, Ai x37, Ai x38, Ai x39, Ai x40, vs AJ x41, .str x42]), .obj bx1w1 (.cells none 2 [Ai x10.Aw.Head, Ai x10.Aw.Name, .ptr (some (bx1w1_2, 0)), Ai x10.BE, Ai x10.BQ, Ai x10.at_, .bool x10.BD, Ai x10.BG, Ai x10.BH, .str x10.AD.Name, .str x10.AD.A9, Ab x10.AD.Kind, Ai x10.AD.Mode, Ai x10.AD.Cz, Ai x10.AD.Ct, Ai x10.AD.Bg, Ai x10.AD.Time, .str x10.AD.Ah, .str x10.AD.Aj, Ai x10.AD.Au, Ai x10.AD.As, Ai x10.AD.Form, Ai x10.BI, AP r2 x11.length, .slice none 0, .str x10.AM.Ba, .str x10.AM.Be, .bool x10.AM.Ag, .bool x10.AM.Af, .bool x10.AM.Ak, .slice none 0]), .obj bx1w1_2 (.cells none 2 [.chan (some bx1w1_2_0), .str x6.Bz, Ai x6.Ar, .bool x6.AY]), .obj bx1w1_2_0 (.chan 64 (AQ eS x7)), .AQ r2 5 (AQ eY x11), .obj h.size (.cells none 2 [Ai p1.Head, Ai p1.Name])] F) ∨ (∃ x141 x142, e = .ret ∧ .inr (.inr (x141, x142)) = o3 ∧ Has N 73 [(4, .slice none 0), (5, Ai x141), (6, Ai x142)] ∧ HH g Q [.obj C.size (.cells none 2 [.str x29, .str x30, Ab x31, Ai x32, Ai x33, Ai x34, .str x35, .str x36, Ai x37, Ai x38, Ai x39, Ai x40, vs AJ x41, .str x42]), .obj bx1w1 (.cells none 2 [Ai x10.Aw.Head, Ai x10.Aw.Name, .ptr (some (bx1w1_2, 0)), Ai x10.BE, Ai x10.BQ, Ai x10.at_, .bool x10.BD, Ai x10.BG, Ai x10.BH, .str x10.AD.Name, .str x10.AD.A9, Ab x10.AD.Kind, Ai x10.AD.Mode, Ai x10.AD.Cz, Ai x10.AD.Ct, Ai x10.AD.Bg, Ai x10.AD.Time, .str x10.AD.Ah, .str x10.AD.Aj, Ai x10.AD.Au, Ai x10.AD.As, Ai x10.AD.Form, Ai x10.BI, AP r2 x11.length, .slice none 0, .str x10.AM.Ba, .str x10.AM.Be, .bool x10.AM.Ag, .bool x10.AM.Af, .bool x10.AM.Ak, .slice none 0]), .obj bx1w1_2 (.cells none 2 [.chan (some bx1w1_2_0), .str x6.Bz, Ai x6.Ar, .bool x6.AY]), .obj bx1w1_2_0 (.chan 64 (AQ eS x7)), .AQ r2 5 (AQ eY x11), .obj h.size (.cells none 2 [Ai p1.Head, Ai p1.Name])] F) ∨ False) ?_ ?_
    ·replace M := O
     clear O
     refine Aa (id := 1) (by kernel_rfl) ?_
     refine AH 4 ?_
     obtain ⟨x143, X, M⟩ := bind_some M
     obtain ⟨i2, er2, _, X, hq2⟩ := HH.Ra CU (by decide) A 7 (xs := x3) rfl X
     refine Ae 38 (.ptr (some (i2, x44.toNat * 17))) V H (fun D => .of (G1 (s := CF rqw4 x3.length) (by kernel_rfl) X)) fun D t H => ?_
     refine Ae 39 _ _ H (fun D => .of (BX (by kernel_rfl) (IH CU (HH.row A 7 rfl er2) hq2 0 17 (Nat.le_of_ble_eq_true rfl)))) fun D t H => ?_
     obtain ⟨h17, e6, A⟩ := A.pu (.cells none 2 [Ai 0, .str ([] : UV), .str ([] : UV), Ab 0, Ai 0, Ai 0, Ai 0, .str ([] : UV), .str ([] : UV), Ai 0, Ai 0, Ai 0, Ai 0, .slice none 0, .str ([] : UV), Ai 0, .str ([] : UV)])
     refine BU 15 (.ptr (some (V.size, 0))) e6 H fun D t H => ?_
     obtain ⟨h18, X, A⟩ := A.s0 0 (Al x143) [_, _, _, _, _, _, _, _, _, _, _, _, _, _, _, _, _]
     refine C9 X H fun D t H => ?_
     refine Bs 2 id (AX 1 [] 41 0 0 A H fun D t H => ?_)
     refine Bq id (Aa (id := 2) (by kernel_rfl) ?_)
     refine AH 2 (AN 2 [(42, .bool (x143.Kind == 1))] H fun D H => Ac 42 H M (fun B M H => ?_) fun B M H => ?_)
     ·refine CE 4 (B0 1 [] 45 _ _ H (fun D => .of (BX (by kernel_rfl) (A.Ef 0 rfl (o := 1) (n := 14) ⟨Nat.le_of_ble_eq_true rfl, rfl⟩))) fun D t H => ?_)
      obtain ⟨h19, X, A⟩ := A.s3 0 (AE x143.B6) [_, _, _, _, _, _, _, _, _, _, _, _, _, _]
      refine C9 X H fun D t H => ?_
      refine Bv 1 [(7, .ptr (some (bx1w1, 0))), (11, AP r5 x28.length), (12, .ptr (some (C.size, 0))), (13, .slice none 0), (34, AP rqw4 x3.length), (35, Ai (x3.length : Int)), (36, Ai x44)] H fun D H => at_nil ?_
      replace A : HH g h19 [.AQ none 5 (AQ eY ([] : UV)), _, _, _, _, _, _, _, _, _, _] F := A.Hv 5
      replace A := A.k9 0 3 4 5 6 7 8 9 10
      exact .inl ⟨_, _, _, _, _, _, _, _, _, _, _, _, _, _, _, _, rfl, BB M, _, none, H.ls, A⟩
     refine AH 2 (AN 2 [(46, .bool (x143.Kind == 2))] H fun D H => Ac 46 H M (fun B M H => ?_) fun B M H => ?_)
     ·refine CE 5 (AX 2 [(48, AP r6 x43.length)] 50 0 16 A H fun D t H => ?_)
      obtain ⟨B, M⟩ := Aq M
      obtain ⟨r15, h20, X, E⟩ := HH.FN Df (by decide) A 1 (xs := x43) (ys := x143.Bytes) rfl (FF _ x143.Bytes) (Df.BP _) rfl B
      replace A : HH g h20 [_, .AQ r15 5 (AQ eY (x43 ++ x143.Bytes)), _, _, _, _, _, _, _, _] F := E
      refine Ae 51 _ _ H (fun D => .of (DU (s := CF r6 x43.length) (by kernel_rfl) X)) fun D t H => ?_
      refine Bv 1 [(7, .ptr (some (bx1w1, 0))), (11, AP r5 x28.length), (12, .ptr (some (C.size, 0))), (13, AP r15 ((x43 ++ x143.Bytes).length)), (34, AP rqw4 x3.length), (35, Ai (x3.length : Int)), (36, Ai x44)] H fun D H => at_nil ?_
      replace A := A.k9 1 2 3 4 5 6 7 8 9
      exact .inl ⟨_, _, _, _, _, _, _, _, _, _, _, _, _, _, _, _, rfl, BB M, _, _, H.ls, A⟩
     refine AH 2 (AN 2 [(52, .bool (x143.Kind == 3))] H fun D H => Ac 52 H M (fun B M H => ?_) fun B M H => ?_)
     ·refine AS (AH 3 (AN 3 [(56, .bool ((x28.length : Int) == 4096))] H fun D H => Ac 56 H M (fun B M H => ?_) fun B M H => ?_))
      ·refine AH 3 (AN 3 [(4, .slice none 0), (5, Ai 7), (6, Ai 0)] H fun D H => AZ ?_)
       replace A := A.k6 3 4 5 6 7 9
       exact .inr (.inr (.inl ⟨_, _, rfl, BB M, H.ls, A⟩))
      refine B3 4 id (AO 1 [(57, AP r6 x43.length)] H fun D H => Ae 58 (.str x43) h18 H (fun D => .of (Kt (xs := x43) A 1 rfl (by kernel_rfl))) fun D t H => ?_)
      obtain ⟨S, X, A⟩ := A.s3 13 [.str x43] [_, _, _, _, _, _, _, _, _, _, _, _, _, _]
      refine Bu 1 [] X H fun D t H => ?_
      refine ED 5 id (B0 1 [(60, AP r5 x28.length)] 61 _ _ H (fun D => .of (BX (by kernel_rfl) (A.Ef 3 rfl (o := 0) (n := 14) ⟨Nat.le_of_ble_eq_true rfl, rfl⟩))) fun D t H => ?_)
      obtain ⟨h22, e7, A⟩ := A.pL 26 [.str x29, .str x30, Ab x31, Ai x32, Ai x33, Ai x34, .str x35, .str x36, Ai x37, Ai x38, Ai x39, Ai x40, vs AJ x41, .str x43]
      refine BU 62 (AP (some S.size) (([(⟨x29, x30, x31, x32, x33, x34, x35, x36, x37, x38, (⟨x39, x40⟩ : Ad), x41, x43⟩ : AG)] : List AG).length)) e7 H fun D t H => ?_
      obtain ⟨B, M⟩ := Aq M
      obtain ⟨r16, P, X, E⟩ := HH.FN CK (by decide) A 3 (xs := x28) (ys := ([(⟨x29, x30, x31, x32, x33, x34, x35, x36, x37, x38, (⟨x39, x40⟩ : Ad), x41, x43⟩ : AG)] : List AG)) rfl (C0 A 0 rfl (n := ([(⟨x29, x30, x31, x32, x33, x34, x35, x36, x37, x38, (⟨x39, x40⟩ : Ad), x41, x43⟩ : AG)] : List AG).length) (z := 14) rfl (by decide)) rfl rfl B
      replace A : HH g P [.AQ (some S.size) 26 ([.str x29, .str x30, Ab x31, Ai x32, Ai x33, Ai x34, .str x35, .str x36, Ai x37, Ai x38, Ai x39, Ai x40, vs AJ x41, .str x43]), _, _, .AQ r16 26 (AQ AE (x28 ++ ([(⟨x29, x30, x31, x32, x33, x34, x35, x36, x37, x38, (⟨x39, x40⟩ : Ad), x41, x43⟩ : AG)] : List AG))), _, _, _, _, _, _, _] F := E
      replace A : HH g P [_, _, _, _, _, _, _, _, _, _] F := (HH.Nz ((((((((((A.front 10 rfl).front 10 rfl).front 10 rfl).front 10 rfl).front 10 rfl).front 10 rfl).front 10 rfl).front 10 rfl).front 10 rfl).front 10 rfl) 10)
      refine Ae 63 _ _ H (fun D => .of (DU (s := CF r5 x28.length) (by kernel_rfl) X)) fun D t H => ?_
      refine Bv 1 [(7, .ptr (some (bx1w1, 0))), (11, AP r16 ((x28 ++ ([(⟨x29, x30, x31, x32, x33, x34, x35, x36, x37, x38, (⟨x39, x40⟩ : Ad), x41, x43⟩ : AG)] : List AG)).length)), (12, .ptr (some (C.size, 0))), (13, AP r6 x43.length), (34, AP rqw4 x3.length), (35, Ai (x3.length : Int)), (36, Ai x44)] H fun D H => at_nil ?_
      replace A := A.k9 1 2 3 4 5 6 7 8 9
      exact .inl ⟨_, _, _, _, _, _, _, _, _, _, _, _, _, _, _, _, rfl, BB M, _, _, H.ls, A⟩
     refine Bp (i := 0) (by kernel_rfl) ?_
     replace A := A.k7 2 3 4 5 6 7 9
     exact .inr (.inl ⟨rfl, BB M, H.ls, A⟩)
    clear O
    clear A
    intro e D h24 I
    rcases I with ⟨x125, x126, x127, x128, x129, x130, x131, x132, x133, x134, x135, x136, x137, x138, x139, x140, rfl, rfl, r13, r14, H, A⟩ | ⟨rfl, rfl, H, A⟩ | ⟨x141, x142, rfl, rfl, H, A⟩ | J
    ·show AW _ _ _ _ _ _ _
     refine CE 2 (Bv 2 [(7, .ptr (some (bx1w1, 0))), (11, AP r13 x125.length), (12, .ptr (some (C.size, 0))), (13, AP r14 x140.length), (34, AP rqw4 x3.length), (35, Ai (x3.length : Int)), (36, Ai (i64.wrap (x44 + 1)))] H fun D H => at_nil ?_)
     exact Exists.intro (.inr (x125, x126, x127, x128, x129, x130, x131, x132, x133, x134, x135, x136, x137, x138, x139, x140, i64.wrap (x44 + 1))) (And.intro (Option.some.inj M).symm (Or.inr (⟨x125, x126, x127, x128, x129, x130, x131, x132, x133, x134, x135, x136, x137, x138, x139, x140, i64.wrap (x44 + 1), rfl, r13, r14, H.ls, A⟩)))
    ·exact nr M fun e => Or.inr (.inl ⟨_, _, _, _, _, _, _, _, _, _, _, _, _, _, _, rfl, e, _, H.ls, A⟩)
    ·exact nr M fun e => Or.inr (.inr (.inr (.inl ⟨_, _, _, _, _, _, _, _, _, _, _, _, _, _, _, _, rfl, e, H.ls, A⟩)))
    exact J.elim
   refine Bp (i := 0) (by kernel_rfl) ?_
   replace A := A.k7 1 2 3 4 5 6 8
   exact nr M fun e => Or.inr (.inl ⟨_, _, _, _, _, _, _, _, _, _, _, _, _, _, _, rfl, e, _, H.ls, A⟩)
  clear O
  clear A
  intro e D K I
  rcases I with ⟨x45, x46, x47, x48, x49, x50, x51, x52, x53, x54, x55, x56, x57, x58, rfl, rfl, r7, H, A⟩ | ⟨x59, x60, x61, x62, x63, x64, x65, x66, x67, x68, x69, x70, x71, x72, x73, rfl, rfl, r8, H, A⟩ | ⟨x74, x75, x76, x77, x78, x79, x80, x81, x82, x83, x84, x85, x86, x87, x88, rfl, rfl, H, A⟩ | ⟨x89, x90, x91, x92, x93, x94, x95, x96, x97, x98, x99, x100, x101, x102, x103, x104, rfl, rfl, H, A⟩ | J
  ·show AW _ _ _ _ _ _ _
   refine AH 7 ?_
   replace A := A.k7 2 3 4 5 0 1 6
   obtain ⟨⟨x144, x145⟩, X, M⟩ := bind_some M
   obtain ⟨v1, h26, R, rfl, E⟩ := EI (av := [.ptr (some (bx1w1, 0))]) X (A.cut 4)
   replace A := A.P5 E
   refine BC 1 [] 67 R H fun D t H => ?_
   refine B5 5 [(8, Ai x144), (16, Ai x145)] 6 H fun D H => AN 6 [(4, AP r7 x45.length), (5, Ai x144), (6, Ai x145)] H fun D H => AZ ?_
   obtain ⟨rfl, rfl, rfl⟩ := EG M
   refine ⟨.inl rfl, .tuple [AP r7 x45.length, Ai x144, Ai x145], rH H, ?_⟩
   replace A := A.k1 4
   exact ⟨r7, rfl, A⟩
  ·show AW _ _ _ _ _ _ _
   refine AH 7 ?_
   replace A := A.k7 2 3 4 5 0 1 6
   obtain ⟨⟨x146, x147⟩, X, M⟩ := bind_some M
   obtain ⟨v1, h27, R, rfl, E⟩ := EI (av := [.ptr (some (bx1w1, 0))]) X (A.cut 4)
   replace A := A.P5 E
   refine BC 1 [] 67 R H fun D t H => ?_
   refine B5 5 [(8, Ai x146), (16, Ai x147)] 6 H fun D H => AN 6 [(4, AP r8 x59.length), (5, Ai x146), (6, Ai x147)] H fun D H => AZ ?_
   obtain ⟨rfl, rfl, rfl⟩ := EG M
   refine ⟨.inl rfl, .tuple [AP r8 x59.length, Ai x146, Ai x147], rH H, ?_⟩
   replace A := A.k1 4
   exact ⟨r8, rfl, A⟩
  ·obtain ⟨rfl, rfl, rfl⟩ := EG M
   refine ⟨.inl rfl, .tuple [.slice none 0, Ai x87, Ai x88], rH H, ?_⟩
   replace A : HH g K [.AQ none 26 (AQ AE ([] : List AG)), _, _, _, _, _, _] F := A.Hv 26
   replace A := A.d1
   exact ⟨none, rfl, A⟩
  ·obtain ⟨rfl, rfl, rfl⟩ := EG M
   refine ⟨.inl rfl, .tuple [.slice none 0, Ai x103, Ai x104], rH H, ?_⟩
   replace A : HH g K [.AQ none 26 (AQ AE ([] : List AG)), _, _, _, _, _, _] F := A.Hv 26
   replace A := A.d1
   exact ⟨none, rfl, A⟩
  exact J.elim
 replace A : HH g h2 [.obj h.size (.cells none 2 [Ai p1.Head, Ai p1.Name])] F := A.Eg (n := 0) E
 refine BM 19 R H fun D t H => ?_
 refine AN 5 [(7, .ptr none), (8, Ai x2)] H fun D H => AS (AH 2 (AN 2 [(23, .bool (x2 != 0))] H fun D H => Ac 23 H M (fun B M H => ?_) fun B M H => ?_))
 ·refine AH 4 (AN 4 [(4, .slice none 0), (5, Ai x2), (6, Ai 0)] H fun D H => AZ ?_)
  obtain ⟨rfl, rfl, rfl⟩ := EG M
  refine ⟨.inl rfl, .tuple [.slice none 0, Ai x2, Ai 0], rH H, ?_⟩
  replace A : HH g h2 [.AQ none 26 (AQ AE ([] : List AG)), _] F := A.Hv 26
  replace A := A.d1
  exact ⟨none, rfl, A⟩
 refine B3 9 id (AO 2 [(26, .ptr none), (27, .str p0)] H fun D H => ?_)
 obtain ⟨B, M⟩ := Aq M
 obtain ⟨h28, e8⟩ : ∃ x, x = h2.push (.cells (some 5) 2 (p0.map fun b => Ab b.toNat)) := ⟨_, rfl⟩
 replace A := (A.Se _ _).to e8
 rw [UN] at A
 refine Ae 28 (AP (some h2.size) p0.length) h28 H (fun D => .of (WI (by kernel_rfl) B (congrArg some e8.symm))) fun D t H => ?_
 cases M
def DW : Option (Bool) :=
 (CC ([] : List AG)).bind fun (x1, x2) => (Ce x1 (⟨(1 : Int), (1 : Int)⟩ : CW)).bind fun (x3, x4, x5) => some ((((((x1.length : Int) == 1024) && (x2 == 0)) && ((x3.length : Int) == 0)) && (x4 == 0)) && (x5 == 0))
theorem GC {q0} (M : DW = some q0) (A : HH g h [] F) (hc : BP (cfg.still 39) av = [] := by kernel_rfl) : ∃ v Q, BZ cfg g h 39 av v Q ∧ v = .bool q0 ∧ HH g Q [] F := by
 refine EE 37 [.tmp 0] hc ?_
 clear hc
 unfold DW at M
 refine bg 37 [] fun D H => ?_
 refine AH 1 (B5 1 [] 6 H fun D H => ?_)
 replace A : HH g h [.AQ none 26 (AQ AE ([] : List AG))] F := A.Hv 26
 obtain ⟨⟨x1, x2⟩, X, M⟩ := bind_some M
 obtain ⟨v1, h1, R, rfl, E⟩ := Gg (av := [AP none (([] : List AG).length)]) X (A.cut 1)
 replace A := A.g11 E
 refine BM 7 R H fun D t H => ?_
 refine B5 5 [(1, .str x1), (2, Ai x2)] 10 H fun D H => ?_
 obtain ⟨⟨x3, x4, x5⟩, X, M⟩ := bind_some M
 obtain ⟨v1, h2, R, rqw3, rfl, E⟩ := H3 (av := [.str x1, .agg [Ai 1, Ai 1]]) X (A.cut 0)
 replace A := A.VA E
 refine BC 2 [] 13 R H fun D t H => ?_
 refine B5 7 [(3, AP rqw3 x3.length), (4, Ai x4), (5, Ai x5)] 21 H fun D H => AO 4 [(20, .bool ((x1.length : Int) == 1024))] H fun D H => Bi 3 (fun N Q => h2 = Q ∧ Has N 37 [(3, AP rqw3 x3.length), (4, Ai x4), (5, Ai x5), (23, .bool (((x1.length : Int) == 1024) && (x2 == 0)))]) ?_ ?_
 ·cases B : ((x1.length : Int) == 1024 : Bool) with
  | true =>
   replace H := H.kn 20 B
   exact AO 3 [(23, .bool (x2 == 0))] H fun D H => A8 H B
  | false =>
   replace H := H.kn 20 B
   exact AO 3 [(23, .bool false)] H fun D H => A8 H B
 intro t D Q G
 obtain ⟨e, H⟩ := G
 subst e
 refine AO 1 [(24, .bool (((x1.length : Int) == 1024) && (x2 == 0)))] H fun D H => Bi 4 (fun N Q => h2 = Q ∧ Has N 37 [(4, Ai x4), (5, Ai x5), (28, .bool ((((x1.length : Int) == 1024) && (x2 == 0)) && ((x3.length : Int) == 0)))]) ?_ ?_
 ·cases B : (((x1.length : Int) == 1024) && (x2 == 0) : Bool) with
  | true =>
   replace H := H.kn 24 B
   exact AO 4 [(28, .bool ((x3.length : Int) == 0))] H fun D H => A8 H B
  | false =>
   replace H := H.kn 24 B
   exact AO 4 [(28, .bool false)] H fun D H => A8 H B
 intro t D Q G
 obtain ⟨e, H⟩ := G
 subst e
 refine AO 1 [(29, .bool ((((x1.length : Int) == 1024) && (x2 == 0)) && ((x3.length : Int) == 0)))] H fun D H => Bi 3 (fun N Q => h2 = Q ∧ Has N 37 [(5, Ai x5), (32, .bool (((((x1.length : Int) == 1024) && (x2 == 0)) && ((x3.length : Int) == 0)) && (x4 == 0)))]) ?_ ?_
 ·cases B : ((((x1.length : Int) == 1024) && (x2 == 0)) && ((x3.length : Int) == 0) : Bool) with
  | true =>
   replace H := H.kn 29 B
   exact AO 3 [(32, .bool (x4 == 0))] H fun D H => A8 H B
  | false =>
   replace H := H.kn 29 B
   exact AO 3 [(32, .bool false)] H fun D H => A8 H B
 intro t D Q G
 obtain ⟨e, H⟩ := G
 subst e
 refine AO 1 [(33, .bool (((((x1.length : Int) == 1024) && (x2 == 0)) && ((x3.length : Int) == 0)) && (x4 == 0)))] H fun D H => Bi 3 (fun N Q => h2 = Q ∧ Has N 37 [(36, .bool ((((((x1.length : Int) == 1024) && (x2 == 0)) && ((x3.length : Int) == 0)) && (x4 == 0)) && (x5 == 0)))]) ?_ ?_
 ·cases B : (((((x1.length : Int) == 1024) && (x2 == 0)) && ((x3.length : Int) == 0)) && (x4 == 0) : Bool) with
  | true =>
   replace H := H.kn 33 B
   exact AO 3 [(36, .bool (x5 == 0))] H fun D H => A8 H B
  | false =>
   replace H := H.kn 33 B
   exact AO 3 [(36, .bool false)] H fun D H => A8 H B
 intro t D Q G
 obtain ⟨e, H⟩ := G
 subst e
 refine AN 1 [(0, .bool ((((((x1.length : Int) == 1024) && (x2 == 0)) && ((x3.length : Int) == 0)) && (x4 == 0)) && (x5 == 0)))] H fun D H => AZ ?_
 obtain rfl := BB M
 refine ⟨.inl rfl, .bool ((((((x1.length : Int) == 1024) && (x2 == 0)) && ((x3.length : Int) == 0)) && (x4 == 0)) && (x5 == 0)), rH H, ?_⟩
 replace A := A.d0
 exact ⟨rfl, A⟩
end
end Go.Av.L
