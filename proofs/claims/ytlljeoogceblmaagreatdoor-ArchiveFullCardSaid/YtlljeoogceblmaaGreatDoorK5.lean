/-
 A part.
-/
import Derived.Test.YtlljeoogceblmaaGreatDoorKCfg
import Derived.Test.YtlljeoogceblmaaGreatDoorK0
import Derived.Test.YtlljeoogceblmaaGreatDoorK2
import Derived.Test.YtlljeoogceblmaaGreatDoorK4
namespace Go.Av.L
open Go.Av Go.Lib
open IntKind (i64)
set_option maxRecDepth 10000
set_option linter.unusedVariables false
set_option linter.unusedSimpArgs false
variable {g : Gd} {h : AF} {F : List Ck} {av : List AB}
noncomputable section
def F1 (p0 : List UInt8) : Option (AL × Int) :=
 Ao ((p0.length : Int) != 512) (some ((⟨([] : UV), ([] : UV), (0 : Int), (0 : Int), (0 : Int), (0 : Int), (0 : Int), (0 : Int), ([] : UV), ([] : UV), (0 : Int), (0 : Int), (0 : Int)⟩ : AL), (1 : Int))) ((JA p0).bind fun x1 => Ao (!x1) (some ((⟨([] : UV), ([] : UV), (0 : Int), (0 : Int), (0 : Int), (0 : Int), (0 : Int), (0 : Int), ([] : UV), ([] : UV), (0 : Int), (0 : Int), (0 : Int)⟩ : AL), (4 : Int))) ((IX p0 (some (257 : Int)) (some (265 : Int))).bind fun x2 => (IV x2).bind fun x3 => Ao (x3 == 0) (some ((⟨([] : UV), ([] : UV), (0 : Int), (0 : Int), (0 : Int), (0 : Int), (0 : Int), (0 : Int), ([] : UV), ([] : UV), (0 : Int), (0 : Int), (0 : Int)⟩ : AL), (2 : Int))) (Ao (x3 != 1) ((Bf p0 (7 : Int)).bind fun x4 => (Dh x4).bind fun x5 => (Bf p0 (8 : Int)).bind fun x6 => (Dh x6).bind fun x7 => (EN p0 (⟨([] : UV), ([] : UV), (0 : Int), (0 : Int), (0 : Int), (0 : Int), (0 : Int), (0 : Int), x5, x7, (0 : Int), (0 : Int), x3⟩ : AL)).bind fun (x8, x9) => Ao (x8 != 0) (some ((⟨([] : UV), ([] : UV), (0 : Int), (0 : Int), (0 : Int), (0 : Int), (0 : Int), (0 : Int), ([] : UV), ([] : UV), (0 : Int), (0 : Int), (0 : Int)⟩ : AL), x8)) ((Bf p0 (0 : Int)).bind fun x10 => (Dh x10).bind fun x11 => (Bf p0 (6 : Int)).bind fun x12 => (Dh x12).bind fun x13 => (Ao (x9.Form == 2) ((Bf p0 (11 : Int)).bind fun x15 => (Dh x15).bind fun x16 => (IA x16 x11).bind fun x17 => some x17) (some x11) : Option (((List UInt8)))).bind fun x14 => ((U9 p0 (156 : Int)).bind fun x19 => Ao (x19 == 0) (some (48 : Int)) (some x19) : Option ((Int))).bind fun x18 => some ((⟨x14, x13, x18, x9.Mode, x9.Cz, x9.Ct, x9.Bg, x9.Time, x9.Ah, x9.Aj, x9.Au, x9.As, x9.Form⟩ : AL), (0 : Int)))) ((ET p0 (⟨([] : UV), ([] : UV), (0 : Int), (0 : Int), (0 : Int), (0 : Int), (0 : Int), (0 : Int), ([] : UV), ([] : UV), (0 : Int), (0 : Int), x3⟩ : AL)).bind fun (x20, x21) => Ao (x20 != 0) (some ((⟨([] : UV), ([] : UV), (0 : Int), (0 : Int), (0 : Int), (0 : Int), (0 : Int), (0 : Int), ([] : UV), ([] : UV), (0 : Int), (0 : Int), (0 : Int)⟩ : AL), x20)) ((Bf p0 (0 : Int)).bind fun x22 => (Dh x22).bind fun x23 => (Bf p0 (6 : Int)).bind fun x24 => (Dh x24).bind fun x25 => (Ao (x21.Form == 2) ((Bf p0 (11 : Int)).bind fun x27 => (Dh x27).bind fun x28 => (IA x28 x23).bind fun x29 => some x29) (some x23) : Option (((List UInt8)))).bind fun x26 => ((U9 p0 (156 : Int)).bind fun x31 => Ao (x31 == 0) (some (48 : Int)) (some x31) : Option ((Int))).bind fun x30 => some ((⟨x26, x25, x30, x21.Mode, x21.Cz, x21.Ct, x21.Bg, x21.Time, x21.Ah, x21.Aj, x21.Au, x21.As, x21.Form⟩ : AL), (0 : Int)))))))
theorem M0 {p0 q0 q1} (M : F1 p0 = some (q0, q1)) (A : HH g h [] F) (hc : BP (cfg.still 29) av = [.str p0] := by kernel_rfl) : ∃ v Q, BZ cfg g h 29 av v Q ∧ v = .tuple [.agg (AK q0), Ai q1] ∧ HH g Q [] F := by
 refine EE 86 [.cell 2 35, .tmp 3] hc ?_
 clear hc
 unfold F1 at M
 refine bg 86 [(0, .str p0)] fun D H => ?_
 refine AH 2 ?_
 obtain ⟨h1, e1, A⟩ := A.pu (.cells none 2 [.str ([] : UV), .str ([] : UV), Ab 0, Ai 0, Ai 0, Ai 0, Ai 0, Ai 0, .str ([] : UV), .str ([] : UV), Ai 0, Ai 0, Ai 0])
 refine BU 2 (.ptr (some (h.size, 0))) e1 H fun D t H => ?_
 refine AN 1 [] H fun D H => AS (Aa (id := 0) (by kernel_rfl) ?_)
 refine AH 4 (AN 4 [(8, .bool ((p0.length : Int) != 512))] H fun D H => Ac 8 H M (fun B M H => ?_) fun B M H => ?_)
 ·refine AH 3 ?_
  obtain ⟨h2, X, A⟩ := A.s0 0 [.str ([] : UV), .str ([] : UV), Ab 0, Ai 0, Ai 0, Ai 0, Ai 0, Ai 0, .str ([] : UV), .str ([] : UV), Ai 0, Ai 0, Ai 0] [_, _, _, _, _, _, _, _, _, _, _, _, _]
  refine Jp 1 [] X H fun D t H => ?_
  refine AN 1 [(3, Ai 1)] H fun D H => AZ ?_
  obtain ⟨rfl, rfl⟩ := B4 M
  refine ⟨.inl rfl, .tuple [.agg [.str ([] : UV), .str ([] : UV), Ab 0, Ai 0, Ai 0, Ai 0, Ai 0, Ai 0, .str ([] : UV), .str ([] : UV), Ai 0, Ai 0, Ai 0], Ai 1], Dm (.cell (rT H) (Dn (by kernel_rfl) (by kernel_rfl) (A.la 0 0 13)) (.tmp (rT H) .nil)), ?_⟩
  replace A := A.d0
  exact ⟨rfl, A⟩
 refine AH 4 ?_
 obtain ⟨x1, X, M⟩ := bind_some M
 obtain ⟨v1, h3, R, rfl, E⟩ := OZ (av := [.str p0]) X (A.cut 0)
 replace A : HH g h3 [.obj h.size (.cells none 2 [.str ([] : UV), .str ([] : UV), Ab (0 : Int), Ai (0 : Int), Ai (0 : Int), Ai (0 : Int), Ai (0 : Int), Ai (0 : Int), .str ([] : UV), .str ([] : UV), Ai (0 : Int), Ai (0 : Int), Ai (0 : Int)])] F := A.Eg (n := 0) E
 refine BC 1 [] 15 R H fun D t H => ?_
 refine AN 2 [(13, .bool (!x1))] H fun D H => Ac 13 H M (fun B M H => ?_) fun B M H => ?_
 ·refine AH 3 ?_
  obtain ⟨J, X, A⟩ := A.s0 0 [.str ([] : UV), .str ([] : UV), Ab 0, Ai 0, Ai 0, Ai 0, Ai 0, Ai 0, .str ([] : UV), .str ([] : UV), Ai 0, Ai 0, Ai 0] [_, _, _, _, _, _, _, _, _, _, _, _, _]
  refine Jp 1 [] X H fun D t H => ?_
  refine AN 1 [(3, Ai 4)] H fun D H => AZ ?_
  obtain ⟨rfl, rfl⟩ := B4 M
  refine ⟨.inl rfl, .tuple [.agg [.str ([] : UV), .str ([] : UV), Ab 0, Ai 0, Ai 0, Ai 0, Ai 0, Ai 0, .str ([] : UV), .str ([] : UV), Ai 0, Ai 0, Ai 0], Ai 4], Dm (.cell (rT H) (Dn (by kernel_rfl) (by kernel_rfl) (A.la 0 0 13)) (.tmp (rT H) .nil)), ?_⟩
  replace A := A.d0
  exact ⟨rfl, A⟩
 refine B3 6 id ?_
 obtain ⟨x2, X, M⟩ := bind_some M
 refine B0 1 [] 19 (.str x2) h3 H (fun D => .of (HW (k := .i64) (k' := .i64) (lo := (some (257 : Int))) (hi := (some (265 : Int))) (by kernel_rfl) X)) fun D t H => ?_
 obtain ⟨x3, X, M⟩ := bind_some M
 obtain ⟨v1, G, R, rfl, E⟩ := Nh (av := [.str x2]) X (A.cut 0)
 replace A := A.Dx E
 refine BM 20 R H fun D t H => ?_
 obtain ⟨W, e2, A⟩ := A.pu (.cells none 2 [.str ([] : UV), .str ([] : UV), Ab 0, Ai 0, Ai 0, Ai 0, Ai 0, Ai 0, .str ([] : UV), .str ([] : UV), Ai 0, Ai 0, Ai 0])
 refine K2 1 [(21, .agg [.str ([] : UV), .str ([] : UV), Ab (0 : Int), Ai (0 : Int), Ai (0 : Int), Ai (0 : Int), Ai (0 : Int), Ai (0 : Int), .str ([] : UV), .str ([] : UV), Ai (0 : Int), Ai (0 : Int), Ai x3])] 4 (.ptr (some (G.size, 0))) e2 H fun D t H => ?_
 obtain ⟨Z, X, A⟩ := A.s0 0 [.str ([] : UV), .str ([] : UV), Ab 0, Ai 0, Ai 0, Ai 0, Ai 0, Ai 0, .str ([] : UV), .str ([] : UV), Ai 0, Ai 0, Ai x3] [_, _, _, _, _, _, _, _, _, _, _, _, _]
 refine C9 X H fun D t H => ?_
 refine Bq id (AS (AH 3 (AX 1 [] 23 0 12 A H fun D t H => ?_)))
 refine AN 1 [(24, .bool (x3 == 0))] H fun D H => Ac 24 H M (fun B M H => ?_) fun B M H => ?_
 ·refine AH 3 ?_
  obtain ⟨h8, X, A⟩ := A.s1 0 [.str ([] : UV), .str ([] : UV), Ab 0, Ai 0, Ai 0, Ai 0, Ai 0, Ai 0, .str ([] : UV), .str ([] : UV), Ai 0, Ai 0, Ai 0] [_, _, _, _, _, _, _, _, _, _, _, _, _]
  refine Jp 1 [] X H fun D t H => ?_
  refine AN 1 [(3, Ai 2)] H fun D H => AZ ?_
  obtain ⟨rfl, rfl⟩ := B4 M
  refine ⟨.inl rfl, .tuple [.agg [.str ([] : UV), .str ([] : UV), Ab 0, Ai 0, Ai 0, Ai 0, Ai 0, Ai 0, .str ([] : UV), .str ([] : UV), Ai 0, Ai 0, Ai 0], Ai 2], Dm (.cell (rT H) (Dn (by kernel_rfl) (by kernel_rfl) (A.la 1 0 13)) (.tmp (rT H) .nil)), ?_⟩
  replace A := A.d0
  exact ⟨rfl, A⟩
 refine B3 9 id ?_
 obtain ⟨h9, e3⟩ : ∃ x, x = Z.push (.cells (some 3) 2 [Ai 1, Ai 2, Ai 3, Ai 4, Ai 5]) := ⟨_, rfl⟩
 replace A : HH g h9 [.obj Z.size (.cells (some 3) 2 [Ai 1, Ai 2, Ai 3, Ai 4, Ai 5]), _, _] F := (A.push _).to e3
 refine BU 26 (.slice (some (Z.size, 0)) 5) e3 H fun D t H => ?_
 refine AO 5 [(27, .ptr (some (G.size, 3))), (28, .ptr (some (G.size, 4))), (29, .ptr (some (G.size, 5))), (30, .ptr (some (G.size, 6))), (31, .ptr (some (G.size, 7)))] H fun D H => ?_
 obtain ⟨I, e4⟩ : ∃ x, x = h9.push (.cells (some 135) 2 [.ptr (some (G.size, 3)), .ptr (some (G.size, 4)), .ptr (some (G.size, 5)), .ptr (some (G.size, 6)), .ptr (some (G.size, 7))]) := ⟨_, rfl⟩
 replace A : HH g I [.obj h9.size (.cells (some 135) 2 [.ptr (some (G.size, 3)), .ptr (some (G.size, 4)), .ptr (some (G.size, 5)), .ptr (some (G.size, 6)), .ptr (some (G.size, 7))]), _, _, _] F := (A.push _).to e4
 refine BU 32 (.slice (some (h9.size, 0)) 5) e4 H fun D t H => ?_
 refine AN 2 [(5, .slice (some (Z.size, 0)) 5), (6, .slice (some (h9.size, 0)) 5)] H fun D H => AS (AH 3 (AX 1 [] 34 2 12 A H fun D t H => ?_))
 refine AN 1 [(35, .bool (x3 != 1))] H fun D H => Ac 35 H M (fun B M H => ?_) fun B M H => ?_
 ·refine AH 10 (AO 1 [(36, .slice (some (Z.size, 0)) 5)] H fun D H => ?_)
  obtain ⟨V, e5⟩ : ∃ x, x = I.push (.cells (some 3) 2 [Ai 9, Ai 10]) := ⟨_, rfl⟩
  replace A : HH g V [.obj I.size (.cells (some 3) 2 [Ai 9, Ai 10]), _, _, _, _] F := (A.push _).to e5
  refine BU 37 (.slice (some (I.size, 0)) 2) e5 H fun D t H => ?_
  obtain ⟨i1, T, X, E⟩ := HH.WS A 2 0 (n := 5) (m := 2) (bytes := 8) rfl rfl rfl rfl (by decide) rfl (by kernel_rfl) rfl rfl
  replace A : HH g T [_, _, .obj i1 (.cells (some 3) 2 [Ai 1, Ai 2, Ai 3, Ai 4, Ai 5, Ai 9, Ai 10]), _, _] F := E
  refine Ae 38 _ _ H (fun D => .of (DU (s := ⟨some (Z.size, 0), 5⟩) (t := ⟨some (i1, 0), 7⟩) (by kernel_rfl) X)) fun D t H => ?_
  refine AO 3 [(39, .slice (some (h9.size, 0)) 5), (40, .ptr (some (G.size, 10))), (41, .ptr (some (G.size, 11)))] H fun D H => ?_
  obtain ⟨h13, e6⟩ : ∃ x, x = T.push (.cells (some 135) 2 [.ptr (some (G.size, 10)), .ptr (some (G.size, 11))]) := ⟨_, rfl⟩
  replace A : HH g h13 [.obj T.size (.cells (some 135) 2 [.ptr (some (G.size, 10)), .ptr (some (G.size, 11))]), _, _, _, _, _] F := (A.push _).to e6
  refine BU 42 (.slice (some (T.size, 0)) 2) e6 H fun D t H => ?_
  obtain ⟨i2, h14, X, E⟩ := HH.WS A 2 0 (n := 5) (m := 2) (bytes := 8) rfl rfl rfl rfl (by decide) rfl (by kernel_rfl) rfl rfl
  replace A : HH g h14 [_, _, .obj i2 (.cells (some 135) 2 [.ptr (some (G.size, 3)), .ptr (some (G.size, 4)), .ptr (some (G.size, 5)), .ptr (some (G.size, 6)), .ptr (some (G.size, 7)), .ptr (some (G.size, 10)), .ptr (some (G.size, 11))]), _, _, _] F := E
  refine Ae 43 _ _ H (fun D => .of (DU (s := ⟨some (h9.size, 0), 5⟩) (t := ⟨some (i2, 0), 7⟩) (by kernel_rfl) X)) fun D t H => ?_
  refine Bv 2 [(0, .str p0), (2, .ptr (some (h.size, 0))), (4, .ptr (some (G.size, 0))), (5, .slice (some (i1, 0)) 7), (6, .slice (some (i2, 0)) 7)] H fun D H => ED 10 id ?_
  obtain ⟨x4, X, M⟩ := bind_some M
  obtain ⟨v1, h15, R, rfl, E⟩ := Bd (av := [.str p0, Ai 7]) X (A.cut 0)
  replace A := A.Dx E
  refine BC 1 [] 45 R H fun D t H => ?_
  obtain ⟨x5, X, M⟩ := bind_some M
  obtain ⟨v1, h16, R, rfl, E⟩ := EB (av := [.str x4]) X (A.cut 0)
  replace A := A.Dx E
  refine BM 46 R H fun D t H => ?_
  obtain ⟨x6, X, M⟩ := bind_some M
  obtain ⟨v1, h17, R, rfl, E⟩ := Bd (av := [.str p0, Ai 8]) X (A.cut 0)
  replace A := A.Dx E
  refine BC 1 [] 48 R H fun D t H => ?_
  obtain ⟨x7, X, M⟩ := bind_some M
  obtain ⟨v1, h18, R, rfl, E⟩ := EB (av := [.str x6]) X (A.cut 0)
  replace A := A.Dx E
  refine BM 49 R H fun D t H => ?_
  obtain ⟨h19, X, A⟩ := A.s4 8 [.str x5] [_, _, _, _, _, _, _, _, _, _, _, _, _]
  refine Bu 1 [] X H fun D t H => ?_
  obtain ⟨h20, X, A⟩ := A.s4 9 [.str x7] [_, _, _, _, _, _, _, _, _, _, _, _, _]
  refine Bu 1 [] X H fun D t H => ?_
  refine Bq id (AS (AH 5 ?_))
  replace A := A.k6 3 2 4 0 1 5
  obtain ⟨⟨x8, x9⟩, X, M⟩ := bind_some M
  obtain ⟨v1, h21, R, rfl, E⟩ := IW (av := [.str p0, .slice (some (i1, 0)) 7, .slice (some (i2, 0)) 7]) X (A.cut 3)
  replace A := A.Zd E
  refine BC 3 [] 55 R H fun D t H => ?_
  refine B5 1 [(7, Ai x8)] 2 H fun D H => AN 2 [(57, .bool (x8 != 0))] H fun D H => Ac 57 H M (fun B M H => ?_) fun B M H => ?_
  ·refine AH 4 ?_
   obtain ⟨h22, X, A⟩ := A.s5 0 [.str ([] : UV), .str ([] : UV), Ab 0, Ai 0, Ai 0, Ai 0, Ai 0, Ai 0, .str ([] : UV), .str ([] : UV), Ai 0, Ai 0, Ai 0] [_, _, _, _, _, _, _, _, _, _, _, _, _]
   refine Jp 2 [(59, Ai x8)] X H fun D t H => ?_
   refine AN 1 [(3, Ai x8)] H fun D H => AZ ?_
   obtain ⟨rfl, rfl⟩ := B4 M
   refine ⟨.inl rfl, .tuple [.agg [.str ([] : UV), .str ([] : UV), Ab 0, Ai 0, Ai 0, Ai 0, Ai 0, Ai 0, .str ([] : UV), .str ([] : UV), Ai 0, Ai 0, Ai 0], Ai x8], Dm (.cell (rT H) (Dn (by kernel_rfl) (by kernel_rfl) (A.la 5 0 13)) (.tmp (rT H) .nil)), ?_⟩
   replace A := A.d0
   exact ⟨rfl, A⟩
  refine B3 10 id ?_
  obtain ⟨x10, X, M⟩ := bind_some M
  obtain ⟨v1, h23, R, rfl, E⟩ := Bd (av := [.str p0, Ai 0]) X (A.cut 0)
  replace A := A.Dx E
  refine BC 1 [] 61 R H fun D t H => ?_
  obtain ⟨x11, X, M⟩ := bind_some M
  obtain ⟨v1, h24, R, rfl, E⟩ := EB (av := [.str x10]) X (A.cut 0)
  replace A := A.Dx E
  refine BM 62 R H fun D t H => ?_
  obtain ⟨x12, X, M⟩ := bind_some M
  obtain ⟨v1, h25, R, rfl, E⟩ := Bd (av := [.str p0, Ai 6]) X (A.cut 0)
  replace A := A.Dx E
  refine BC 1 [] 64 R H fun D t H => ?_
  obtain ⟨x13, X, M⟩ := bind_some M
  obtain ⟨v1, h26, R, rfl, E⟩ := EB (av := [.str x12]) X (A.cut 0)
  replace A := A.Dx E
  refine BM 65 R H fun D t H => ?_
  obtain ⟨h27, X, A⟩ := A.s2 0 [.str x11] [_, _, _, _, _, _, _, _, _, _, _, _, _]
  refine Bu 1 [] X H fun D t H => ?_
  obtain ⟨h28, X, A⟩ := A.s2 1 [.str x13] [_, _, _, _, _, _, _, _, _, _, _, _, _]
  refine Bu 1 [] X H fun D t H => ?_
  refine Bq id (AS ?_)
  obtain ⟨o1, O, M⟩ := bind_some M
  refine Bb (Q' := fun e N Q => (∃ x14, e = .normal ∧ x14 = o1 ∧ Has N 86 [(0, .str p0), (2, .ptr (some (h.size, 0))), (4, .ptr (some (G.size, 0)))] ∧ HH g Q [.obj i1 (.cells (some 3) 2 [Ai 1, Ai 2, Ai 3, Ai 4, Ai 5, Ai 9, Ai 10]), .obj i2 (.cells (some 135) 2 [.ptr (some (G.size, 3)), .ptr (some (G.size, 4)), .ptr (some (G.size, 5)), .ptr (some (G.size, 6)), .ptr (some (G.size, 7)), .ptr (some (G.size, 10)), .ptr (some (G.size, 11))]), .obj G.size (.cells none 2 (EP x9 (.str x14) (.str x13))), .obj T.size (.cells (some 135) 2 [.ptr (some (G.size, 10)), .ptr (some (G.size, 11))]), .obj I.size (.cells (some 3) 2 [Ai 9, Ai 10]), .obj h.size (.cells none 2 [.str ([] : UV), .str ([] : UV), Ab 0, Ai 0, Ai 0, Ai 0, Ai 0, Ai 0, .str ([] : UV), .str ([] : UV), Ai 0, Ai 0, Ai 0])] F) ∨ False) ?_ ?_
  ·replace M := O
   clear O
   refine AH 3 (AX 1 [] 69 2 12 A H fun D t H => ?_)
   refine AN 1 [(70, .bool (x9.Form == 2))] H fun D H => Ac 70 H M (fun B M H => ?_) fun B M H => ?_
   ·refine J2 17 8 [(0, []), (3, []), (4, []), (1, [4]), (2, [4]), (5, []), (6, []), (7, [])] ?_
    refine AO 2 [(71, .str p0), (74, .ptr (some (G.size, 0)))] H fun D H => C3 75 (.str x11) h28 [(4, G.size)] (g.CD) H (fun D => .of (Ib (by kernel_rfl) (A.l1 2 0))) (fun D H => ?_)
    have E := A.Hw 0 (pr := [G.size]) (.cons 2 rfl (by simp [Ck.ids]) .nil)
    obtain ⟨x15, X, M⟩ := bind_some M
    obtain ⟨v1, h29, R, rfl, E⟩ := Bd (av := [.str p0, Ai 11]) X E
    replace A := A.YJ E
    refine C3 72 (.str x15) h29 [(4, G.size)] (G.size :: g.CD) H (fun D => Steps.call (by kernel_rfl) R) (fun D H => ?_)
    have E := A.Hw 0 (pr := [G.size]) (.cons 2 rfl (by simp [Ck.ids]) .nil)
    obtain ⟨x16, X, M⟩ := bind_some M
    obtain ⟨v1, h30, R, rfl, E⟩ := EB (av := [.str x15]) X E
    replace A := A.YJ E
    refine C3 73 (.str x16) h30 [(4, G.size)] (G.size :: g.CD) H (fun D => Steps.call (by kernel_rfl) R) (fun D H => ?_)
    obtain ⟨x17, X, M⟩ := bind_some M
    obtain ⟨v1, h31, R, rfl, E⟩ := Ld (av := [.str x16, .str x11]) X (A.cut 0)
    replace A := A.Dx E
    refine C3 76 (.str x17) h31 [(4, G.size)] (g.CD) H (fun D => Steps.call (by kernel_rfl) R) (fun D H => ?_)
    refine AO 1 [(77, .ptr (some (G.size, 0)))] H fun D H => ?_
    obtain ⟨h32, X, A⟩ := A.s2 0 [.str x17] [_, _, _, _, _, _, _, _, _, _, _, _, _]
    refine Kw (.tuple []) h32 [(4, G.size)] (g.CD) H (fun D => .of (Sr (by kernel_rfl) rfl X)) (fun D H => ?_)
    refine at_nil ?_
    exact .inl ⟨_, rfl, BB M, H.ls, A⟩
   exact EJ (.inl ⟨_, rfl, BB M, H.ls, A⟩)
  clear O
  clear A
  intro e D h33 K
  rcases K with ⟨x14, rfl, rfl, H, A⟩ | S
  ·show AW _ _ _ _ _ _ _
   refine AS ?_
   obtain ⟨o2, O, M⟩ := bind_some M
   refine Bb (Q' := fun e N Q => (∃ x18, e = .normal ∧ x18 = o2 ∧ Has N 86 [(2, .ptr (some (h.size, 0))), (4, .ptr (some (G.size, 0)))] ∧ HH g Q [.obj i1 (.cells (some 3) 2 [Ai 1, Ai 2, Ai 3, Ai 4, Ai 5, Ai 9, Ai 10]), .obj i2 (.cells (some 135) 2 [.ptr (some (G.size, 3)), .ptr (some (G.size, 4)), .ptr (some (G.size, 5)), .ptr (some (G.size, 6)), .ptr (some (G.size, 7)), .ptr (some (G.size, 10)), .ptr (some (G.size, 11))]), .obj G.size (.cells none 2 [.str x14, .str x13, Ab x18, Ai x9.Mode, Ai x9.Cz, Ai x9.Ct, Ai x9.Bg, Ai x9.Time, .str x9.Ah, .str x9.Aj, Ai x9.Au, Ai x9.As, Ai x9.Form]), .obj T.size (.cells (some 135) 2 [.ptr (some (G.size, 10)), .ptr (some (G.size, 11))]), .obj I.size (.cells (some 3) 2 [Ai 9, Ai 10]), .obj h.size (.cells none 2 [.str ([] : UV), .str ([] : UV), Ab 0, Ai 0, Ai 0, Ai 0, Ai 0, Ai 0, .str ([] : UV), .str ([] : UV), Ai 0, Ai 0, Ai 0])] F) ∨ False) ?_ ?_
   ·replace M := O
    clear O
    refine AH 4 ?_
    obtain ⟨x19, X, M⟩ := bind_some M
    refine B0 1 [] 79 (Ab x19) h33 H (fun D => .of (Mf (by kernel_rfl) X)) fun D t H => ?_
    obtain ⟨h34, X, A⟩ := A.s2 2 [Ab x19] [_, _, _, _, _, _, _, _, _, _, _, _, _]
    refine Bu 1 [] X H fun D t H => ?_
    refine Bs 3 id (AX 1 [] 82 2 2 A H fun D t H => ?_)
    refine AN 1 [(83, .bool (x19 == 0))] H fun D H => Ac 83 H M (fun B M H => ?_) fun B M H => ?_
    ·refine CE 2 ?_
     obtain ⟨h35, X, A⟩ := A.s2 2 [Ab 48] [_, _, _, _, _, _, _, _, _, _, _, _, _]
     refine Bu 1 [] X H fun D t H => ?_
     refine at_nil ?_
     exact .inl ⟨_, rfl, BB M, H.ls, A⟩
    exact EJ (.inl ⟨_, rfl, BB M, H.ls, A⟩)
   clear O
   clear A
   intro e D h36 K
   rcases K with ⟨x18, rfl, rfl, H, A⟩ | S
   ·show AW _ _ _ _ _ _ _
    refine AH 3 (Ae 85 _ _ H (fun D => .of (BX (by kernel_rfl) (A.Ef 2 rfl (o := 0) (n := 13) ⟨Nat.le_of_ble_eq_true rfl, rfl⟩))) fun D t H => ?_)
    obtain ⟨h37, X, A⟩ := A.s5 0 [.str x14, .str x13, Ab x18, Ai x9.Mode, Ai x9.Cz, Ai x9.Ct, Ai x9.Bg, Ai x9.Time, .str x9.Ah, .str x9.Aj, Ai x9.Au, Ai x9.As, Ai x9.Form] [_, _, _, _, _, _, _, _, _, _, _, _, _]
    refine C9 X H fun D t H => ?_
    refine AN 1 [(3, Ai 0)] H fun D H => AZ ?_
    obtain ⟨rfl, rfl⟩ := B4 M
    refine ⟨.inl rfl, .tuple [.agg [.str x14, .str x13, Ab x18, Ai x9.Mode, Ai x9.Cz, Ai x9.Ct, Ai x9.Bg, Ai x9.Time, .str x9.Ah, .str x9.Aj, Ai x9.Au, Ai x9.As, Ai x9.Form], Ai 0], Dm (.cell (rT H) (Dn (by kernel_rfl) (by kernel_rfl) (A.la 5 0 13)) (.tmp (rT H) .nil)), ?_⟩
    replace A := A.d0
    exact ⟨rfl, A⟩
   exact S.elim
  exact S.elim
 refine CT id (AS (AH 5 ?_))
 replace A := A.k4 1 0 2 3
 obtain ⟨⟨x20, x21⟩, X, M⟩ := bind_some M
 obtain ⟨v1, h38, R, rfl, E⟩ := Ie (av := [.str p0, .slice (some (Z.size, 0)) 5, .slice (some (h9.size, 0)) 5]) X (A.cut 3)
 replace A := A.Zd E
 refine BC 3 [] 55 R H fun D t H => ?_
 refine B5 1 [(7, Ai x20)] 2 H fun D H => AN 2 [(57, .bool (x20 != 0))] H fun D H => Ac 57 H M (fun B M H => ?_) fun B M H => ?_
 ·refine AH 4 ?_
  obtain ⟨h39, X, A⟩ := A.s3 0 [.str ([] : UV), .str ([] : UV), Ab 0, Ai 0, Ai 0, Ai 0, Ai 0, Ai 0, .str ([] : UV), .str ([] : UV), Ai 0, Ai 0, Ai 0] [_, _, _, _, _, _, _, _, _, _, _, _, _]
  refine Jp 2 [(59, Ai x20)] X H fun D t H => ?_
  refine AN 1 [(3, Ai x20)] H fun D H => AZ ?_
  obtain ⟨rfl, rfl⟩ := B4 M
  refine ⟨.inl rfl, .tuple [.agg [.str ([] : UV), .str ([] : UV), Ab 0, Ai 0, Ai 0, Ai 0, Ai 0, Ai 0, .str ([] : UV), .str ([] : UV), Ai 0, Ai 0, Ai 0], Ai x20], Dm (.cell (rT H) (Dn (by kernel_rfl) (by kernel_rfl) (A.la 3 0 13)) (.tmp (rT H) .nil)), ?_⟩
  replace A := A.d0
  exact ⟨rfl, A⟩
 refine B3 10 id ?_
 obtain ⟨x22, X, M⟩ := bind_some M
 obtain ⟨v1, h40, R, rfl, E⟩ := Bd (av := [.str p0, Ai 0]) X (A.cut 0)
 replace A := A.Dx E
 refine BC 1 [] 61 R H fun D t H => ?_
 obtain ⟨x23, X, M⟩ := bind_some M
 obtain ⟨v1, h41, R, rfl, E⟩ := EB (av := [.str x22]) X (A.cut 0)
 replace A := A.Dx E
 refine BM 62 R H fun D t H => ?_
 obtain ⟨x24, X, M⟩ := bind_some M
 obtain ⟨v1, h42, R, rfl, E⟩ := Bd (av := [.str p0, Ai 6]) X (A.cut 0)
 replace A := A.Dx E
 refine BC 1 [] 64 R H fun D t H => ?_
 obtain ⟨x25, X, M⟩ := bind_some M
 obtain ⟨v1, h43, R, rfl, E⟩ := EB (av := [.str x24]) X (A.cut 0)
 replace A := A.Dx E
 refine BM 65 R H fun D t H => ?_
 obtain ⟨h44, X, A⟩ := A.s2 0 [.str x23] [_, _, _, _, _, _, _, _, _, _, _, _, _]
 refine Bu 1 [] X H fun D t H => ?_
 obtain ⟨h45, X, A⟩ := A.s2 1 [.str x25] [_, _, _, _, _, _, _, _, _, _, _, _, _]
 refine Bu 1 [] X H fun D t H => ?_
 refine Bq id (AS ?_)
 obtain ⟨o3, O, M⟩ := bind_some M
 refine Bb (Q' := fun e N Q => (∃ x26, e = .normal ∧ x26 = o3 ∧ Has N 86 [(0, .str p0), (2, .ptr (some (h.size, 0))), (4, .ptr (some (G.size, 0)))] ∧ HH g Q [.obj Z.size (.cells (some 3) 2 [Ai 1, Ai 2, Ai 3, Ai 4, Ai 5]), .obj h9.size (.cells (some 135) 2 [.ptr (some (G.size, 3)), .ptr (some (G.size, 4)), .ptr (some (G.size, 5)), .ptr (some (G.size, 6)), .ptr (some (G.size, 7))]), .obj G.size (.cells none 2 (EP x21 (.str x26) (.str x25))), .obj h.size (.cells none 2 [.str ([] : UV), .str ([] : UV), Ab 0, Ai 0, Ai 0, Ai 0, Ai 0, Ai 0, .str ([] : UV), .str ([] : UV), Ai 0, Ai 0, Ai 0])] F) ∨ False) ?_ ?_
 ·replace M := O
  clear O
  refine AH 3 (AX 1 [] 69 2 12 A H fun D t H => ?_)
  refine AN 1 [(70, .bool (x21.Form == 2))] H fun D H => Ac 70 H M (fun B M H => ?_) fun B M H => ?_
  ·refine J2 17 8 [(0, []), (3, []), (4, []), (1, [4]), (2, [4]), (5, []), (6, []), (7, [])] ?_
   refine AO 2 [(71, .str p0), (74, .ptr (some (G.size, 0)))] H fun D H => C3 75 (.str x23) h45 [(4, G.size)] (g.CD) H (fun D => .of (Ib (by kernel_rfl) (A.l1 2 0))) (fun D H => ?_)
   have E := A.Hw 0 (pr := [G.size]) (.cons 2 rfl (by simp [Ck.ids]) .nil)
   obtain ⟨x27, X, M⟩ := bind_some M
   obtain ⟨v1, h46, R, rfl, E⟩ := Bd (av := [.str p0, Ai 11]) X E
   replace A := A.YJ E
   refine C3 72 (.str x27) h46 [(4, G.size)] (G.size :: g.CD) H (fun D => Steps.call (by kernel_rfl) R) (fun D H => ?_)
   have E := A.Hw 0 (pr := [G.size]) (.cons 2 rfl (by simp [Ck.ids]) .nil)
   obtain ⟨x28, X, M⟩ := bind_some M
   obtain ⟨v1, h47, R, rfl, E⟩ := EB (av := [.str x27]) X E
   replace A := A.YJ E
   refine C3 73 (.str x28) h47 [(4, G.size)] (G.size :: g.CD) H (fun D => Steps.call (by kernel_rfl) R) (fun D H => ?_)
   obtain ⟨x29, X, M⟩ := bind_some M
   obtain ⟨v1, h48, R, rfl, E⟩ := Ld (av := [.str x28, .str x23]) X (A.cut 0)
   replace A := A.Dx E
   refine C3 76 (.str x29) h48 [(4, G.size)] (g.CD) H (fun D => Steps.call (by kernel_rfl) R) (fun D H => ?_)
   refine AO 1 [(77, .ptr (some (G.size, 0)))] H fun D H => ?_
   obtain ⟨h49, X, A⟩ := A.s2 0 [.str x29] [_, _, _, _, _, _, _, _, _, _, _, _, _]
   refine Kw (.tuple []) h49 [(4, G.size)] (g.CD) H (fun D => .of (Sr (by kernel_rfl) rfl X)) (fun D H => ?_)
   refine at_nil ?_
   exact .inl ⟨_, rfl, BB M, H.ls, A⟩
  exact EJ (.inl ⟨_, rfl, BB M, H.ls, A⟩)
 clear O
 clear A
 intro e D h50 K
 rcases K with ⟨x26, rfl, rfl, H, A⟩ | S
 ·show AW _ _ _ _ _ _ _
  refine AS ?_
  obtain ⟨o4, O, M⟩ := bind_some M
  refine Bb (Q' := fun e N Q => (∃ x30, e = .normal ∧ x30 = o4 ∧ Has N 86 [(2, .ptr (some (h.size, 0))), (4, .ptr (some (G.size, 0)))] ∧ HH g Q [.obj Z.size (.cells (some 3) 2 [Ai 1, Ai 2, Ai 3, Ai 4, Ai 5]), .obj h9.size (.cells (some 135) 2 [.ptr (some (G.size, 3)), .ptr (some (G.size, 4)), .ptr (some (G.size, 5)), .ptr (some (G.size, 6)), .ptr (some (G.size, 7))]), .obj G.size (.cells none 2 [.str x26, .str x25, Ab x30, Ai x21.Mode, Ai x21.Cz, Ai x21.Ct, Ai x21.Bg, Ai x21.Time, .str x21.Ah, .str x21.Aj, Ai x21.Au, Ai x21.As, Ai x21.Form]), .obj h.size (.cells none 2 [.str ([] : UV), .str ([] : UV), Ab 0, Ai 0, Ai 0, Ai 0, Ai 0, Ai 0, .str ([] : UV), .str ([] : UV), Ai 0, Ai 0, Ai 0])] F) ∨ False) ?_ ?_
  ·replace M := O
   clear O
   refine AH 4 ?_
   obtain ⟨x31, X, M⟩ := bind_some M
   refine B0 1 [] 79 (Ab x31) h50 H (fun D => .of (Mf (by kernel_rfl) X)) fun D t H => ?_
   obtain ⟨h51, X, A⟩ := A.s2 2 [Ab x31] [_, _, _, _, _, _, _, _, _, _, _, _, _]
   refine Bu 1 [] X H fun D t H => ?_
   refine Bs 3 id (AX 1 [] 82 2 2 A H fun D t H => ?_)
   refine AN 1 [(83, .bool (x31 == 0))] H fun D H => Ac 83 H M (fun B M H => ?_) fun B M H => ?_
   ·refine CE 2 ?_
    obtain ⟨h52, X, A⟩ := A.s2 2 [Ab 48] [_, _, _, _, _, _, _, _, _, _, _, _, _]
    refine Bu 1 [] X H fun D t H => ?_
    refine at_nil ?_
    exact .inl ⟨_, rfl, BB M, H.ls, A⟩
   exact EJ (.inl ⟨_, rfl, BB M, H.ls, A⟩)
  clear O
  clear A
  intro e D h53 K
  rcases K with ⟨x30, rfl, rfl, H, A⟩ | S
  ·show AW _ _ _ _ _ _ _
   refine AH 3 (Ae 85 _ _ H (fun D => .of (BX (by kernel_rfl) (A.Ef 2 rfl (o := 0) (n := 13) ⟨Nat.le_of_ble_eq_true rfl, rfl⟩))) fun D t H => ?_)
   obtain ⟨h54, X, A⟩ := A.s3 0 [.str x26, .str x25, Ab x30, Ai x21.Mode, Ai x21.Cz, Ai x21.Ct, Ai x21.Bg, Ai x21.Time, .str x21.Ah, .str x21.Aj, Ai x21.Au, Ai x21.As, Ai x21.Form] [_, _, _, _, _, _, _, _, _, _, _, _, _]
   refine C9 X H fun D t H => ?_
   refine AN 1 [(3, Ai 0)] H fun D H => AZ ?_
   obtain ⟨rfl, rfl⟩ := B4 M
   refine ⟨.inl rfl, .tuple [.agg [.str x26, .str x25, Ab x30, Ai x21.Mode, Ai x21.Cz, Ai x21.Ct, Ai x21.Bg, Ai x21.Time, .str x21.Ah, .str x21.Aj, Ai x21.Au, Ai x21.As, Ai x21.Form], Ai 0], Dm (.cell (rT H) (Dn (by kernel_rfl) (by kernel_rfl) (A.la 3 0 13)) (.tmp (rT H) .nil)), ?_⟩
   replace A := A.d0
   exact ⟨rfl, A⟩
  exact S.elim
 exact S.elim
def Iu (x4 : List AA) (s : (List ((List UInt8) × (List UInt8))) × Int) : Option (((List ((List UInt8) × (List UInt8))) × Int) ⊕ (((List ((List UInt8) × (List UInt8)))))) :=
 match s with
 | (x5, x6) => Ao (decide (x6 < (x4.length : Int))) ((Ii x4 x6).bind fun x8 => some (.inl ((Cf x5 x8.Key x8.Value), i64.wrap (x6 + 1)))) (some (.inr x5))
def Ik (p0 : List AA) (p1 : List AA) (s : (List ((List UInt8) × (List UInt8))) × Int) : Option (((List ((List UInt8) × (List UInt8))) × Int) ⊕ (((List ((List UInt8) × (List UInt8)))))) :=
 match s with
 | (x1, x2) => Ao (decide (x2 < 2)) ((Ii ([p0, p1] : List (List AA)) x2).bind fun x4 => (loop (Iu x4) (x1, (0 : Int))).bind fun x7 => some (.inl (x7, i64.wrap (x2 + 1)))) (some (.inr x1))
def Iq (x3 : List ((List UInt8) × (List UInt8))) (s : (List AA) × Int) : Option (((List AA) × Int) ⊕ (((List AA)))) :=
 match s with
 | (x9, x10) => Ao (decide (x10 < ((EZ (x3.map Prod.fst)).length : Int))) (((Ii (EZ (x3.map Prod.fst)) x10).bind fun x13 => Ao (!(((E9 x3 x13).getD ([] : UV)) == ([] : UV))) (Cl (Hs 32 (x9.length + ([(⟨x13, ((E9 x3 x13).getD ([] : UV))⟩ : AA)] : List AA).length)) <| some (x9 ++ ([(⟨x13, ((E9 x3 x13).getD ([] : UV))⟩ : AA)] : List AA))) (some x9) : Option (((List AA)))).bind fun x12 => some (.inl (x12, i64.wrap (x10 + 1)))) (some (.inr x9))
def Ic (p0 : List AA) (p1 : List AA) : Option ((List AA)) :=
 (loop (Ik p0 p1) (([] : List ((List UInt8) × (List UInt8))), (0 : Int))).bind fun x3 => Cl (PL (x3.map Prod.fst)) <| (loop (Iq x3) (([] : List AA), (0 : Int))).bind fun x11 => some x11
theorem Nt {p0 p1 q0} (M : Ic p0 p1 = some q0) (A : HH g h [] F) (hc : BP (cfg.still 31) av = [vs AJ p0, vs AJ p1] := by kernel_rfl) : ∃ v Q, BZ cfg g h 31 av v Q ∧ ∃ (rq0 : Option Nat), v = AP rq0 q0.length ∧ HH g Q [.AQ rq0 117 (AQ AJ q0)] F := by
 refine EE 55 [.tmp 4] hc ?_
 clear hc
 unfold Ic at M
 refine bg 55 [(0, vs AJ p0), (1, vs AJ p1)] fun D H => ?_
 refine AH 1 (B5 1 [] 2 H fun D H => ?_)
 obtain ⟨h1, e1⟩ : ∃ x, x = h.push (.map 2 []) := ⟨_, rfl⟩
 replace A : HH g h1 [.obj h.size (.map 2 (Di (fun k : List UInt8 => .str k) (fun v : List UInt8 => .str v) ([] : List ((List UInt8) × (List UInt8)))))] F := (A.push _).to e1
 refine BU 13 (.map (some h.size)) e1 H fun D t H => ?_
 refine AN 1 [(5, .map (some h.size))] H fun D H => AS (AH 4 (AN 4 [(16, .agg [vs AJ p0, vs AJ p1]), (17, Ai 0)] H fun D H => Aa (id := 0) (by kernel_rfl) ?_))
 obtain ⟨o1, O, M⟩ := bind_some M
 refine Bb (Q' := fun e N Q => (∃ x3, e = .exit 0 ∧ x3 = o1 ∧ Has N 55 [(5, .map (some h.size))] ∧ HH g Q [.obj h.size (.map 2 (Di (fun k : List UInt8 => .str k) (fun v : List UInt8 => .str v) x3))] F) ∨ False) ?_ ?_
 ·refine C2 (by kernel_rfl) (fun (s : (List ((List UInt8) × (List UInt8))) × Int) N Q => ∃ x1 x2, (x1, x2) = s ∧ Has N 55 [(5, .map (some h.size)), (16, .agg [vs AJ p0, vs AJ p1]), (17, Ai x2)] ∧ HH g Q [.obj h.size (.map 2 (Di (fun k : List UInt8 => .str k) (fun v : List UInt8 => .str v) x1))] F) O ⟨_, _, rfl, H.ls, A⟩ ?_
  clear O M H A
  intro s q D h2 hI M
  obtain ⟨x1, x2, rfl, H, A⟩ := hI
  unfold Ik at M
  refine AH 1 (AN 1 [(18, .bool (decide (x2 < 2)))] H fun D H => AS (Ac 18 H M (fun B M H => ?_) fun B M H => ?_))
  ·refine CT id (AS (Aa (id := 1) (by kernel_rfl) ?_))
   refine AH 2 ?_
   obtain ⟨x4, hq1, M⟩ := bind_some M
   refine Ae 19 (vs AJ x4) h2 H (fun D => .of (Rw (fun w : List AA => vs AJ w) [p0, p1] (by kernel_rfl) rfl rfl hq1)) fun D t H => ?_
   refine B5 1 [(7, vs AJ x4)] 3 H fun D H => AN 3 [(20, vs AJ x4), (21, Ai (x4.length : Int)), (22, Ai 0)] H fun D H => Aa (id := 2) (by kernel_rfl) ?_
   obtain ⟨o2, O, M⟩ := bind_some M
   refine Bb (Q' := fun e N Q => (∃ x7, e = .exit 2 ∧ x7 = o2 ∧ Has N 55 [(5, .map (some h.size)), (16, .agg [vs AJ p0, vs AJ p1]), (17, Ai x2)] ∧ HH g Q [.obj h.size (.map 2 (Di (fun k : List UInt8 => .str k) (fun v : List UInt8 => .str v) x7))] F) ∨ False) ?_ ?_
   ·refine C2 (by kernel_rfl) (fun (s : (List ((List UInt8) × (List UInt8))) × Int) N Q => ∃ x5 x6, (x5, x6) = s ∧ Has N 55 [(5, .map (some h.size)), (16, .agg [vs AJ p0, vs AJ p1]), (17, Ai x2), (20, vs AJ x4), (21, Ai (x4.length : Int)), (22, Ai x6)] ∧ HH g Q [.obj h.size (.map 2 (Di (fun k : List UInt8 => .str k) (fun v : List UInt8 => .str v) x5))] F) O ⟨_, _, rfl, H.ls, A⟩ ?_
    clear O M H A
    intro s q D h3 hI M
    obtain ⟨x5, x6, rfl, H, A⟩ := hI
    unfold Iu at M
    refine AH 1 (AN 1 [(23, .bool (decide (x6 < (x4.length : Int))))] H fun D H => AS (Ac 23 H M (fun B M H => ?_) fun B M H => ?_))
    ·refine CT id (AS (Aa (id := 3) (by kernel_rfl) ?_))
     refine AH 4 ?_
     obtain ⟨x8, X, M⟩ := bind_some M
     refine Ae 24 (.An [.str x8.Key, .str x8.Value]) h3 H (fun D => .of (Ul (e := AJ) (x := x8) BJ (by decide) (by kernel_rfl) X)) fun D t H => ?_
     refine Ae 25 (.agg [.str x8.Key, .str x8.Value]) h3 H (fun D => .of (XN (by kernel_rfl))) fun D t H => ?_
     obtain ⟨J, e2, A⟩ := A.pu (.cells none 2 [.str ([] : UV), .str ([] : UV)])
     refine BU 9 (.ptr (some (h3.size, 0))) e2 H fun D t H => ?_
     obtain ⟨G, X, A⟩ := A.s0 0 [.str x8.Key, .str x8.Value] [_, _]
     refine C9 X H fun D t H => ?_
     refine ED 6 id (AX 2 [(26, .map (some h.size))] 28 0 0 A H fun D t H => ?_)
     refine AX 1 [] 30 0 1 A H fun D t H => ?_
     obtain ⟨W, X, E⟩ := HH.MF (kt := 9) (et := 9) (ek := fun k : List UInt8 => .str k) (ev := fun v : List UInt8 => .str v) (Wu (by kernel_rfl)) A 1 rfl (t := 146) (by kernel_rfl) x8.Key x8.Value
     replace A : HH g W [_, .obj h.size (.map 2 (Di (fun k : List UInt8 => .str k) (fun v : List UInt8 => .str v) (Cf x5 x8.Key x8.Value)))] F := E
     refine Fu (.tuple []) W H (fun D => .of (MR (by kernel_rfl) X)) fun D t H => ?_
     refine ED 2 id (Bv 2 [(5, .map (some h.size)), (16, .agg [vs AJ p0, vs AJ p1]), (17, Ai x2), (20, vs AJ x4), (21, Ai (x4.length : Int)), (22, Ai (i64.wrap (x6 + 1)))] H fun D H => at_nil ?_)
     replace A := A.k1 1
     exact nx M ⟨_, _, rfl, H.ls, A⟩
    refine Bp (i := 2) (by kernel_rfl) ?_
    exact nr M fun e => .inl ⟨_, rfl, e, H.ls, A⟩
   clear O
   clear A
   intro e D Z K
   rcases K with ⟨x7, rfl, rfl, H, A⟩ | S
   ·show AW _ _ _ _ _ _ _
    refine CE 2 (Bv 2 [(5, .map (some h.size)), (16, .agg [vs AJ p0, vs AJ p1]), (17, Ai (i64.wrap (x2 + 1)))] H fun D H => at_nil ?_)
    exact nx M ⟨_, _, rfl, H.ls, A⟩
   exact S.elim
  refine Bp (i := 0) (by kernel_rfl) ?_
  exact nr M fun e => .inl ⟨_, rfl, e, H.ls, A⟩
 clear O
 clear A
 intro e D h8 K
 rcases K with ⟨x3, rfl, rfl, H, A⟩ | S
 ·show AW _ _ _ _ _ _ _
  refine AH 1 (AN 1 [(10, .slice none 0)] H fun D H => AS (AH 5 ?_))
  obtain ⟨h9, e3, A⟩ := A.pu (.cells none 2 [.map (some h.size)])
  have R : ∀ g, BZ cfg g h8 84 [.map (some h.size)] (.func (.func 146) [] [.ptr (some (h8.size, 0))]) h9 := fun g => by rw [e3]; exact ⟨2, by kernel_rfl⟩
  refine B0 1 [] 34 _ _ H (fun D => Steps.call (by kernel_rfl) (R _)) fun D t H => ?_
  have E := A.cut 2
  obtain ⟨B, M⟩ := Aq M
  obtain ⟨r1, I, R, E⟩ := HH.sorted (C := cfg) (f := 83) (it := 146) (t := 9) (ev := fun v : List UInt8 => .str v) (m := x3) E (by kernel_rfl) (l := exts) rfl (by kernel_rfl) 0 1 rfl rfl B
  replace A := A.g23 E
  refine BM 35 R H fun D t H => ?_
  refine AN 2 [(36, Ai ((EZ (x3.map Prod.fst)).length : Int)), (37, Ai 0)] H fun D H => Aa (id := 4) (by kernel_rfl) ?_
  replace A : HH g I [.AQ none 117 (AQ AJ ([] : List AA)), _, _, _] F := A.Hv 117
  obtain ⟨o3, O, M⟩ := bind_some M
  refine Bb (Q' := fun e N Q => (∃ x11, e = .exit 4 ∧ x11 = o3 ∧ ∃ r3, Has N 55 [(10, AP r3 x11.length)] ∧ HH g Q [.AQ r3 117 (AQ AJ x11), .obj h8.size (.cells none 2 [.map (some h.size)]), .obj h.size (.map 2 (Di (fun k : List UInt8 => .str k) (fun v : List UInt8 => .str v) x3))] F) ∨ False) ?_ ?_
  ·refine C2 (by kernel_rfl) (fun (s : (List AA) × Int) N Q => ∃ x9 x10, (x9, x10) = s ∧ ∃ r2, Has N 55 [(5, .map (some h.size)), (10, AP r2 x9.length), (35, AP r1 ((EZ (x3.map Prod.fst)).length)), (36, Ai ((EZ (x3.map Prod.fst)).length : Int)), (37, Ai x10)] ∧ HH g Q [.AQ r2 117 (AQ AJ x9), .AQ r1 9 (AQ eS (EZ (x3.map Prod.fst))), .obj h8.size (.cells none 2 [.map (some h.size)]), .obj h.size (.map 2 (Di (fun k : List UInt8 => .str k) (fun v : List UInt8 => .str v) x3))] F) O ⟨_, _, rfl, none, H.ls, A⟩ ?_
   clear O M H A
   intro s q D V hI M
   obtain ⟨x9, x10, rfl, r2, H, A⟩ := hI
   unfold Iq at M
   refine AH 1 (AN 1 [(38, .bool (decide (x10 < ((EZ (x3.map Prod.fst)).length : Int))))] H fun D H => AS (Ac 38 H M (fun B M H => ?_) fun B M H => ?_))
   ·refine CT id (AS ?_)
    obtain ⟨o4, O, M⟩ := bind_some M
    refine Bb (Q' := fun e N Q => (∃ x12, e = .normal ∧ x12 = o4 ∧ ∃ r4, Has N 55 [(5, .map (some h.size)), (10, AP r4 x12.length), (35, AP r1 ((EZ (x3.map Prod.fst)).length)), (36, Ai ((EZ (x3.map Prod.fst)).length : Int)), (37, Ai x10)] ∧ HH g Q [.AQ r4 117 (AQ AJ x12), .AQ r1 9 (AQ eS (EZ (x3.map Prod.fst))), .obj h8.size (.cells none 2 [.map (some h.size)]), .obj h.size (.map 2 (Di (fun k : List UInt8 => .str k) (fun v : List UInt8 => .str v) x3))] F) ∨ False) ?_ ?_
    ·replace M := O
     clear O
     refine Aa (id := 5) (by kernel_rfl) ?_
     refine AH 3 ?_
     obtain ⟨x13, X, M⟩ := bind_some M
     obtain ⟨i1, er1, _, X, hq2⟩ := HH.Ra encS (by decide) A 1 (xs := (EZ (x3.map Prod.fst))) rfl X
     refine Ae 39 (.ptr (some (i1, x10.toNat * 1))) V H (fun D => .of (G1 (s := CF r1 ((EZ (x3.map Prod.fst)).length)) (by kernel_rfl) X)) fun D t H => ?_
     refine Ae 40 _ _ H (fun D => .of (Ib (by kernel_rfl) (Lb encS (HH.row A 1 rfl er1) hq2 (o := 0) rfl))) fun D t H => ?_
     refine B5 1 [(12, .str x13)] 4 H fun D H => B0 2 [] 43 (.str ((E9 x3 x13).getD ([] : UV))) V H (fun D => .of (V6 (by kernel_rfl) (HH.WO (kt := 9) (et := 9) (ek := fun k : List UInt8 => .str k) (ev := fun v : List UInt8 => .str v) (Wu (by kernel_rfl)) A 3 rfl (t := 146) (by kernel_rfl) (z := ([] : UV)) (by kernel_rfl) x13))) fun D t H => ?_
     refine AN 1 [(44, .bool (!(((E9 x3 x13).getD ([] : UV)) == ([] : UV))))] H fun D H => Ac 44 H M (fun B M H => ?_) fun B M H => ?_
     ·refine CE 9 (B0 4 [(45, AP r2 x9.length), (46, .str x13)] 49 (.str ((E9 x3 x13).getD ([] : UV))) V H (fun D => .of (V6 (by kernel_rfl) (HH.WO (kt := 9) (et := 9) (ek := fun k : List UInt8 => .str k) (ev := fun v : List UInt8 => .str v) (Wu (by kernel_rfl)) A 3 rfl (t := 146) (by kernel_rfl) (z := ([] : UV)) (by kernel_rfl) x13))) fun D t H => ?_)
      refine AO 1 [(50, .agg [.str x13, .str ((E9 x3 x13).getD ([] : UV))])] H fun D H => ?_
      obtain ⟨T, e4, A⟩ := A.pL 117 [.str x13, .str ((E9 x3 x13).getD ([] : UV))]
      refine BU 51 (AP (some V.size) (([(⟨x13, ((E9 x3 x13).getD ([] : UV))⟩ : AA)] : List AA).length)) e4 H fun D t H => ?_
      obtain ⟨B, M⟩ := Aq M
      obtain ⟨r5, h13, X, E⟩ := HH.FN BJ (by decide) A 1 (xs := x9) (ys := ([(⟨x13, ((E9 x3 x13).getD ([] : UV))⟩ : AA)] : List AA)) rfl (C0 A 0 rfl (n := ([(⟨x13, ((E9 x3 x13).getD ([] : UV))⟩ : AA)] : List AA).length) (z := 2) rfl (by decide)) rfl rfl B
      replace A : HH g h13 [.AQ (some V.size) 117 ([.str x13, .str ((E9 x3 x13).getD ([] : UV))]), .AQ r5 117 (AQ AJ (x9 ++ ([(⟨x13, ((E9 x3 x13).getD ([] : UV))⟩ : AA)] : List AA))), _, _, _] F := E
      replace A := A.k4 1 2 3 4
      refine Ae 52 _ _ H (fun D => .of (DU (s := CF r2 x9.length) (by kernel_rfl) X)) fun D t H => ?_
      refine Bv 1 [(5, .map (some h.size)), (10, AP r5 ((x9 ++ ([(⟨x13, ((E9 x3 x13).getD ([] : UV))⟩ : AA)] : List AA)).length)), (35, AP r1 ((EZ (x3.map Prod.fst)).length)), (36, Ai ((EZ (x3.map Prod.fst)).length : Int)), (37, Ai x10)] H fun D H => at_nil ?_
      exact .inl ⟨_, rfl, BB M, _, H.ls, A⟩
     exact EJ (.inl ⟨_, rfl, BB M, _, H.ls, A⟩)
    clear O
    clear A
    intro e D h14 K
    rcases K with ⟨x12, rfl, rfl, r4, H, A⟩ | S
    ·show AW _ _ _ _ _ _ _
     refine CE 2 (Bv 2 [(5, .map (some h.size)), (10, AP r4 x12.length), (35, AP r1 ((EZ (x3.map Prod.fst)).length)), (36, Ai ((EZ (x3.map Prod.fst)).length : Int)), (37, Ai (i64.wrap (x10 + 1)))] H fun D H => at_nil ?_)
     exact nx M ⟨_, _, rfl, _, H.ls, A⟩
    exact S.elim
   refine Bp (i := 4) (by kernel_rfl) ?_
   replace A := A.k3 0 2 3
   exact nr M fun e => .inl ⟨_, rfl, e, _, H.ls, A⟩
  clear O
  clear A
  intro e D h15 K
  rcases K with ⟨x11, rfl, rfl, r3, H, A⟩ | S
  ·show AW _ _ _ _ _ _ _
   refine AH 2 (AN 2 [(4, AP r3 x11.length)] H fun D H => AZ ?_)
   obtain rfl := BB M
   refine ⟨.inl rfl, AP r3 x11.length, rH H, ?_⟩
   replace A := A.d1
   exact ⟨r3, rfl, A⟩
  exact S.elim
 exact S.elim
def Gl (p1 : List AA) (s : (List AA) × Int) : Option (((List AA) × Int) ⊕ (((List AA)))) :=
 match s with
 | (x1, x2) => Ao (decide (x2 < (p1.length : Int))) (((Ii p1 x2).bind fun x5 => Ao (x5.Key == ([103, 105, 100] : UV)) (none) (Ao (x5.Key == ([117, 105, 100] : UV)) (none) (Ao (x5.Key == ([115, 105, 122, 101] : UV)) (none) (Ao (x5.Key == ([103, 110, 97, 109, 101] : UV)) (none) (Ao (x5.Key == ([117, 110, 97, 109, 101] : UV)) (none) (Ao (x5.Key == ([112, 97, 116, 104] : UV)) (none) (Ao (x5.Key == ([108, 105, 110, 107, 112, 97, 116, 104] : UV)) (none) (Ao (x5.Key == ([109, 116, 105, 109, 101] : UV)) (none) (Cl (Hs 32 (x1.length + ([x5] : List AA).length)) <| some (x1 ++ ([x5] : List AA)))))))))) : Option (((List AA)))).bind fun x4 => some (.inl (x4, i64.wrap (x2 + 1)))) (some (.inr x1))
def Ft (p0 : AL) (p1 : List AA) : Option (AG × Int × Int) :=
 (loop (Gl p1) (([] : List AA), (0 : Int))).bind fun x3 => some ((⟨p0.Name, p0.A9, p0.Kind, p0.Mode, p0.Cz, p0.Ct, p0.Ah, p0.Aj, p0.Au, p0.As, (⟨p0.Time, (0 : Int)⟩ : Ad), x3, ([] : UV)⟩ : AG), p0.Bg, (0 : Int))
theorem LJ {p0 p1 rp1 q0 q1 q2} (M : Ft p0 p1 = some (q0, q1, q2)) (A : HH g h [.AQ rp1 117 (AQ AJ p1)] F) (hc : BP (cfg.still 30) av = [.agg (AK p0), AP rp1 p1.length] := by kernel_rfl) : ∃ v Q, BZ cfg g h 30 av v Q ∧ v = .tuple [.agg (AE q0), Ai q1, Ai q2] ∧ HH g Q [.AQ rp1 117 (AQ AJ p1)] F := by
 refine Zo 74 [.cell 4 26, .tmp 5, .tmp 6] hc ?_
 clear hc
 unfold Ft at M
 refine bg 74 [(0, .agg (AK p0)), (1, AP rp1 p1.length)] fun D H => ?_
 refine AH 4 ?_
 obtain ⟨h1, e1, A⟩ := A.pu (.cells none 2 (AK p0))
 refine BU 2 (.ptr (some (h.size, 0))) e1 H fun D t H => ?_
 obtain ⟨h2, e2, A⟩ := A.pu (.cells none 2 [.str ([] : UV), .str ([] : UV), Ab 0, Ai 0, Ai 0, Ai 0, .str ([] : UV), .str ([] : UV), Ai 0, Ai 0, Ai 0, Ai 0, .slice none 0, .str ([] : UV)])
 refine BU 4 (.ptr (some (h1.size, 0))) e2 H fun D t H => ?_
 refine B5 2 [] 26 H fun D H => AX 1 [] 16 1 0 A H fun D t H => ?_
 refine AX 1 [] 18 1 1 A H fun D t H => ?_
 refine AX 1 [] 20 1 2 A H fun D t H => ?_
 refine AX 1 [] 22 1 3 A H fun D t H => ?_
 refine AX 1 [] 24 1 4 A H fun D t H => ?_
 refine AX 1 [] 26 1 5 A H fun D t H => ?_
 refine AX 1 [] 28 1 8 A H fun D t H => ?_
 refine AX 1 [] 30 1 9 A H fun D t H => ?_
 refine AX 1 [] 32 1 10 A H fun D t H => ?_
 refine AX 1 [] 34 1 11 A H fun D t H => ?_
 refine AX 1 [] 36 1 7 A H fun D t H => ?_
 obtain ⟨h3, e3, A⟩ := A.pu (.cells none 2 [.str ([] : UV), .str ([] : UV), Ab 0, Ai 0, Ai 0, Ai 0, .str ([] : UV), .str ([] : UV), Ai 0, Ai 0, Ai 0, Ai 0, .slice none 0, .str ([] : UV)])
 refine K2 2 [(38, .agg [.str p0.Name, .str p0.A9, Ab p0.Kind, Ai p0.Mode, Ai p0.Cz, Ai p0.Ct, .str p0.Ah, .str p0.Aj, Ai p0.Au, Ai p0.As, Ai p0.Time, Ai (0 : Int), .slice none 0, .str ([] : UV)])] 7 (.ptr (some (h2.size, 0))) e3 H fun D t H => ?_
 obtain ⟨J, X, E⟩ := A.st 0 rfl (o := 0) (new := [.str p0.Name, .str p0.A9, Ab p0.Kind, Ai p0.Mode, Ai p0.Cz, Ai p0.Ct, .str p0.Ah, .str p0.Aj, Ai p0.Au, Ai p0.As, Ai p0.Time, Ai 0, .slice none 0, .str ([] : UV)]) (ds := [.str p0.Name, .str p0.A9, Ab p0.Kind, Ai p0.Mode, Ai p0.Cz, Ai p0.Ct, .str p0.Ah, .str p0.Aj, Ai p0.Au, Ai p0.As, Ai p0.Time, Ai 0, .slice none 0, .str ([] : UV)]) (Nat.le_of_ble_eq_true rfl) rfl rfl
 replace A : HH g J [.obj h2.size (.cells none 2 [.str p0.Name, .str p0.A9, Ab p0.Kind, Ai p0.Mode, Ai p0.Cz, Ai p0.Ct, .str p0.Ah, .str p0.Aj, Ai p0.Au, Ai p0.As, Ai p0.Time, Ai 0, .slice none 0, .str ([] : UV)]), .obj h1.size (.cells none 2 [.str ([] : UV), .str ([] : UV), Ab 0, Ai 0, Ai 0, Ai 0, .str ([] : UV), .str ([] : UV), Ai 0, Ai 0, Ai 0, Ai 0, .slice none 0, .str ([] : UV)]), .obj h.size (.cells none 2 (AK p0)), _] F := E
 refine C9 X H fun D t H => ?_
 refine Bs 4 id (AX 1 [] 40 2 6 A H fun D t H => ?_)
 obtain ⟨G, e4, A⟩ := A.pu (.cells none 2 [Ai 0])
 refine BU 8 (.ptr (some (J.size, 0))) e4 H fun D t H => ?_
 obtain ⟨W, X, A⟩ := A.s0 0 [Ai p0.Bg] [_]
 refine JX X H fun D t H => ?_
 refine Bs 2 id ?_
 obtain ⟨Z, e5⟩ : ∃ x, x = W.push (.map 3 [(.str ([103, 105, 100] : UV), .func (.func 194) [] [.An [.ptr (some (h2.size, 5))]]), (.str ([117, 105, 100] : UV), .func (.func 194) [] [.An [.ptr (some (h2.size, 4))]]), (.str ([115, 105, 122, 101] : UV), .func (.func 194) [] [.An [.ptr (some (J.size, 0))]]), (.str ([103, 110, 97, 109, 101] : UV), .func (.func 195) [] [.An [.ptr (some (h2.size, 7))]]), (.str ([117, 110, 97, 109, 101] : UV), .func (.func 195) [] [.An [.ptr (some (h2.size, 6))]]), (.str ([112, 97, 116, 104] : UV), .func (.func 195) [] [.An [.ptr (some (h2.size, 0))]]), (.str ([108, 105, 110, 107, 112, 97, 116, 104] : UV), .func (.func 195) [] [.An [.ptr (some (h2.size, 1))]]), (.str ([109, 116, 105, 109, 101] : UV), .func (.func 142) [] [.An [.ptr (some (h2.size, 0))]])]) := ⟨_, rfl⟩
 replace A : HH g Z [.obj W.size (.map 3 [(.str ([103, 105, 100] : UV), .func (.func 194) [] [.An [.ptr (some (h2.size, 5))]]), (.str ([117, 105, 100] : UV), .func (.func 194) [] [.An [.ptr (some (h2.size, 4))]]), (.str ([115, 105, 122, 101] : UV), .func (.func 194) [] [.An [.ptr (some (J.size, 0))]]), (.str ([103, 110, 97, 109, 101] : UV), .func (.func 195) [] [.An [.ptr (some (h2.size, 7))]]), (.str ([117, 110, 97, 109, 101] : UV), .func (.func 195) [] [.An [.ptr (some (h2.size, 6))]]), (.str ([112, 97, 116, 104] : UV), .func (.func 195) [] [.An [.ptr (some (h2.size, 0))]]), (.str ([108, 105, 110, 107, 112, 97, 116, 104] : UV), .func (.func 195) [] [.An [.ptr (some (h2.size, 1))]]), (.str ([109, 116, 105, 109, 101] : UV), .func (.func 142) [] [.An [.ptr (some (h2.size, 0))]])]), _, _, _, _, _] F := (A.push _).to e5
 have R : ∀ g, BZ cfg g W 82 [.ptr (some (h2.size, 0)), .ptr (some (J.size, 0))] (.map (some W.size)) Z := fun g => by rw [e5]; exact Tb (C := cfg) (f := 82) (j := 0) (n := 2) (es := [(.str ([103, 105, 100] : UV), .func (.func 194) [] [.An [.ptr (some (h2.size, 5))]]), (.str ([117, 105, 100] : UV), .func (.func 194) [] [.An [.ptr (some (h2.size, 4))]]), (.str ([115, 105, 122, 101] : UV), .func (.func 194) [] [.An [.ptr (some (J.size, 0))]]), (.str ([103, 110, 97, 109, 101] : UV), .func (.func 195) [] [.An [.ptr (some (h2.size, 7))]]), (.str ([117, 110, 97, 109, 101] : UV), .func (.func 195) [] [.An [.ptr (some (h2.size, 6))]]), (.str ([112, 97, 116, 104] : UV), .func (.func 195) [] [.An [.ptr (some (h2.size, 0))]]), (.str ([108, 105, 110, 107, 112, 97, 116, 104] : UV), .func (.func 195) [] [.An [.ptr (some (h2.size, 1))]]), (.str ([109, 116, 105, 109, 101] : UV), .func (.func 142) [] [.An [.ptr (some (h2.size, 0))]])]) (by kernel_rfl) (l := exts) rfl (by kernel_rfl) (by kernel_rfl) (by kernel_rfl)
 refine Ae 41 _ _ H (fun D => Steps.call (by kernel_rfl) (R _)) fun D t H => ?_
 refine AN 1 [(9, .map (some W.size))] H fun D H => AS (AH 3 (AN 3 [(42, AP rp1 p1.length), (43, Ai (p1.length : Int)), (44, Ai 0)] H fun D H => Aa (id := 0) (by kernel_rfl) ?_))
 replace A : HH g Z [.AQ none 117 (AQ AJ ([] : List AA)), _, _, _, _, _, _] F := A.Hv 117
 obtain ⟨o1, O, M⟩ := bind_some M
 refine Bb (Q' := fun e N Q => (∃ x3, e = .exit 0 ∧ x3 = o1 ∧ ∃ r2, Has N 74 [(4, .ptr (some (h1.size, 0))), (7, .ptr (some (h2.size, 0))), (8, .ptr (some (J.size, 0)))] ∧ HH g Q [.AQ r2 117 (AQ AJ x3), .obj W.size (.map 3 [(.str ([103, 105, 100] : UV), .func (.func 194) [] [.An [.ptr (some (h2.size, 5))]]), (.str ([117, 105, 100] : UV), .func (.func 194) [] [.An [.ptr (some (h2.size, 4))]]), (.str ([115, 105, 122, 101] : UV), .func (.func 194) [] [.An [.ptr (some (J.size, 0))]]), (.str ([103, 110, 97, 109, 101] : UV), .func (.func 195) [] [.An [.ptr (some (h2.size, 7))]]), (.str ([117, 110, 97, 109, 101] : UV), .func (.func 195) [] [.An [.ptr (some (h2.size, 6))]]), (.str ([112, 97, 116, 104] : UV), .func (.func 195) [] [.An [.ptr (some (h2.size, 0))]]), (.str ([108, 105, 110, 107, 112, 97, 116, 104] : UV), .func (.func 195) [] [.An [.ptr (some (h2.size, 1))]]), (.str ([109, 116, 105, 109, 101] : UV), .func (.func 142) [] [.An [.ptr (some (h2.size, 0))]])]), .obj J.size (.cells none 2 [Ai p0.Bg]), .obj h2.size (.cells none 2 [.str p0.Name, .str p0.A9, Ab p0.Kind, Ai p0.Mode, Ai p0.Cz, Ai p0.Ct, .str p0.Ah, .str p0.Aj, Ai p0.Au, Ai p0.As, Ai p0.Time, Ai 0, AP r2 x3.length, .str ([] : UV)]), .obj h1.size (.cells none 2 [.str ([] : UV), .str ([] : UV), Ab 0, Ai 0, Ai 0, Ai 0, .str ([] : UV), .str ([] : UV), Ai 0, Ai 0, Ai 0, Ai 0, .slice none 0, .str ([] : UV)]), .obj h.size (.cells none 2 (AK p0)), .AQ rp1 117 (AQ AJ p1)] F) ∨ False) ?_ ?_
 ·refine C2 (by kernel_rfl) (fun (s : (List AA) × Int) N Q => ∃ x1 x2, (x1, x2) = s ∧ ∃ r1, Has N 74 [(4, .ptr (some (h1.size, 0))), (7, .ptr (some (h2.size, 0))), (8, .ptr (some (J.size, 0))), (9, .map (some W.size)), (42, AP rp1 p1.length), (43, Ai (p1.length : Int)), (44, Ai x2)] ∧ HH g Q [.AQ r1 117 (AQ AJ x1), .obj W.size (.map 3 [(.str ([103, 105, 100] : UV), .func (.func 194) [] [.An [.ptr (some (h2.size, 5))]]), (.str ([117, 105, 100] : UV), .func (.func 194) [] [.An [.ptr (some (h2.size, 4))]]), (.str ([115, 105, 122, 101] : UV), .func (.func 194) [] [.An [.ptr (some (J.size, 0))]]), (.str ([103, 110, 97, 109, 101] : UV), .func (.func 195) [] [.An [.ptr (some (h2.size, 7))]]), (.str ([117, 110, 97, 109, 101] : UV), .func (.func 195) [] [.An [.ptr (some (h2.size, 6))]]), (.str ([112, 97, 116, 104] : UV), .func (.func 195) [] [.An [.ptr (some (h2.size, 0))]]), (.str ([108, 105, 110, 107, 112, 97, 116, 104] : UV), .func (.func 195) [] [.An [.ptr (some (h2.size, 1))]]), (.str ([109, 116, 105, 109, 101] : UV), .func (.func 142) [] [.An [.ptr (some (h2.size, 0))]])]), .obj J.size (.cells none 2 [Ai p0.Bg]), .obj h2.size (.cells none 2 [.str p0.Name, .str p0.A9, Ab p0.Kind, Ai p0.Mode, Ai p0.Cz, Ai p0.Ct, .str p0.Ah, .str p0.Aj, Ai p0.Au, Ai p0.As, Ai p0.Time, Ai 0, AP r1 x1.length, .str ([] : UV)]), .obj h1.size (.cells none 2 [.str ([] : UV), .str ([] : UV), Ab 0, Ai 0, Ai 0, Ai 0, .str ([] : UV), .str ([] : UV), Ai 0, Ai 0, Ai 0, Ai 0, .slice none 0, .str ([] : UV)]), .obj h.size (.cells none 2 (AK p0)), .AQ rp1 117 (AQ AJ p1)] F) O ⟨_, _, rfl, none, H.ls, A⟩ ?_
  clear O M H A
  intro s q D h8 hI M
  obtain ⟨x1, x2, rfl, r1, H, A⟩ := hI
  unfold Gl at M
  refine AH 1 (AN 1 [(45, .bool (decide (x2 < (p1.length : Int))))] H fun D H => AS (Ac 45 H M (fun B M H => ?_) fun B M H => ?_))
  ·refine CT id (AS ?_)
   obtain ⟨o2, O, M⟩ := bind_some M
   refine Bb (Q' := fun e N Q => (∃ x4, e = .normal ∧ x4 = o2 ∧ ∃ r3, Has N 74 [(4, .ptr (some (h1.size, 0))), (7, .ptr (some (h2.size, 0))), (8, .ptr (some (J.size, 0))), (9, .map (some W.size)), (42, AP rp1 p1.length), (43, Ai (p1.length : Int)), (44, Ai x2)] ∧ HH g Q [.AQ r3 117 (AQ AJ x4), .obj W.size (.map 3 [(.str ([103, 105, 100] : UV), .func (.func 194) [] [.An [.ptr (some (h2.size, 5))]]), (.str ([117, 105, 100] : UV), .func (.func 194) [] [.An [.ptr (some (h2.size, 4))]]), (.str ([115, 105, 122, 101] : UV), .func (.func 194) [] [.An [.ptr (some (J.size, 0))]]), (.str ([103, 110, 97, 109, 101] : UV), .func (.func 195) [] [.An [.ptr (some (h2.size, 7))]]), (.str ([117, 110, 97, 109, 101] : UV), .func (.func 195) [] [.An [.ptr (some (h2.size, 6))]]), (.str ([112, 97, 116, 104] : UV), .func (.func 195) [] [.An [.ptr (some (h2.size, 0))]]), (.str ([108, 105, 110, 107, 112, 97, 116, 104] : UV), .func (.func 195) [] [.An [.ptr (some (h2.size, 1))]]), (.str ([109, 116, 105, 109, 101] : UV), .func (.func 142) [] [.An [.ptr (some (h2.size, 0))]])]), .obj J.size (.cells none 2 [Ai p0.Bg]), .obj h2.size (.cells none 2 [.str p0.Name, .str p0.A9, Ab p0.Kind, Ai p0.Mode, Ai p0.Cz, Ai p0.Ct, .str p0.Ah, .str p0.Aj, Ai p0.Au, Ai p0.As, Ai p0.Time, Ai 0, AP r3 x4.length, .str ([] : UV)]), .obj h1.size (.cells none 2 [.str ([] : UV), .str ([] : UV), Ab 0, Ai 0, Ai 0, Ai 0, .str ([] : UV), .str ([] : UV), Ai 0, Ai 0, Ai 0, Ai 0, .slice none 0, .str ([] : UV)]), .obj h.size (.cells none 2 (AK p0)), .AQ rp1 117 (AQ AJ p1)] F) ∨ False) ?_ ?_
   ·replace M := O
    clear O
    refine Aa (id := 1) (by kernel_rfl) ?_
    refine AH 4 ?_
    obtain ⟨x5, X, M⟩ := bind_some M
    obtain ⟨i1, er1, _, X, hq1⟩ := HH.Ra BJ (by decide) A 6 (xs := p1) rfl X
    refine Ae 46 (.ptr (some (i1, x2.toNat * 2))) h8 H (fun D => .of (G1 (s := CF rp1 p1.length) (by kernel_rfl) X)) fun D t H => ?_
    refine Ae 47 _ _ H (fun D => .of (BX (by kernel_rfl) (IH BJ (HH.row A 6 rfl er1) hq1 0 2 (Nat.le_of_ble_eq_true rfl)))) fun D t H => ?_
    obtain ⟨h9, e6, A⟩ := A.pu (.cells none 2 [.str ([] : UV), .str ([] : UV)])
    refine BU 11 (.ptr (some (h8.size, 0))) e6 H fun D t H => ?_
    obtain ⟨I, X, A⟩ := A.s0 0 [.str x5.Key, .str x5.Value] [_, _]
    refine C9 X H fun D t H => ?_
    refine Bs 9 id (AX 2 [(49, .map (some W.size))] 51 0 0 A H fun D t H => ?_)
    rcases BT M with ⟨B, M⟩ | ⟨U, M⟩
    ·refine Ae 52 (.tuple [.func (.func 194) [] [.An [.ptr (some (h2.size, 5))]], .bool true]) I H (fun D => .of (GG (by kernel_rfl) (HH.FC (P := cfg.P) A 2 rfl (t := 140) (kt := 9) (et := 144) (by kernel_rfl) (by kernel_rfl) (s := x5.Key) (.hit B)))) fun D t H => ?_
     refine AN 5 [(12, .func (.func 194) [] [.An [.ptr (some (h2.size, 5))]]), (13, .bool true)] H fun D H => AS (AH 2 (AN 2 [(56, .bool false)] H fun D H => ER (x := .tmp 56) (by kernel_rfl) H (fun D => by kernel_rfl) ?_))
     refine B3 5 id (AX 2 [(63, .func (.func 194) [] [.An [.ptr (some (h2.size, 5))]])] 65 0 1 A H fun D t H => ?_)
     cases M
    rcases BT M with ⟨B, M⟩ | ⟨Y, M⟩
    ·refine Ae 52 (.tuple [.func (.func 194) [] [.An [.ptr (some (h2.size, 4))]], .bool true]) I H (fun D => .of (GG (by kernel_rfl) (HH.FC (P := cfg.P) A 2 rfl (t := 140) (kt := 9) (et := 144) (by kernel_rfl) (by kernel_rfl) (s := x5.Key) (.CN U (.hit B))))) fun D t H => ?_
     refine AN 5 [(12, .func (.func 194) [] [.An [.ptr (some (h2.size, 4))]]), (13, .bool true)] H fun D H => AS (AH 2 (AN 2 [(56, .bool false)] H fun D H => ER (x := .tmp 56) (by kernel_rfl) H (fun D => by kernel_rfl) ?_))
     refine B3 5 id (AX 2 [(63, .func (.func 194) [] [.An [.ptr (some (h2.size, 4))]])] 65 0 1 A H fun D t H => ?_)
     cases M
    rcases BT M with ⟨B, M⟩ | ⟨hk3, M⟩
    ·refine Ae 52 (.tuple [.func (.func 194) [] [.An [.ptr (some (J.size, 0))]], .bool true]) I H (fun D => .of (GG (by kernel_rfl) (HH.FC (P := cfg.P) A 2 rfl (t := 140) (kt := 9) (et := 144) (by kernel_rfl) (by kernel_rfl) (s := x5.Key) (.CN U (.CN Y (.hit B)))))) fun D t H => ?_
     refine AN 5 [(12, .func (.func 194) [] [.An [.ptr (some (J.size, 0))]]), (13, .bool true)] H fun D H => AS (AH 2 (AN 2 [(56, .bool false)] H fun D H => ER (x := .tmp 56) (by kernel_rfl) H (fun D => by kernel_rfl) ?_))
     refine B3 5 id (AX 2 [(63, .func (.func 194) [] [.An [.ptr (some (J.size, 0))]])] 65 0 1 A H fun D t H => ?_)
     cases M
    rcases BT M with ⟨B, M⟩ | ⟨hk4, M⟩
    ·refine Ae 52 (.tuple [.func (.func 195) [] [.An [.ptr (some (h2.size, 7))]], .bool true]) I H (fun D => .of (GG (by kernel_rfl) (HH.FC (P := cfg.P) A 2 rfl (t := 140) (kt := 9) (et := 144) (by kernel_rfl) (by kernel_rfl) (s := x5.Key) (.CN U (.CN Y (.CN hk3 (.hit B))))))) fun D t H => ?_
     refine AN 5 [(12, .func (.func 195) [] [.An [.ptr (some (h2.size, 7))]]), (13, .bool true)] H fun D H => AS (AH 2 (AN 2 [(56, .bool false)] H fun D H => ER (x := .tmp 56) (by kernel_rfl) H (fun D => by kernel_rfl) ?_))
     refine B3 5 id (AX 2 [(63, .func (.func 195) [] [.An [.ptr (some (h2.size, 7))]])] 65 0 1 A H fun D t H => ?_)
     cases M
    rcases BT M with ⟨B, M⟩ | ⟨hk5, M⟩
    ·refine Ae 52 (.tuple [.func (.func 195) [] [.An [.ptr (some (h2.size, 6))]], .bool true]) I H (fun D => .of (GG (by kernel_rfl) (HH.FC (P := cfg.P) A 2 rfl (t := 140) (kt := 9) (et := 144) (by kernel_rfl) (by kernel_rfl) (s := x5.Key) (.CN U (.CN Y (.CN hk3 (.CN hk4 (.hit B)))))))) fun D t H => ?_
     refine AN 5 [(12, .func (.func 195) [] [.An [.ptr (some (h2.size, 6))]]), (13, .bool true)] H fun D H => AS (AH 2 (AN 2 [(56, .bool false)] H fun D H => ER (x := .tmp 56) (by kernel_rfl) H (fun D => by kernel_rfl) ?_))
     refine B3 5 id (AX 2 [(63, .func (.func 195) [] [.An [.ptr (some (h2.size, 6))]])] 65 0 1 A H fun D t H => ?_)
     cases M
    rcases BT M with ⟨B, M⟩ | ⟨hk6, M⟩
    ·refine Ae 52 (.tuple [.func (.func 195) [] [.An [.ptr (some (h2.size, 0))]], .bool true]) I H (fun D => .of (GG (by kernel_rfl) (HH.FC (P := cfg.P) A 2 rfl (t := 140) (kt := 9) (et := 144) (by kernel_rfl) (by kernel_rfl) (s := x5.Key) (.CN U (.CN Y (.CN hk3 (.CN hk4 (.CN hk5 (.hit B))))))))) fun D t H => ?_
     refine AN 5 [(12, .func (.func 195) [] [.An [.ptr (some (h2.size, 0))]]), (13, .bool true)] H fun D H => AS (AH 2 (AN 2 [(56, .bool false)] H fun D H => ER (x := .tmp 56) (by kernel_rfl) H (fun D => by kernel_rfl) ?_))
     refine B3 5 id (AX 2 [(63, .func (.func 195) [] [.An [.ptr (some (h2.size, 0))]])] 65 0 1 A H fun D t H => ?_)
     cases M
    rcases BT M with ⟨B, M⟩ | ⟨hk7, M⟩
    ·refine Ae 52 (.tuple [.func (.func 195) [] [.An [.ptr (some (h2.size, 1))]], .bool true]) I H (fun D => .of (GG (by kernel_rfl) (HH.FC (P := cfg.P) A 2 rfl (t := 140) (kt := 9) (et := 144) (by kernel_rfl) (by kernel_rfl) (s := x5.Key) (.CN U (.CN Y (.CN hk3 (.CN hk4 (.CN hk5 (.CN hk6 (.hit B)))))))))) fun D t H => ?_
     refine AN 5 [(12, .func (.func 195) [] [.An [.ptr (some (h2.size, 1))]]), (13, .bool true)] H fun D H => AS (AH 2 (AN 2 [(56, .bool false)] H fun D H => ER (x := .tmp 56) (by kernel_rfl) H (fun D => by kernel_rfl) ?_))
     refine B3 5 id (AX 2 [(63, .func (.func 195) [] [.An [.ptr (some (h2.size, 1))]])] 65 0 1 A H fun D t H => ?_)
     cases M
    rcases BT M with ⟨B, M⟩ | ⟨hk8, M⟩
    ·refine Ae 52 (.tuple [.func (.func 142) [] [.An [.ptr (some (h2.size, 0))]], .bool true]) I H (fun D => .of (GG (by kernel_rfl) (HH.FC (P := cfg.P) A 2 rfl (t := 140) (kt := 9) (et := 144) (by kernel_rfl) (by kernel_rfl) (s := x5.Key) (.CN U (.CN Y (.CN hk3 (.CN hk4 (.CN hk5 (.CN hk6 (.CN hk7 (.hit B))))))))))) fun D t H => ?_
     refine AN 5 [(12, .func (.func 142) [] [.An [.ptr (some (h2.size, 0))]]), (13, .bool true)] H fun D H => AS (AH 2 (AN 2 [(56, .bool false)] H fun D H => ER (x := .tmp 56) (by kernel_rfl) H (fun D => by kernel_rfl) ?_))
     refine B3 5 id (AX 2 [(63, .func (.func 142) [] [.An [.ptr (some (h2.size, 0))]])] 65 0 1 A H fun D t H => ?_)
     cases M
    refine Ae 52 (.tuple [.nilFunc, .bool false]) I H (fun D => .of (GG (by kernel_rfl) (HH.Sg (P := cfg.P) A 2 rfl (t := 140) (kt := 9) (et := 144) (by kernel_rfl) (by kernel_rfl) (z := .nilFunc) (by kernel_rfl) (s := x5.Key) (.CN U (.CN Y (.CN hk3 (.CN hk4 (.CN hk5 (.CN hk6 (.CN hk7 (.CN hk8 (.nil)))))))))))) fun D t H => ?_
    refine AN 5 [(12, .nilFunc), (13, .bool false)] H fun D H => AS (AH 2 (AN 2 [(56, .bool true)] H fun D H => C8 (x := .tmp 56) (by kernel_rfl) H (fun D => by kernel_rfl) ?_))
    refine AH 7 (AX 1 [] 58 4 12 A H fun D t H => ?_)
    refine Ae 59 _ _ H (fun D => .of (BX (by kernel_rfl) (A.Ef 0 rfl (o := 0) (n := 2) ⟨Nat.le_of_ble_eq_true rfl, rfl⟩))) fun D t H => ?_
    obtain ⟨V, e7, A⟩ := A.pL 117 [.str x5.Key, .str x5.Value]
    refine BU 60 (AP (some I.size) (([x5] : List AA).length)) e7 H fun D t H => ?_
    obtain ⟨B, M⟩ := Aq M
    obtain ⟨r4, T, X, E⟩ := HH.FN BJ (by decide) A 2 (xs := x1) (ys := ([x5] : List AA)) rfl (C0 A 0 rfl (n := ([x5] : List AA).length) (z := 2) rfl (by decide)) rfl rfl B
    replace A : HH g T [.AQ (some I.size) 117 ([.str x5.Key, .str x5.Value]), _, .AQ r4 117 (AQ AJ (x1 ++ ([x5] : List AA))), _, _, _, _, _, _] F := E
    replace A := A.k8 1 2 3 4 5 6 7 8
    refine Ae 61 _ _ H (fun D => .of (DU (s := CF r1 x1.length) (by kernel_rfl) X)) fun D t H => ?_
    obtain ⟨h13, X, E⟩ := A.st 4 rfl (o := 12) (new := [AP r4 ((x1 ++ ([x5] : List AA)).length)]) (ds := [.str p0.Name, .str p0.A9, Ab p0.Kind, Ai p0.Mode, Ai p0.Cz, Ai p0.Ct, .str p0.Ah, .str p0.Aj, Ai p0.Au, Ai p0.As, Ai p0.Time, Ai 0, AP r4 ((x1 ++ ([x5] : List AA)).length), .str ([] : UV)]) (Nat.le_of_ble_eq_true rfl) rfl rfl
    replace A : HH g h13 [_, _, _, _, .obj h2.size (.cells none 2 [_, _, _, _, _, _, _, _, _, _, _, _, AP r4 ((x1 ++ ([x5] : List AA)).length), _]), _, _, _] F := E
    refine Bu 1 [] X H fun D t H => ?_
    refine Bq id (Bp (i := 1) (by kernel_rfl) ?_)
    replace A := A.k7 1 2 3 4 5 6 7
    exact .inl ⟨_, rfl, BB M, _, H.ls, A⟩
   clear O
   clear A
   intro e D h14 K
   rcases K with ⟨x4, rfl, rfl, r3, H, A⟩ | S
   ·show AW _ _ _ _ _ _ _
    refine CE 2 (Bv 2 [(4, .ptr (some (h1.size, 0))), (7, .ptr (some (h2.size, 0))), (8, .ptr (some (J.size, 0))), (9, .map (some W.size)), (42, AP rp1 p1.length), (43, Ai (p1.length : Int)), (44, Ai (i64.wrap (x2 + 1)))] H fun D H => at_nil ?_)
    exact nx M ⟨_, _, rfl, _, H.ls, A⟩
   exact S.elim
  refine Bp (i := 0) (by kernel_rfl) ?_
  exact nr M fun e => .inl ⟨_, rfl, e, _, H.ls, A⟩
 clear O
 clear A
 intro e D h15 K
 rcases K with ⟨x3, rfl, rfl, r2, H, A⟩ | S
 ·show AW _ _ _ _ _ _ _
  refine AS (J2 14 5 [(0, []), (1, []), (2, [1]), (3, []), (4, [])] ?_)
  refine C3 72 (.agg [.str p0.Name, .str p0.A9, Ab p0.Kind, Ai p0.Mode, Ai p0.Cz, Ai p0.Ct, .str p0.Ah, .str p0.Aj, Ai p0.Au, Ai p0.As, Ai p0.Time, Ai 0, AP r2 x3.length, .str ([] : UV)]) h15 [(0, h2.size)] (g.CD) H (fun D => .of (BX (by kernel_rfl) (A.la 3 0 14))) (fun D H => ?_)
  refine C3 73 (Ai p0.Bg) h15 [(1, J.size), (0, h2.size)] (g.CD) H (fun D => .of (Ib (by kernel_rfl) (A.l1 2 0))) (fun D H => ?_)
  replace A := A.k7 4 0 1 2 3 5 6
  have E := A.Hw 1 (pr := [J.size]) (.cons 2 rfl (by simp [Ck.ids]) .nil)
  obtain ⟨h16, X, E⟩ := E.st 0 rfl (o := 0) (new := [.str p0.Name, .str p0.A9, Ab p0.Kind, Ai p0.Mode, Ai p0.Cz, Ai p0.Ct, .str p0.Ah, .str p0.Aj, Ai p0.Au, Ai p0.As, Ai p0.Time, Ai 0, AP r2 x3.length, .str ([] : UV)]) (ds := [.str p0.Name, .str p0.A9, Ab p0.Kind, Ai p0.Mode, Ai p0.Cz, Ai p0.Ct, .str p0.Ah, .str p0.Aj, Ai p0.Au, Ai p0.As, Ai p0.Time, Ai 0, AP r2 x3.length, .str ([] : UV)]) (Nat.le_of_ble_eq_true rfl) rfl rfl
  replace A := A.Y6 E
  refine Kw (.tuple []) h16 [(1, J.size), (0, h2.size)] (J.size :: g.CD) H (fun D => .of (Nj (by kernel_rfl) (LK X rfl))) (fun D H => ?_)
  refine AN 2 [(5, Ai p0.Bg), (6, Ai 0)] H fun D H => AZ ?_
  obtain ⟨rfl, rfl, rfl⟩ := EG M
  refine ⟨.inl rfl, .tuple [.agg [.str p0.Name, .str p0.A9, Ab p0.Kind, Ai p0.Mode, Ai p0.Cz, Ai p0.Ct, .str p0.Ah, .str p0.Aj, Ai p0.Au, Ai p0.As, Ai p0.Time, Ai 0, AP r2 x3.length, .str ([] : UV)], Ai p0.Bg, Ai 0], Dm (.cell (rT H) (Dn (by kernel_rfl) (by kernel_rfl) (A.la 0 0 14)) (.tmp (rT H) (.tmp (rT H) .nil))), ?_⟩
  obtain ⟨h17, hz0, E⟩ := (A.front 1 rfl).Zh (n := x3.length) (z := 2) (BJ.Gb _) (by decide)
  replace A : HH g h17 [_, _, _, _, _, _] F := E
  refine ⟨.tuple [.agg [.str p0.Name, .str p0.A9, Ab p0.Kind, Ai p0.Mode, Ai p0.Cz, Ai p0.Ct, .str p0.Ah, .str p0.Aj, Ai p0.Au, Ai p0.As, Ai p0.Time, Ai 0, vs AJ x3, .str ([] : UV)], Ai p0.Bg, Ai 0], h17, by first | rfl | (simp only [Ym, ZQ, ZP, Y3, Y4, X8, YE, YG, YC, YU, Xj, Xc, YW, Yu, ZH, Y2, ZM, ZR, Option.map_some, hz0] <;> rfl), ?_⟩
  replace A := A.k1 5
  exact ⟨rfl, A⟩
 exact S.elim
def DN (p0 : AV) : Option (Int) :=
 Ao (p0.BE == 0) (some p0.at_) (Ao (p0.BE == 3) ((FG p0.AD.Bg).bind fun (x1, x2) => some (i64.wrap ((i64.wrap (p0.at_ - x1)) + (i64.wrap (Int.tdiv p0.AD.Bg (512 : Int)))))) (some (i64.wrap (p0.at_ + (i64.wrap (Int.tdiv (i64.wrap (p0.AD.Bg - p0.BQ)) (512 : Int)))))))
theorem F9 {p0 bp0 bp0_2 bp0_2_0 rp0_23 q0} (M : DN p0 = some q0) (A : HH g h [.obj bp0 (.cells none 2 [Ai p0.Aw.Head, Ai p0.Aw.Name, .ptr (some (bp0_2, 0)), Ai p0.BE, Ai p0.BQ, Ai p0.at_, .bool p0.BD, Ai p0.BG, Ai p0.BH, .str p0.AD.Name, .str p0.AD.A9, Ab p0.AD.Kind, Ai p0.AD.Mode, Ai p0.AD.Cz, Ai p0.AD.Ct, Ai p0.AD.Bg, Ai p0.AD.Time, .str p0.AD.Ah, .str p0.AD.Aj, Ai p0.AD.Au, Ai p0.AD.As, Ai p0.AD.Form, Ai p0.BI, AP rp0_23 p0.DR.length, .slice none 0, .str p0.AM.Ba, .str p0.AM.Be, .bool p0.AM.Ag, .bool p0.AM.Af, .bool p0.AM.Ak, .slice none 0]), .obj bp0_2 (.cells none 2 [.chan (some bp0_2_0), .str p0.Az.Bz, Ai p0.Az.Ar, .bool p0.Az.AY]), .obj bp0_2_0 (.chan 64 (AQ eS p0.Az.BL)), .AQ rp0_23 5 (AQ eY p0.DR)] F) (hc : BP (cfg.still 154) av = [.ptr (some (bp0, 0))] := by kernel_rfl) : ∃ v Q, BZ cfg g h 154 av v Q ∧ v = Ai q0 ∧ HH g Q [.obj bp0 (.cells none 2 [Ai p0.Aw.Head, Ai p0.Aw.Name, .ptr (some (bp0_2, 0)), Ai p0.BE, Ai p0.BQ, Ai p0.at_, .bool p0.BD, Ai p0.BG, Ai p0.BH, .str p0.AD.Name, .str p0.AD.A9, Ab p0.AD.Kind, Ai p0.AD.Mode, Ai p0.AD.Cz, Ai p0.AD.Ct, Ai p0.AD.Bg, Ai p0.AD.Time, .str p0.AD.Ah, .str p0.AD.Aj, Ai p0.AD.Au, Ai p0.AD.As, Ai p0.AD.Form, Ai p0.BI, AP rp0_23 p0.DR.length, .slice none 0, .str p0.AM.Ba, .str p0.AM.Be, .bool p0.AM.Ag, .bool p0.AM.Af, .bool p0.AM.Ak, .slice none 0]), .obj bp0_2 (.cells none 2 [.chan (some bp0_2_0), .str p0.Az.Bz, Ai p0.Az.Ar, .bool p0.Az.AY]), .obj bp0_2_0 (.chan 64 (AQ eS p0.Az.BL)), .AQ rp0_23 5 (AQ eY p0.DR)] F := by
 refine EE 51 [.tmp 2] hc ?_
 clear hc
 unfold DN at M
 refine bg 51 [(0, .ptr (some (bp0, 0)))] fun D H => ?_
 refine AH 1 (AN 1 [] H fun D H => AS (AH 5 (AX 3 [] 9 0 3 A H fun D t H => ?_)))
 refine AN 1 [(10, .bool (p0.BE == 0))] H fun D H => Ac 10 H M (fun B M H => ?_) fun B M H => ?_
 ·refine AH 5 (AX 3 [] 14 0 5 A H fun D t H => ?_)
  refine AN 1 [(2, Ai p0.at_)] H fun D H => AZ ?_
  obtain rfl := BB M
  exact ⟨.inl rfl, _, rH H, rfl, A⟩
 refine B3 6 id (AX 4 [] 19 0 15 A H fun D t H => ?_)
 refine AN 1 [(3, Ai p0.AD.Bg)] H fun D H => AS (AH 5 (AX 3 [] 23 0 3 A H fun D t H => ?_))
 refine AN 1 [(24, .bool (p0.BE == 3))] H fun D H => Ac 24 H M (fun B M H => ?_) fun B M H => ?_
 ·refine AH 7 ?_
  obtain ⟨⟨x1, x2⟩, X, M⟩ := bind_some M
  obtain ⟨v1, h1, R, rfl, E⟩ := Jw (av := [Ai p0.AD.Bg]) X (A.cut 0)
  replace A := A.Dx E
  refine BC 1 [] 27 R H fun D t H => ?_
  refine B5 5 [(4, Ai x1)] 10 H fun D H => AX 3 [] 33 0 5 A H fun D t H => ?_
  refine AN 6 [(2, Ai (i64.wrap ((i64.wrap (p0.at_ - x1)) + (i64.wrap (Int.tdiv p0.AD.Bg (512 : Int))))))] H fun D H => AZ ?_
  obtain rfl := BB M
  exact ⟨.inl rfl, _, rH H, rfl, A⟩
 refine CT id (AS (Ga 7 13 ?_))
 refine AX 3 [] 42 0 5 A H fun D t H => ?_
 refine AX 4 [(43, Ai p0.AD.Bg)] 47 0 4 A H fun D t H => ?_
 refine AN 4 [(2, Ai (i64.wrap (p0.at_ + (i64.wrap (Int.tdiv (i64.wrap (p0.AD.Bg - p0.BQ)) (512 : Int))))))] H fun D H => AZ ?_
 obtain rfl := BB M
 exact ⟨.inl rfl, _, rH H, rfl, A⟩
end
end Go.Av.L
