/-
 A part.
-/
import Derived.Test.YtlljeoogceblmaaGreatDoorKCfg
import Derived.Test.YtlljeoogceblmaaGreatDoorK0
import Derived.Test.YtlljeoogceblmaaGreatDoorK3
import Derived.Test.YtlljeoogceblmaaGreatDoorK4
import Derived.Test.YtlljeoogceblmaaGreatDoorK5
namespace Go.Av.L
open Go.Av Go.Lib
set_option maxRecDepth 10000
set_option linter.unusedVariables false
set_option linter.unusedSimpArgs false
variable {g : Gd} {h : AF} {F : List Ck} {av : List AB}
noncomputable section
def DX (p0 : Ap) (p1 : AL) (p2 : List AA) : Option (AG × Int × Int) :=
 (Ao p0.Af (some p0.Ba) (some p1.Name) : Option (((List UInt8)))).bind fun x1 => (Ao p0.Ak (some p0.Be) (some p1.A9) : Option (((List UInt8)))).bind fun x2 => (Ic p2 p0.P1).bind fun x3 => (Ft (⟨x1, x2, p1.Kind, p1.Mode, p1.Cz, p1.Ct, p1.Bg, p1.Time, p1.Ah, p1.Aj, p1.Au, p1.As, p1.Form⟩ : AL) x3).bind fun (x4, x5, x6) => Ao (x6 != 0) (some (x4, (0 : Int), x6)) ((Ao ((p1.Form == 1) && (x4.Kind == 48)) (none) (some ()) : Option ((Unit))).bind fun _ => (FH x4).bind fun x7 => some (x4, x5, x7))
theorem Jj {p0 p1 p2 q0 q1 q2} (M : DX p0 p1 p2 = some (q0, q1, q2)) (A : HH g h [] F) (hc : BP (cfg.still 261) av = [.agg (CX p0), .agg (AK p1), vs AJ p2] := by kernel_rfl) : ∃ v Q, BZ cfg g h 261 av v Q ∧ v = .tuple [.agg (AE q0), Ai q1, Ai q2] ∧ HH g Q [] F := by
 refine EE 54 [.cell 6 26, .tmp 7, .tmp 8] hc ?_
 clear hc
 unfold DX at M
 refine bg 54 [(0, .agg (CX p0)), (1, .agg (AK p1)), (2, vs AJ p2)] fun D H => ?_
 refine AH 5 ?_
 obtain ⟨h1, e1, A⟩ := A.pu (.cells none 2 (CX p0))
 refine BU 3 (.ptr (some (h.size, 0))) e1 H fun D t H => ?_
 obtain ⟨h2, e2, A⟩ := A.pu (.cells none 2 (AK p1))
 refine BU 4 (.ptr (some (h1.size, 0))) e2 H fun D t H => ?_
 obtain ⟨W, e3, A⟩ := A.pu (.cells none 2 [.str ([] : UV), .str ([] : UV), Ab 0, Ai 0, Ai 0, Ai 0, .str ([] : UV), .str ([] : UV), Ai 0, Ai 0, Ai 0, Ai 0, .slice none 0, .str ([] : UV)])
 refine BU 6 (.ptr (some (h2.size, 0))) e3 H fun D t H => ?_
 refine AN 2 [] H fun D H => AS ?_
 obtain ⟨o1, O, M⟩ := bind_some M
 refine Bb (Q' := fun e N Q => (∃ x1, e = .normal ∧ x1 = o1 ∧ Has N 54 [(2, vs AJ p2), (3, .ptr (some (h.size, 0))), (4, .ptr (some (h1.size, 0))), (6, .ptr (some (h2.size, 0)))] ∧ HH g Q [.obj h2.size (.cells none 2 [.str ([] : UV), .str ([] : UV), Ab 0, Ai 0, Ai 0, Ai 0, .str ([] : UV), .str ([] : UV), Ai 0, Ai 0, Ai 0, Ai 0, .slice none 0, .str ([] : UV)]), .obj h1.size (.cells none 2 (JS p1 (.str x1))), .obj h.size (.cells none 2 (CX p0))] F) ∨ False) ?_ ?_
 ·replace M := O
  clear O
  refine AH 2 (AX 1 [] 13 2 4 A H fun D t H => ?_)
  refine Bq id (Ac 13 H M (fun B M H => ?_) fun B M H => ?_)
  ·refine CE 4 (AX 1 [] 15 2 1 A H fun D t H => ?_)
   obtain ⟨S, X, E⟩ := A.st 1 rfl (o := 0) (new := [.str p0.Ba]) (ds := (JS p1 (.str p0.Ba))) (Nat.le_of_ble_eq_true rfl) rfl rfl
   replace A : HH g S [.obj h2.size (.cells none 2 [.str ([] : UV), .str ([] : UV), Ab 0, Ai 0, Ai 0, Ai 0, .str ([] : UV), .str ([] : UV), Ai 0, Ai 0, Ai 0, Ai 0, .slice none 0, .str ([] : UV)]), .obj h1.size (.cells none 2 (JS p1 (.str p0.Ba))), .obj h.size (.cells none 2 (CX p0))] F := E
   refine Bu 1 [] X H fun D t H => ?_
   refine at_nil ?_
   exact .inl ⟨_, rfl, BB M, H.ls, A⟩
  exact EJ (.inl ⟨_, rfl, BB M, H.ls, A⟩)
 clear O
 clear A
 intro e D h5 I
 rcases I with ⟨x1, rfl, rfl, H, A⟩ | K
 ·show AW _ _ _ _ _ _ _
  refine AS ?_
  obtain ⟨o2, O, M⟩ := bind_some M
  refine Bb (Q' := fun e N Q => (∃ x2, e = .normal ∧ x2 = o2 ∧ Has N 54 [(2, vs AJ p2), (3, .ptr (some (h.size, 0))), (4, .ptr (some (h1.size, 0))), (6, .ptr (some (h2.size, 0)))] ∧ HH g Q [.obj h2.size (.cells none 2 [.str ([] : UV), .str ([] : UV), Ab 0, Ai 0, Ai 0, Ai 0, .str ([] : UV), .str ([] : UV), Ai 0, Ai 0, Ai 0, Ai 0, .slice none 0, .str ([] : UV)]), .obj h1.size (.cells none 2 (EP p1 (.str x1) (.str x2))), .obj h.size (.cells none 2 (CX p0))] F) ∨ False) ?_ ?_
  ·replace M := O
   clear O
   refine AH 2 (AX 1 [] 18 2 5 A H fun D t H => ?_)
   refine Bq id (Ac 18 H M (fun B M H => ?_) fun B M H => ?_)
   ·refine CE 4 (AX 1 [] 20 2 2 A H fun D t H => ?_)
    obtain ⟨h6, X, A⟩ := A.s1 1 [.str p0.Be] [_, _, _, _, _, _, _, _, _, _, _, _, _]
    refine Bu 1 [] X H fun D t H => ?_
    refine at_nil ?_
    exact .inl ⟨_, rfl, BB M, H.ls, A⟩
   exact EJ (.inl ⟨_, rfl, BB M, H.ls, A⟩)
  clear O
  clear A
  intro e D C I
  rcases I with ⟨x2, rfl, rfl, H, A⟩ | K
  ·show AW _ _ _ _ _ _ _
   refine AS (J2 5 14 [(0, []), (1, []), (2, []), (3, []), (10, []), (4, [0, 10]), (5, [10]), (6, []), (7, []), (8, []), (9, []), (11, []), (12, []), (13, [])] ?_)
   refine C3 23 (.agg (EP p1 (.str x1) (.str x2))) C [(0, h1.size)] (g.CD) H (fun D => .of (BX (by kernel_rfl) (A.la 1 0 13))) (fun D H => ?_)
   refine AO 2 [(24, vs AJ p2), (25, .ptr (some (h.size, 0)))] H fun D H => C3 26 (vs AJ p0.P1) C [(3, h.size), (0, h1.size)] (g.CD) H (fun D => .of (Ib (by kernel_rfl) (A.l1 2 0))) (fun D H => ?_)
   obtain ⟨h8, e4, A⟩ := A.pu (.cells none 2 [.str ([] : UV), .str ([] : UV), Ab 0, Ai 0, Ai 0, Ai 0, .str ([] : UV), .str ([] : UV), Ai 0, Ai 0, Ai 0, Ai 0, .slice none 0, .str ([] : UV)])
   refine C3 9 (.ptr (some (C.size, 0))) h8 [(10, C.size), (3, h.size), (0, h1.size)] (g.CD) H (fun D => .of (TQ (by kernel_rfl) (congrArg some e4.symm))) (fun D H => ?_)
   have E := A.Hw 0 (pr := [C.size, h1.size]) (.cons 0 rfl (by simp [Ck.ids]) (.cons 2 rfl (by simp [Ck.ids]) .nil))
   obtain ⟨x3, X, M⟩ := bind_some M
   obtain ⟨v1, Z, R, rqw1, rfl, E⟩ := Nt (av := [vs AJ p2, vs AJ p0.P1]) X E
   replace A : HH g Z [.AQ rqw1 117 (AQ AJ x3), .obj C.size (.cells none 2 [.str ([] : UV), .str ([] : UV), Ab (0 : Int), Ai (0 : Int), Ai (0 : Int), Ai (0 : Int), .str ([] : UV), .str ([] : UV), Ai (0 : Int), Ai (0 : Int), Ai (0 : Int), Ai (0 : Int), .slice none 0, .str ([] : UV)]), _, _, _] F := A.Ot (n := 0) E
   refine C3 27 (AP rqw1 x3.length) Z [(10, C.size), (3, h.size), (0, h1.size)] (C.size :: h1.size :: g.CD) H (fun D => Steps.call (by kernel_rfl) R) (fun D H => ?_)
   have E := A.Hw 1 (pr := [C.size]) (.cons 0 rfl (by simp [Ck.ids]) .nil)
   obtain ⟨⟨x4, x5, x6⟩, X, M⟩ := bind_some M
   obtain ⟨v1, G, R, rfl, E⟩ := LJ (av := [.agg (EP p1 (.str x1) (.str x2)), AP rqw1 x3.length]) X E
   replace A := A.Y6 E
   refine C3 28 (.tuple [.agg (AE x4), Ai x5, Ai x6]) G [(10, C.size), (3, h.size), (0, h1.size)] (C.size :: g.CD) H (fun D => Steps.call (by kernel_rfl) R) (fun D H => ?_)
   refine AO 4 [(29, .agg (AE x4)), (30, Ai x5), (31, Ai x6)] H fun D H => ?_
   obtain ⟨V, X, A⟩ := A.s1 0 (AE x4) [_, _, _, _, _, _, _, _, _, _, _, _, _, _]
   refine Kw (.tuple []) V [(10, C.size), (3, h.size), (0, h1.size)] (g.CD) H (fun D => .of (Nj (by kernel_rfl) (LK X rfl))) (fun D H => ?_)
   refine AN 2 [(10, Ai x5), (11, Ai x6)] H fun D H => AS (AH 2 (AN 2 [(33, .bool (x6 != 0))] H fun D H => Ac 33 H M (fun B M H => ?_) fun B M H => ?_))
   ·refine AH 5 (Ae 34 _ _ H (fun D => .of (BX (by kernel_rfl) (A.Ef 1 rfl (o := 0) (n := 14) ⟨Nat.le_of_ble_eq_true rfl, rfl⟩))) fun D t H => ?_)
    obtain ⟨Y, X, A⟩ := A.s2 0 (AE x4) [_, _, _, _, _, _, _, _, _, _, _, _, _, _]
    refine Jp 1 [(35, Ai x6)] X H fun D t H => ?_
    refine AN 2 [(7, Ai 0), (8, Ai x6)] H fun D H => AZ ?_
    obtain ⟨rfl, rfl, rfl⟩ := EG M
    refine ⟨.inl rfl, .tuple [.agg (AE x4), Ai 0, Ai x6], Dm (.cell (rT H) (Dn (by kernel_rfl) (by kernel_rfl) (A.la 2 0 14)) (.tmp (rT H) (.tmp (rT H) .nil))), ?_⟩
    replace A := A.d0
    exact ⟨rfl, A⟩
   refine CT id (AS ?_)
   obtain ⟨o3, O, M⟩ := bind_some M
   refine Bb (Q' := fun e N Q => (e = .normal ∧ () = o3 ∧ Has N 54 [(6, .ptr (some (h2.size, 0))), (9, .ptr (some (C.size, 0))), (10, Ai x5)] ∧ HH g Q [.obj C.size (.cells none 2 (AE x4)), .obj h2.size (.cells none 2 [.str ([] : UV), .str ([] : UV), Ab 0, Ai 0, Ai 0, Ai 0, .str ([] : UV), .str ([] : UV), Ai 0, Ai 0, Ai 0, Ai 0, .slice none 0, .str ([] : UV)]), .obj h1.size (.cells none 2 (EP p1 (.str x1) (.str x2))), .obj h.size (.cells none 2 (CX p0))] F) ∨ False) ?_ ?_
   ·replace M := O
    clear O
    refine AH 13 (AX 1 [] 37 3 12 A H fun D t H => ?_)
    refine AO 2 [(39, .bool (p1.Form == 1))] H fun D H => Bi 4 (fun N Q => V = Q ∧ Has N 54 [(6, .ptr (some (h2.size, 0))), (9, .ptr (some (C.size, 0))), (10, Ai x5), (43, .bool ((p1.Form == 1) && (x4.Kind == 48)))]) ?_ ?_
    ·cases B : (p1.Form == 1 : Bool) with
     | true =>
      replace H := H.kn 39 B
      refine AX 1 [] 41 1 2 A H fun D t H => ?_
      exact AO 2 [(43, .bool (x4.Kind == 48))] H fun D H => A8 H B
     | false =>
      replace H := H.kn 39 B
      exact AO 4 [(43, .bool false)] H fun D H => A8 H B
    intro t D Q J
    obtain ⟨e, H⟩ := J
    subst e
    refine AO 1 [(44, .bool ((p1.Form == 1) && (x4.Kind == 48)))] H fun D H => ?_
    rcases BT M with ⟨B, M⟩ | ⟨B, M⟩
    ·replace H := H.kn 44 B
     refine AX 1 [] 46 1 0 A H fun D t H => ?_
     cases M
    replace H := H.kn 44 B
    refine AN 4 [(48, .bool false)] H fun D H => ER (x := .tmp 48) (by kernel_rfl) H (fun D => by kernel_rfl) ?_
    refine EJ ?_
    replace A := A.k4 1 2 3 4
    exact .inl ⟨rfl, BB M, H.ls, A⟩
   clear O
   clear A
   intro e D P I
   rcases I with ⟨rfl, rfl, H, A⟩ | K
   ·show AW _ _ _ _ _ _ _
    refine AS (J2 10 7 [(0, []), (1, []), (2, []), (3, [0]), (4, []), (5, []), (6, [])] ?_)
    refine C3 50 (.agg (AE x4)) P [(0, C.size)] (g.CD) H (fun D => .of (BX (by kernel_rfl) (A.la 0 0 14))) (fun D H => ?_)
    refine AO 1 [(51, Ai x5)] H fun D H => C3 52 (.agg (AE x4)) P [(2, C.size), (0, C.size)] (g.CD) H (fun D => .of (BX (by kernel_rfl) (A.la 0 0 14))) (fun D H => ?_)
    have E := A.Hw 0 (pr := [C.size]) (.cons 0 rfl (by simp [Ck.ids]) .nil)
    obtain ⟨x7, X, M⟩ := bind_some M
    obtain ⟨v1, U, R, rfl, E⟩ := HR (av := [.agg (AE x4)]) X E
    replace A := A.YJ E
    refine C3 53 (Ai x7) U [(2, C.size), (0, C.size)] (C.size :: g.CD) H (fun D => Steps.call (by kernel_rfl) R) (fun D H => ?_)
    obtain ⟨T, X, A⟩ := A.s1 0 (AE x4) [_, _, _, _, _, _, _, _, _, _, _, _, _, _]
    refine Kw (.tuple []) T [(2, C.size), (0, C.size)] (g.CD) H (fun D => .of (Nj (by kernel_rfl) (LK X rfl))) (fun D H => ?_)
    refine AN 2 [(7, Ai x5), (8, Ai x7)] H fun D H => AZ ?_
    obtain ⟨rfl, rfl, rfl⟩ := EG M
    refine ⟨.inl rfl, .tuple [.agg (AE x4), Ai x5, Ai x7], Dm (.cell (rT H) (Dn (by kernel_rfl) (by kernel_rfl) (A.la 1 0 14)) (.tmp (rT H) (.tmp (rT H) .nil))), ?_⟩
    replace A := A.d0
    exact ⟨rfl, A⟩
   exact K.elim
  exact K.elim
 exact K.elim
def Bk (p0 : AV) (p1 : List AI) (p2 : AL) : Option (AV × (List UInt8) × (List AI)) :=
 (DX (⟨([] : List AA), p0.AM.Ba, p0.AM.Be, p0.AM.Ag, p0.AM.Af, p0.AM.Ak⟩ : Ap) p2 ([] : List AA)).bind fun (x1, x2, x3) => (Ao (x3 != 0) (some x3) (Ao ((decide (x2 > 1099511627776)) || ((x2 != 0) && (!((x1.Kind == 48) || (x1.Kind == 55))))) (some (6 : Int)) ((Ao ((decide ((x1.Name.length : Int) > p0.Aw.Name)) || (decide ((x1.A9.length : Int) > p0.Aw.Name))) (some true) ((EV x1 x2).bind fun x6 => some (!x6)) : Option (Bool)).bind fun x5 => Ao x5 (some (7 : Int)) (some x3))) : Option ((Int))).bind fun x4 => Ao (x4 != 0) ((BR (⟨p0.Aw, p0.Az, p0.BE, p0.BQ, p0.at_, p0.BD, p0.BG, p0.BH, p0.AD, p0.BI, p0.DR, (⟨([] : List AA), p0.AM.Ba, p0.AM.Be, p0.AM.Ag, p0.AM.Af, p0.AM.Ak⟩ : Ap), ([] : List AA)⟩ : AV) x4 p0.at_).bind fun (x7, x8) => some ((⟨x7.Aw, p0.Az, x7.BE, x7.BQ, x7.at_, x7.BD, x7.BG, x7.BH, x7.AD, x7.BI, x8, (⟨([] : List AA), x7.AM.Ba, x7.AM.Be, x7.AM.Ag, x7.AM.Af, x7.AM.Ak⟩ : Ap), ([] : List AA)⟩ : AV), x8, p1)) (Cl (Hs 200 (p1.length + ([(⟨(1 : Int), x1, x2, ([] : UV)⟩ : AI)] : List AI).length)) <| some ((⟨p0.Aw, p0.Az, (1 : Int), x2, p0.at_, p0.BD, p0.BG, p0.BH, (⟨p2.Name, p2.A9, p2.Kind, p2.Mode, p2.Cz, p2.Ct, x2, p2.Time, p2.Ah, p2.Aj, p2.Au, p2.As, p2.Form⟩ : AL), p0.BI, p0.DR, (⟨([] : List AA), ([] : UV), ([] : UV), false, false, false⟩ : Ap), ([] : List AA)⟩ : AV), p0.DR, (p1 ++ ([(⟨(1 : Int), x1, x2, ([] : UV)⟩ : AI)] : List AI))))
theorem FU {p0 p1 p2 bp0 bp0_2 bp0_2_0 rp0_23 rp1 u0 u3 u4} (M : Bk p0 p1 p2 = some (u0, u3, u4)) (A : HH g h [.obj bp0 (.cells none 2 [Ai p0.Aw.Head, Ai p0.Aw.Name, .ptr (some (bp0_2, 0)), Ai p0.BE, Ai p0.BQ, Ai p0.at_, .bool p0.BD, Ai p0.BG, Ai p0.BH, .str p0.AD.Name, .str p0.AD.A9, Ab p0.AD.Kind, Ai p0.AD.Mode, Ai p0.AD.Cz, Ai p0.AD.Ct, Ai p0.AD.Bg, Ai p0.AD.Time, .str p0.AD.Ah, .str p0.AD.Aj, Ai p0.AD.Au, Ai p0.AD.As, Ai p0.AD.Form, Ai p0.BI, AP rp0_23 p0.DR.length, .slice none 0, .str p0.AM.Ba, .str p0.AM.Be, .bool p0.AM.Ag, .bool p0.AM.Af, .bool p0.AM.Ak, .slice none 0]), .obj bp0_2 (.cells none 2 [.chan (some bp0_2_0), .str p0.Az.Bz, Ai p0.Az.Ar, .bool p0.Az.AY]), .obj bp0_2_0 (.chan 64 (AQ eS p0.Az.BL)), .AQ rp0_23 5 (AQ eY p0.DR), .AQ rp1 164 (AQ Al p1)] F) (hc : BP (cfg.still 240) av = [.ptr (some (bp0, 0)), AP rp1 p1.length, .agg (AK p2)] := by kernel_rfl) : ∃ v Q, BZ cfg g h 240 av v Q ∧ ∃ (r'3 : Option Nat) (r'4 : Option Nat), v = AP r'4 u4.length ∧ HH g Q [.obj bp0 (.cells none 2 [Ai u0.Aw.Head, Ai u0.Aw.Name, .ptr (some (bp0_2, 0)), Ai u0.BE, Ai u0.BQ, Ai u0.at_, .bool u0.BD, Ai u0.BG, Ai u0.BH, .str u0.AD.Name, .str u0.AD.A9, Ab u0.AD.Kind, Ai u0.AD.Mode, Ai u0.AD.Cz, Ai u0.AD.Ct, Ai u0.AD.Bg, Ai u0.AD.Time, .str u0.AD.Ah, .str u0.AD.Aj, Ai u0.AD.Au, Ai u0.AD.As, Ai u0.AD.Form, Ai u0.BI, AP r'3 u3.length, .slice none 0, .str u0.AM.Ba, .str u0.AM.Be, .bool u0.AM.Ag, .bool u0.AM.Af, .bool u0.AM.Ak, .slice none 0]), .obj bp0_2 (.cells none 2 [.chan (some bp0_2_0), .str p0.Az.Bz, Ai p0.Az.Ar, .bool p0.Az.AY]), .obj bp0_2_0 (.chan 64 (AQ eS p0.Az.BL)), .AQ r'3 5 (AQ eY u3), .AQ r'4 164 (AQ Al u4)] F := by
 refine EE 110 [.tmp 6] hc ?_
 clear hc
 unfold Bk at M
 refine bg 110 [(0, .ptr (some (bp0, 0))), (1, AP rp1 p1.length), (2, .agg (AK p2))] fun D H => ?_
 refine AH 2 ?_
 obtain ⟨h1, e1, A⟩ := A.pu (.cells none 2 (AK p2))
 refine BU 5 (.ptr (some (h.size, 0))) e1 H fun D t H => ?_
 refine AN 1 [] H fun D H => AS (J2 1 18 [(0, []), (1, []), (2, []), (3, []), (4, []), (5, []), (6, []), (7, []), (8, []), (14, []), (9, [14]), (10, []), (11, []), (12, []), (13, []), (15, []), (16, []), (17, [])] ?_)
 refine AO 3 [(14, .ptr (some (bp0, 24)))] H fun D H => C3 15 (.agg (Gv p0.AM (.slice none 0))) h1 [(3, bp0)] (g.CD) H (fun D => .of (BX (by kernel_rfl) (A.la 1 24 6))) (fun D H => ?_)
 refine C3 16 (.agg (AK p2)) h1 [(4, h.size), (3, bp0)] (g.CD) H (fun D => .of (BX (by kernel_rfl) (A.la 0 0 13))) (fun D H => ?_)
 refine AO 3 [(19, .ptr (some (bp0, 30)))] H fun D H => C3 20 (.slice none 0) h1 [(8, bp0), (4, h.size), (3, bp0)] (g.CD) H (fun D => .of (Ib (by kernel_rfl) (A.l1 1 30))) (fun D H => ?_)
 obtain ⟨h2, e2, A⟩ := A.pu (.cells none 2 [.str ([] : UV), .str ([] : UV), Ab 0, Ai 0, Ai 0, Ai 0, .str ([] : UV), .str ([] : UV), Ai 0, Ai 0, Ai 0, Ai 0, .slice none 0, .str ([] : UV)])
 refine C3 7 (.ptr (some (h1.size, 0))) h2 [(14, h1.size), (8, bp0), (4, h.size), (3, bp0)] (g.CD) H (fun D => .of (TQ (by kernel_rfl) (congrArg some e2.symm))) (fun D H => ?_)
 have E := A.Hw 0 (pr := [h1.size]) (.cons 0 rfl (by simp [Ck.ids]) .nil)
 obtain ⟨⟨x1, x2, x3⟩, X, M⟩ := bind_some M
 obtain ⟨v1, W, R, rfl, E⟩ := Jj (av := [.agg (Gv p0.AM (.slice none 0)), .agg (AK p2), .slice none 0]) X E
 replace A : HH g W [.obj h1.size (.cells none 2 [.str ([] : UV), .str ([] : UV), Ab (0 : Int), Ai (0 : Int), Ai (0 : Int), Ai (0 : Int), .str ([] : UV), .str ([] : UV), Ai (0 : Int), Ai (0 : Int), Ai (0 : Int), Ai (0 : Int), .slice none 0, .str ([] : UV)]), .obj h.size (.cells none 2 (AK p2)), _, _, _, _, _] F := A.Ot (n := 0) E
 refine C3 21 (.tuple [.agg (AE x1), Ai x2, Ai x3]) W [(14, h1.size), (8, bp0), (4, h.size), (3, bp0)] (h1.size :: g.CD) H (fun D => Steps.call (by kernel_rfl) R) (fun D H => ?_)
 refine AO 4 [(22, .agg (AE x1)), (23, Ai x2), (24, Ai x3)] H fun D H => ?_
 obtain ⟨S, X, A⟩ := A.s0 0 (AE x1) [_, _, _, _, _, _, _, _, _, _, _, _, _, _]
 refine Kw (.tuple []) S [(14, h1.size), (8, bp0), (4, h.size), (3, bp0)] (g.CD) H (fun D => .of (Nj (by kernel_rfl) (LK X rfl))) (fun D H => ?_)
 refine B5 2 [(8, Ai x2), (9, Ai x3)] 9 H fun D H => AX 1 [] 26 0 2 A H fun D t H => ?_
 refine AO 2 [(28, .bool (x1.Kind == 48))] H fun D H => Bi 4 (fun N Q => S = Q ∧ Has N 110 [(0, .ptr (some (bp0, 0))), (1, AP rp1 p1.length), (5, .ptr (some (h.size, 0))), (7, .ptr (some (h1.size, 0))), (8, Ai x2), (9, Ai x3), (32, .bool ((x1.Kind == 48) || (x1.Kind == 55)))]) ?_ ?_
 ·cases B : (x1.Kind == 48 : Bool) with
  | true =>
   replace H := H.kn 28 B
   exact AO 4 [(32, .bool true)] H fun D H => A8 H B
  | false =>
   replace H := H.kn 28 B
   refine AX 1 [] 30 0 2 A H fun D t H => ?_
   exact AO 2 [(32, .bool (x1.Kind == 55))] H fun D H => A8 H B
 intro t D Q J
 obtain ⟨e, H⟩ := J
 subst e
 refine AN 1 [(10, .bool ((x1.Kind == 48) || (x1.Kind == 55)))] H fun D H => AS ?_
 obtain ⟨o1, O, M⟩ := bind_some M
 refine Bb (Q' := fun e N Q => (∃ x4, e = .normal ∧ x4 = o1 ∧ Has N 110 [(0, .ptr (some (bp0, 0))), (1, AP rp1 p1.length), (5, .ptr (some (h.size, 0))), (7, .ptr (some (h1.size, 0))), (8, Ai x2), (9, Ai x4)] ∧ HH g Q [.obj h1.size (.cells none 2 (AE x1)), .obj h.size (.cells none 2 (AK p2)), .obj bp0 (.cells none 2 [Ai p0.Aw.Head, Ai p0.Aw.Name, .ptr (some (bp0_2, 0)), Ai p0.BE, Ai p0.BQ, Ai p0.at_, .bool p0.BD, Ai p0.BG, Ai p0.BH, .str p0.AD.Name, .str p0.AD.A9, Ab p0.AD.Kind, Ai p0.AD.Mode, Ai p0.AD.Cz, Ai p0.AD.Ct, Ai p0.AD.Bg, Ai p0.AD.Time, .str p0.AD.Ah, .str p0.AD.Aj, Ai p0.AD.Au, Ai p0.AD.As, Ai p0.AD.Form, Ai p0.BI, AP rp0_23 p0.DR.length, .slice none 0, .str p0.AM.Ba, .str p0.AM.Be, .bool p0.AM.Ag, .bool p0.AM.Af, .bool p0.AM.Ak, .slice none 0]), .obj bp0_2 (.cells none 2 [.chan (some bp0_2_0), .str p0.Az.Bz, Ai p0.Az.Ar, .bool p0.Az.AY]), .obj bp0_2_0 (.chan 64 (AQ eS p0.Az.BL)), .AQ rp0_23 5 (AQ eY p0.DR), .AQ rp1 164 (AQ Al p1)] F) ∨ False) ?_ ?_
 ·replace M := O
  clear O
  refine Aa (id := 0) (by kernel_rfl) ?_
  refine AH 3 (AN 3 [(33, .bool (x3 != 0))] H fun D H => Ac 33 H M (fun B M H => ?_) fun B M H => ?_)
  ·exact EJ (.inl ⟨_, rfl, BB M, H.ls, A⟩)
  refine AH 11 (AO 3 [(39, .bool (decide (x2 > 1099511627776)))] H fun D H => Bi 7 (fun N Q => S = Q ∧ Has N 110 [(0, .ptr (some (bp0, 0))), (1, AP rp1 p1.length), (5, .ptr (some (h.size, 0))), (7, .ptr (some (h1.size, 0))), (8, Ai x2), (9, Ai x3), (46, .bool ((decide (x2 > 1099511627776)) || ((x2 != 0) && (!((x1.Kind == 48) || (x1.Kind == 55))))))]) ?_ ?_)
  ·cases B : (decide (x2 > 1099511627776) : Bool) with
   | true =>
    replace H := H.kn 39 B
    exact AO 7 [(46, .bool true)] H fun D H => A8 H B
   | false =>
    replace H := H.kn 39 B
    refine AO 3 [(42, .bool (x2 != 0))] H fun D H => Bi 3 (fun N Q => S = Q ∧ Has N 110 [(0, .ptr (some (bp0, 0))), (1, AP rp1 p1.length), (5, .ptr (some (h.size, 0))), (7, .ptr (some (h1.size, 0))), (8, Ai x2), (9, Ai x3), (39, .bool false), (45, .bool ((x2 != 0) && (!((x1.Kind == 48) || (x1.Kind == 55)))))]) ?_ ?_
    ·cases B : (x2 != 0 : Bool) with
     | true =>
      replace H := H.kn 42 B
      exact AO 3 [(45, .bool (!((x1.Kind == 48) || (x1.Kind == 55))))] H fun D H => A8 H B
     | false =>
      replace H := H.kn 42 B
      exact AO 3 [(45, .bool false)] H fun D H => A8 H B
    intro t D Q J
    obtain ⟨e, H⟩ := J
    subst e
    exact AO 1 [(46, .bool ((x2 != 0) && (!((x1.Kind == 48) || (x1.Kind == 55)))))] H fun D H => A8 H B
  intro t D Q J
  obtain ⟨e, H⟩ := J
  subst e
  refine AN 1 [(36, .bool ((decide (x2 > 1099511627776)) || ((x2 != 0) && (!((x1.Kind == 48) || (x1.Kind == 55))))))] H fun D H => Ac 36 H M (fun B M H => ?_) fun B M H => ?_
  ·refine CE 1 (Bv 1 [(0, .ptr (some (bp0, 0))), (1, AP rp1 p1.length), (5, .ptr (some (h.size, 0))), (7, .ptr (some (h1.size, 0))), (8, Ai x2), (9, Ai 6)] H fun D H => at_nil ?_)
   exact .inl ⟨_, rfl, BB M, H.ls, A⟩
  refine AS (Ga 6 27 ?_)
  refine AX 1 [] 49 0 0 A H fun D t H => ?_
  refine AX 5 [(50, Ai (x1.Name.length : Int))] 55 2 1 A H fun D t H => ?_
  refine AO 2 [(57, .bool (decide ((x1.Name.length : Int) > p0.Aw.Name)))] H fun D H => Bi 10 (fun N Q => S = Q ∧ Has N 110 [(0, .ptr (some (bp0, 0))), (1, AP rp1 p1.length), (5, .ptr (some (h.size, 0))), (7, .ptr (some (h1.size, 0))), (8, Ai x2), (9, Ai x3), (67, .bool ((decide ((x1.Name.length : Int) > p0.Aw.Name)) || (decide ((x1.A9.length : Int) > p0.Aw.Name))))]) ?_ ?_
  ·cases B : (decide ((x1.Name.length : Int) > p0.Aw.Name) : Bool) with
   | true =>
    replace H := H.kn 57 B
    exact AO 10 [(67, .bool true)] H fun D H => A8 H B
   | false =>
    replace H := H.kn 57 B
    refine AX 1 [] 59 0 1 A H fun D t H => ?_
    refine AX 5 [(60, Ai (x1.A9.length : Int))] 65 2 1 A H fun D t H => ?_
    exact AO 2 [(67, .bool (decide ((x1.A9.length : Int) > p0.Aw.Name)))] H fun D H => A8 H B
  intro t D Q J
  obtain ⟨e, H⟩ := J
  subst e
  refine AO 1 [(68, .bool ((decide ((x1.Name.length : Int) > p0.Aw.Name)) || (decide ((x1.A9.length : Int) > p0.Aw.Name))))] H fun D H => ?_
  obtain ⟨x5, O, M⟩ := bind_some M
  refine Bi 5 (fun N Q => Has N 110 [(0, .ptr (some (bp0, 0))), (1, AP rp1 p1.length), (5, .ptr (some (h.size, 0))), (7, .ptr (some (h1.size, 0))), (8, Ai x2), (9, Ai x3), (73, .bool x5)] ∧ HH g Q [.obj h1.size (.cells none 2 (AE x1)), .obj h.size (.cells none 2 (AK p2)), .obj bp0 (.cells none 2 [Ai p0.Aw.Head, Ai p0.Aw.Name, .ptr (some (bp0_2, 0)), Ai p0.BE, Ai p0.BQ, Ai p0.at_, .bool p0.BD, Ai p0.BG, Ai p0.BH, .str p0.AD.Name, .str p0.AD.A9, Ab p0.AD.Kind, Ai p0.AD.Mode, Ai p0.AD.Cz, Ai p0.AD.Ct, Ai p0.AD.Bg, Ai p0.AD.Time, .str p0.AD.Ah, .str p0.AD.Aj, Ai p0.AD.Au, Ai p0.AD.As, Ai p0.AD.Form, Ai p0.BI, AP rp0_23 p0.DR.length, .slice none 0, .str p0.AM.Ba, .str p0.AM.Be, .bool p0.AM.Ag, .bool p0.AM.Af, .bool p0.AM.Ak, .slice none 0]), .obj bp0_2 (.cells none 2 [.chan (some bp0_2_0), .str p0.Az.Bz, Ai p0.Az.Ar, .bool p0.Az.AY]), .obj bp0_2_0 (.chan 64 (AQ eS p0.Az.BL)), .AQ rp0_23 5 (AQ eY p0.DR), .AQ rp1 164 (AQ Al p1)] F) ?_ ?_
  ·rcases BT O with ⟨B, M⟩ | ⟨B, M⟩
   ·replace H := H.kn 68 B
    refine AO 5 [(73, .bool true)] H fun D H => ?_
    obtain rfl := BB M
    exact at_nil ⟨H.ls, A⟩
   replace H := H.kn 68 B
   refine Ae 69 _ _ H (fun D => .of (BX (by kernel_rfl) (A.Ef 0 rfl (o := 0) (n := 14) ⟨Nat.le_of_ble_eq_true rfl, rfl⟩))) fun D t H => ?_
   obtain ⟨x6, X, M⟩ := bind_some M
   obtain ⟨v1, h6, R, rfl, E⟩ := L3 (av := [.agg (AE x1), Ai x2]) X (A.cut 0)
   replace A := A.Dx E
   refine BC 1 [] 71 R H fun D t H => ?_
   refine AO 2 [(73, .bool (!x6))] H fun D H => ?_
   obtain rfl := BB M
   exact at_nil ⟨H.ls, A⟩
  clear A
  intro t D h5 J
  obtain ⟨H, A⟩ := J
  refine AN 1 [(47, .bool x5)] H fun D H => Ac 47 H M (fun B M H => ?_) fun B M H => ?_
  ·refine CE 1 (Bv 1 [(0, .ptr (some (bp0, 0))), (1, AP rp1 p1.length), (5, .ptr (some (h.size, 0))), (7, .ptr (some (h1.size, 0))), (8, Ai x2), (9, Ai 7)] H fun D H => at_nil ?_)
   exact .inl ⟨_, rfl, BB M, H.ls, A⟩
  exact EJ (.inl ⟨_, rfl, BB M, H.ls, A⟩)
 clear O
 clear A
 intro e D C I
 rcases I with ⟨x4, rfl, rfl, H, A⟩ | K
 ·show AW _ _ _ _ _ _ _
  refine AS (AH 2 (AN 2 [(75, .bool (x4 != 0))] H fun D H => Ac 75 H M (fun B M H => ?_) fun B M H => ?_))
  ·refine AH 7 (AX 5 [(76, .ptr (some (bp0, 0))), (77, Ai x4)] 81 2 5 A H fun D t H => ?_)
   replace A := A.k7 2 3 4 5 0 1 6
   obtain ⟨⟨x7, x8⟩, X, M⟩ := bind_some M
   obtain ⟨v1, h8, R, r1, rfl, E⟩ := Br (av := [.ptr (some (bp0, 0)), Ai x4, Ai p0.at_]) X (A.cut 4)
   replace A := A.P5 E
   refine KB R H fun D t H => ?_
   refine Bs 2 id (AN 2 [(6, AP rp1 p1.length)] H fun D H => AZ ?_)
   obtain ⟨rfl, rfl, rfl⟩ := EG M
   refine ⟨.inl rfl, AP rp1 p1.length, rH H, ?_⟩
   replace A := A.k5 0 1 2 3 6
   exact ⟨r1, rp1, rfl, A⟩
  refine B3 5 id ?_
  obtain ⟨Z, X, A⟩ := A.s2 24 [.slice none 0, .str ([] : UV), .str ([] : UV), .bool false, .bool false, .bool false] [_, _, _, _, _, _, _, _, _, _, _, _, _, _, _, _, _, _, _, _, _, _, _, _, _, _, _, _, _, _, _]
  refine Jp 4 [] X H fun D t H => ?_
  refine Bs 5 id (B0 1 [(88, .ptr (some (bp0, 0)))] 89 _ _ H (fun D => .of (BX (by kernel_rfl) (A.Ef 1 rfl (o := 0) (n := 13) ⟨Nat.le_of_ble_eq_true rfl, rfl⟩))) fun D t H => ?_)
  obtain ⟨G, X, A⟩ := A.s2 9 (AK p2) [_, _, _, _, _, _, _, _, _, _, _, _, _, _, _, _, _, _, _, _, _, _, _, _, _, _, _, _, _, _, _]
  refine Jp 2 [] X H fun D t H => ?_
  refine Bs 6 id ?_
  obtain ⟨V, X, A⟩ := A.s2 15 [Ai x2] [_, _, _, _, _, _, _, _, _, _, _, _, _, _, _, _, _, _, _, _, _, _, _, _, _, _, _, _, _, _, _]
  refine Bu 5 [] X H fun D t H => ?_
  refine Bs 9 id ?_
  obtain ⟨Y, X, A⟩ := A.s2 4 [Ai x2] [_, _, _, _, _, _, _, _, _, _, _, _, _, _, _, _, _, _, _, _, _, _, _, _, _, _, _, _, _, _, _]
  refine Bu 5 [(98, .ptr (some (bp0, 0)))] X H fun D t H => ?_
  obtain ⟨P, X, A⟩ := A.s2 3 [Ai 1] [_, _, _, _, _, _, _, _, _, _, _, _, _, _, _, _, _, _, _, _, _, _, _, _, _, _, _, _, _, _, _]
  refine Bu 2 [] X H fun D t H => ?_
  refine Bs 7 id (B0 1 [(104, AP rp1 p1.length)] 105 _ _ H (fun D => .of (BX (by kernel_rfl) (A.Ef 0 rfl (o := 0) (n := 14) ⟨Nat.le_of_ble_eq_true rfl, rfl⟩))) fun D t H => ?_)
  refine AO 2 [(107, .agg [Ai 1, .str x1.Name, .str x1.A9, Ab x1.Kind, Ai x1.Mode, Ai x1.Cz, Ai x1.Ct, .str x1.Ah, .str x1.Aj, Ai x1.Au, Ai x1.As, Ai x1.Time.F8, Ai x1.Time.EY, vs AJ x1.Extra, .str x1.Data, Ai x2, .str ([] : UV)])] H fun D H => ?_
  obtain ⟨U, e3, A⟩ := A.pL 164 [Ai 1, .str x1.Name, .str x1.A9, Ab x1.Kind, Ai x1.Mode, Ai x1.Cz, Ai x1.Ct, .str x1.Ah, .str x1.Aj, Ai x1.Au, Ai x1.As, Ai x1.Time.F8, Ai x1.Time.EY, vs AJ x1.Extra, .str x1.Data, Ai x2, .str ([] : UV)]
  refine BU 108 (AP (some P.size) (([(⟨(1 : Int), x1, x2, ([] : UV)⟩ : AI)] : List AI).length)) e3 H fun D t H => ?_
  obtain ⟨B, M⟩ := Aq M
  obtain ⟨r2, T, X, E⟩ := HH.FN CU (by decide) A 7 (xs := p1) (ys := ([(⟨(1 : Int), x1, x2, ([] : UV)⟩ : AI)] : List AI)) rfl (C0 A 0 rfl (n := ([(⟨(1 : Int), x1, x2, ([] : UV)⟩ : AI)] : List AI).length) (z := 17) rfl (by decide)) rfl rfl B
  replace A : HH g T [.AQ (some P.size) 164 ([Ai 1, .str x1.Name, .str x1.A9, Ab x1.Kind, Ai x1.Mode, Ai x1.Cz, Ai x1.Ct, .str x1.Ah, .str x1.Aj, Ai x1.Au, Ai x1.As, Ai x1.Time.F8, Ai x1.Time.EY, vs AJ x1.Extra, .str x1.Data, Ai x2, .str ([] : UV)]), _, _, _, _, _, _, .AQ r2 164 (AQ Al (p1 ++ ([(⟨(1 : Int), x1, x2, ([] : UV)⟩ : AI)] : List AI)))] F := E
  replace A := A.k7 1 2 3 4 5 6 7
  refine Ae 109 _ _ H (fun D => .of (DU (s := CF rp1 p1.length) (by kernel_rfl) X)) fun D t H => ?_
  refine AN 1 [(6, AP r2 ((p1 ++ ([(⟨(1 : Int), x1, x2, ([] : UV)⟩ : AI)] : List AI)).length))] H fun D H => AZ ?_
  obtain ⟨rfl, rfl, rfl⟩ := EG M
  refine ⟨.inl rfl, AP r2 ((p1 ++ ([(⟨(1 : Int), x1, x2, ([] : UV)⟩ : AI)] : List AI)).length), rH H, ?_⟩
  replace A := A.k5 2 3 4 5 6
  exact ⟨rp0_23, r2, rfl, A⟩
 exact K.elim
def Ax (p0 : AV) (p1 : List AI) (p2 : List UInt8) : Option (AV × (List UInt8) × (List AI)) :=
 (F4 p2).bind fun x1 => Ao x1 (((DP (⟨([] : List AA), p0.AM.Ba, p0.AM.Be, p0.AM.Ag, p0.AM.Af, p0.AM.Ak⟩ : Ap)).bind fun x32 => Ao x32 ((BR (⟨p0.Aw, p0.Az, p0.BE, p0.BQ, p0.at_, p0.BD, p0.BG, p0.BH, p0.AD, p0.BI, p0.DR, (⟨([] : List AA), p0.AM.Ba, p0.AM.Be, p0.AM.Ag, p0.AM.Af, p0.AM.Ak⟩ : Ap), ([] : List AA)⟩ : AV) (13 : Int) p0.at_).bind fun (x33, x34) => some (.inl (x33.Aw.Head, x33.Aw.Name, x33.BE, x33.BQ, x33.at_, x33.BD, x33.BG, x33.BH, x33.AD.Name, x33.AD.A9, x33.AD.Kind, x33.AD.Mode, x33.AD.Cz, x33.AD.Ct, x33.AD.Bg, x33.AD.Time, x33.AD.Ah, x33.AD.Aj, x33.AD.Au, x33.AD.As, x33.AD.Form, x33.BI, x33.AM.Ba, x33.AM.Be, x33.AM.Ag, x33.AM.Af, x33.AM.Ak, x34))) (Ao p0.BD (Cl (Hs 200 (p1.length + ([(⟨(4 : Int), (⟨([] : UV), ([] : UV), (0 : Int), (0 : Int), (0 : Int), (0 : Int), ([] : UV), ([] : UV), (0 : Int), (0 : Int), (⟨(0 : Int), (0 : Int)⟩ : Ad), ([] : List AA), ([] : UV)⟩ : AG), (0 : Int), ([] : UV)⟩ : AI)] : List AI).length)) <| some (.inr ((4 : Int), (p1 ++ ([(⟨(4 : Int), (⟨([] : UV), ([] : UV), (0 : Int), (0 : Int), (0 : Int), (0 : Int), ([] : UV), ([] : UV), (0 : Int), (0 : Int), (⟨(0 : Int), (0 : Int)⟩ : Ad), ([] : List AA), ([] : UV)⟩ : AG), (0 : Int), ([] : UV)⟩ : AI)] : List AI))))) (some (.inl (p0.Aw.Head, p0.Aw.Name, p0.BE, p0.BQ, p0.at_, p0.BD, p0.BG, p0.BH, p0.AD.Name, p0.AD.A9, p0.AD.Kind, p0.AD.Mode, p0.AD.Cz, p0.AD.Ct, p0.AD.Bg, p0.AD.Time, p0.AD.Ah, p0.AD.Aj, p0.AD.Au, p0.AD.As, p0.AD.Form, p0.BI, p0.AM.Ba, p0.AM.Be, p0.AM.Ag, p0.AM.Af, p0.AM.Ak, p0.DR)))) : Option ((Int × Int × Int × Int × Int × Bool × Int × Int × (List UInt8) × (List UInt8) × Int × Int × Int × Int × Int × Int × (List UInt8) × (List UInt8) × Int × Int × Int × Int × (List UInt8) × (List UInt8) × Bool × Bool × Bool × (List UInt8)) ⊕ (Int × (List AI)))).bind fun o1 => (match o1 with | .inl (x2, x3, x4, x5, x6, x7, x8, x9, x10, x11, x12, x13, x14, x15, x16, x17, x18, x19, x20, x21, x22, x23, x24, x25, x26, x27, x28, x29) => some ((⟨(⟨x2, x3⟩ : CW), p0.Az, x4, x5, x6, true, x8, x9, (⟨x10, x11, x12, x13, x14, x15, x16, x17, x18, x19, x20, x21, x22⟩ : AL), x23, x29, (⟨([] : List AA), x24, x25, x26, x27, x28⟩ : Ap), ([] : List AA)⟩ : AV), x29, p1) | .inr (x30, x31) => some ((⟨p0.Aw, p0.Az, x30, p0.BQ, p0.at_, p0.BD, p0.BG, p0.BH, p0.AD, p0.BI, p0.DR, (⟨([] : List AA), p0.AM.Ba, p0.AM.Be, p0.AM.Ag, p0.AM.Af, p0.AM.Ak⟩ : Ap), ([] : List AA)⟩ : AV), p0.DR, x31))) (Ao p0.BD ((BR (⟨p0.Aw, p0.Az, p0.BE, p0.BQ, p0.at_, p0.BD, p0.BG, p0.BH, p0.AD, p0.BI, p0.DR, (⟨([] : List AA), p0.AM.Ba, p0.AM.Be, p0.AM.Ag, p0.AM.Af, p0.AM.Ak⟩ : Ap), ([] : List AA)⟩ : AV) (2 : Int) p0.at_).bind fun (x35, x36) => some ((⟨x35.Aw, p0.Az, x35.BE, x35.BQ, x35.at_, x35.BD, x35.BG, x35.BH, x35.AD, x35.BI, x36, (⟨([] : List AA), x35.AM.Ba, x35.AM.Be, x35.AM.Ag, x35.AM.Af, x35.AM.Ak⟩ : Ap), ([] : List AA)⟩ : AV), x36, p1)) ((F1 p2).bind fun (x37, x38) => Ao (x38 != 0) ((BR (⟨p0.Aw, p0.Az, p0.BE, p0.BQ, p0.at_, p0.BD, p0.BG, p0.BH, p0.AD, p0.BI, p0.DR, (⟨([] : List AA), p0.AM.Ba, p0.AM.Be, p0.AM.Ag, p0.AM.Af, p0.AM.Ak⟩ : Ap), ([] : List AA)⟩ : AV) x38 p0.at_).bind fun (x39, x40) => some ((⟨x39.Aw, p0.Az, x39.BE, x39.BQ, x39.at_, x39.BD, x39.BG, x39.BH, x39.AD, x39.BI, x40, (⟨([] : List AA), x39.AM.Ba, x39.AM.Be, x39.AM.Ag, x39.AM.Af, x39.AM.Ak⟩ : Ap), ([] : List AA)⟩ : AV), x40, p1)) ((Ao (x37.Kind == 120) (some true) (Ao (x37.Kind == 103) (some true) (Ao (x37.Kind == 76) (some true) (some (x37.Kind == 75)))) : Option ((Bool))).bind fun x41 => Ao x41 (none) (Ao ((decide (x37.Kind < 48)) || (decide (x37.Kind > 55))) ((BR (⟨p0.Aw, p0.Az, p0.BE, p0.BQ, p0.at_, p0.BD, p0.BG, p0.BH, p0.AD, p0.BI, p0.DR, (⟨([] : List AA), p0.AM.Ba, p0.AM.Be, p0.AM.Ag, p0.AM.Af, p0.AM.Ak⟩ : Ap), ([] : List AA)⟩ : AV) (5 : Int) p0.at_).bind fun (x42, x43) => some ((⟨x42.Aw, p0.Az, x42.BE, x42.BQ, x42.at_, x42.BD, x42.BG, x42.BH, x42.AD, x42.BI, x43, (⟨([] : List AA), x42.AM.Ba, x42.AM.Be, x42.AM.Ag, x42.AM.Af, x42.AM.Ak⟩ : Ap), ([] : List AA)⟩ : AV), x43, p1)) ((Bk (⟨p0.Aw, p0.Az, p0.BE, p0.BQ, p0.at_, p0.BD, p0.BG, p0.BH, p0.AD, p0.BI, p0.DR, (⟨([] : List AA), p0.AM.Ba, p0.AM.Be, p0.AM.Ag, p0.AM.Af, p0.AM.Ak⟩ : Ap), ([] : List AA)⟩ : AV) p1 x37).bind fun (x45, x46, x47) => some ((⟨x45.Aw, p0.Az, x45.BE, x45.BQ, x45.at_, x45.BD, x45.BG, x45.BH, x45.AD, x45.BI, x46, (⟨([] : List AA), x45.AM.Ba, x45.AM.Be, x45.AM.Ag, x45.AM.Af, x45.AM.Ak⟩ : Ap), ([] : List AA)⟩ : AV), x46, x47))))))
theorem Fl {p0 p1 p2 bp0 bp0_2 bp0_2_0 rp0_23 rp1 u0 u3 u4} (M : Ax p0 p1 p2 = some (u0, u3, u4)) (A : HH g h [.obj bp0 (.cells none 2 [Ai p0.Aw.Head, Ai p0.Aw.Name, .ptr (some (bp0_2, 0)), Ai p0.BE, Ai p0.BQ, Ai p0.at_, .bool p0.BD, Ai p0.BG, Ai p0.BH, .str p0.AD.Name, .str p0.AD.A9, Ab p0.AD.Kind, Ai p0.AD.Mode, Ai p0.AD.Cz, Ai p0.AD.Ct, Ai p0.AD.Bg, Ai p0.AD.Time, .str p0.AD.Ah, .str p0.AD.Aj, Ai p0.AD.Au, Ai p0.AD.As, Ai p0.AD.Form, Ai p0.BI, AP rp0_23 p0.DR.length, .slice none 0, .str p0.AM.Ba, .str p0.AM.Be, .bool p0.AM.Ag, .bool p0.AM.Af, .bool p0.AM.Ak, .slice none 0]), .obj bp0_2 (.cells none 2 [.chan (some bp0_2_0), .str p0.Az.Bz, Ai p0.Az.Ar, .bool p0.Az.AY]), .obj bp0_2_0 (.chan 64 (AQ eS p0.Az.BL)), .AQ rp0_23 5 (AQ eY p0.DR), .AQ rp1 164 (AQ Al p1)] F) (hc : BP (cfg.still 201) av = [.ptr (some (bp0, 0)), AP rp1 p1.length, .str p2] := by kernel_rfl) : ∃ v Q, BZ cfg g h 201 av v Q ∧ ∃ (r'3 : Option Nat) (r'4 : Option Nat), v = AP r'4 u4.length ∧ HH g Q [.obj bp0 (.cells none 2 [Ai u0.Aw.Head, Ai u0.Aw.Name, .ptr (some (bp0_2, 0)), Ai u0.BE, Ai u0.BQ, Ai u0.at_, .bool u0.BD, Ai u0.BG, Ai u0.BH, .str u0.AD.Name, .str u0.AD.A9, Ab u0.AD.Kind, Ai u0.AD.Mode, Ai u0.AD.Cz, Ai u0.AD.Ct, Ai u0.AD.Bg, Ai u0.AD.Time, .str u0.AD.Ah, .str u0.AD.Aj, Ai u0.AD.Au, Ai u0.AD.As, Ai u0.AD.Form, Ai u0.BI, AP r'3 u3.length, .slice none 0, .str u0.AM.Ba, .str u0.AM.Be, .bool u0.AM.Ag, .bool u0.AM.Af, .bool u0.AM.Ak, .slice none 0]), .obj bp0_2 (.cells none 2 [.chan (some bp0_2_0), .str p0.Az.Bz, Ai p0.Az.Ar, .bool p0.Az.AY]), .obj bp0_2_0 (.chan 64 (AQ eS p0.Az.BL)), .AQ r'3 5 (AQ eY u3), .AQ r'4 164 (AQ Al u4)] F := by
 refine EE 95 [.tmp 6] hc ?_
 clear hc
 unfold Ax at M
 refine bg 95 [(0, .ptr (some (bp0, 0))), (1, AP rp1 p1.length), (2, .str p2)] fun D H => ?_
 refine AH 1 (AN 1 [] H fun D H => AS (AH 2 ?_))
 obtain ⟨x1, X, M⟩ := bind_some M
 obtain ⟨v1, h1, R, rfl, E⟩ := OU (av := [.str p2]) X (A.cut 0)
 replace A := A.Dx E
 refine BC 1 [] 10 R H fun D t H => ?_
 refine Bq id (Ac 10 H M (fun B M H => ?_) fun B M H => ?_)
 ·refine AS ?_
  obtain ⟨o1, O, M⟩ := bind_some M
  refine Bb (Q' := fun e N Q => (∃ x2 x3 x4 x5 x6 x7 x8 x9 x10 x11 x12 x13 x14 x15 x16 x17 x18 x19 x20 x21 x22 x23 x24 x25 x26 x27 x28 x29, e = .normal ∧ .inl (x2, x3, x4, x5, x6, x7, x8, x9, x10, x11, x12, x13, x14, x15, x16, x17, x18, x19, x20, x21, x22, x23, x24, x25, x26, x27, x28, x29) = o1 ∧ ∃ r1, Has N 95 [(0, .ptr (some (bp0, 0))), (1, AP rp1 p1.length)] ∧ HH g Q [.obj bp0 (.cells none 2 [Ai x2, Ai x3, .ptr (some (bp0_2, 0)), Ai x4, Ai x5, Ai x6, .bool x7, Ai x8, Ai x9, .str x10, .str x11, Ab x12, Ai x13, Ai x14, Ai x15, Ai x16, Ai x17, .str x18, .str x19, Ai x20, Ai x21, Ai x22, Ai x23, AP r1 x29.length, .slice none 0, .str x24, .str x25, .bool x26, .bool x27, .bool x28, .slice none 0]), .obj bp0_2 (.cells none 2 [.chan (some bp0_2_0), .str p0.Az.Bz, Ai p0.Az.Ar, .bool p0.Az.AY]), .obj bp0_2_0 (.chan 64 (AQ eS p0.Az.BL)), .AQ r1 5 (AQ eY x29), .AQ rp1 164 (AQ Al p1)] F) ∨ (∃ x30 x31, e = .ret ∧ .inr (x30, x31) = o1 ∧ ∃ r2, Has N 95 [(6, AP r2 x31.length)] ∧ HH g Q [.obj bp0 (.cells none 2 [Ai p0.Aw.Head, Ai p0.Aw.Name, .ptr (some (bp0_2, 0)), Ai x30, Ai p0.BQ, Ai p0.at_, .bool p0.BD, Ai p0.BG, Ai p0.BH, .str p0.AD.Name, .str p0.AD.A9, Ab p0.AD.Kind, Ai p0.AD.Mode, Ai p0.AD.Cz, Ai p0.AD.Ct, Ai p0.AD.Bg, Ai p0.AD.Time, .str p0.AD.Ah, .str p0.AD.Aj, Ai p0.AD.Au, Ai p0.AD.As, Ai p0.AD.Form, Ai p0.BI, AP rp0_23 p0.DR.length, .slice none 0, .str p0.AM.Ba, .str p0.AM.Be, .bool p0.AM.Ag, .bool p0.AM.Af, .bool p0.AM.Ak, .slice none 0]), .obj bp0_2 (.cells none 2 [.chan (some bp0_2_0), .str p0.Az.Bz, Ai p0.Az.Ar, .bool p0.Az.AY]), .obj bp0_2_0 (.chan 64 (AQ eS p0.Az.BL)), .AQ rp0_23 5 (AQ eY p0.DR), .AQ r2 164 (AQ Al x31)] F) ∨ False) ?_ ?_
  ·replace M := O
   clear O
   refine Aa (id := 0) (by kernel_rfl) ?_
   refine AH 6 (B0 3 [] 15 _ _ H (fun D => .of (BX (by kernel_rfl) (A.Ef 0 rfl (o := 24) (n := 6) ⟨Nat.le_of_ble_eq_true rfl, rfl⟩))) fun D t H => ?_)
   obtain ⟨x32, X, M⟩ := bind_some M
   obtain ⟨v1, h2, R, rfl, E⟩ := Kl (av := [.agg (Gv p0.AM (.slice none 0))]) X (A.cut 0)
   replace A := A.Dx E
   refine BM 16 R H fun D t H => ?_
   refine AN 1 [(11, .bool x32)] H fun D H => Ac 11 H M (fun B M H => ?_) fun B M H => ?_
   ·refine CE 6 (AX 4 [(17, .ptr (some (bp0, 0)))] 21 0 5 A H fun D t H => ?_)
    obtain ⟨⟨x33, x34⟩, X, M⟩ := bind_some M
    obtain ⟨v1, W, R, r3, rfl, E⟩ := Br (av := [.ptr (some (bp0, 0)), Ai 13, Ai p0.at_]) X (A.cut 4)
    replace A := A.P5 E
    refine KB R H fun D t H => ?_
    refine at_nil ?_
    exact .inl ⟨_, _, _, _, _, _, _, _, _, _, _, _, _, _, _, _, _, _, _, _, _, _, _, _, _, _, _, _, rfl, BB M, _, H.ls, A⟩
   refine AH 5 (AX 3 [] 27 0 6 A H fun D t H => ?_)
   refine AN 1 [(23, .bool p0.BD)] H fun D H => Ac 23 H M (fun B M H => ?_) fun B M H => ?_
   ·refine AH 4 ?_
    obtain ⟨S, X, A⟩ := A.s0 3 [Ai 4] [_, _, _, _, _, _, _, _, _, _, _, _, _, _, _, _, _, _, _, _, _, _, _, _, _, _, _, _, _, _, _]
    refine Bu 3 [] X H fun D t H => ?_
    refine Bs 5 id (AO 2 [(31, AP rp1 p1.length), (32, .agg [Ai 4, .str ([] : UV), .str ([] : UV), Ab 0, Ai 0, Ai 0, Ai 0, .str ([] : UV), .str ([] : UV), Ai 0, Ai 0, Ai 0, Ai 0, .slice none 0, .str ([] : UV), Ai 0, .str ([] : UV)])] H fun D H => ?_)
    obtain ⟨h5, e1, A⟩ := A.pL 164 [Ai 4, .str ([] : UV), .str ([] : UV), Ab 0, Ai 0, Ai 0, Ai 0, .str ([] : UV), .str ([] : UV), Ai 0, Ai 0, Ai 0, Ai 0, vs AJ ([] : List AA), .str ([] : UV), Ai 0, .str ([] : UV)]
    refine BU 33 (AP (some S.size) (([(⟨(4 : Int), (⟨([] : UV), ([] : UV), (0 : Int), (0 : Int), (0 : Int), (0 : Int), ([] : UV), ([] : UV), (0 : Int), (0 : Int), (⟨(0 : Int), (0 : Int)⟩ : Ad), ([] : List AA), ([] : UV)⟩ : AG), (0 : Int), ([] : UV)⟩ : AI)] : List AI).length)) e1 H fun D t H => ?_
    obtain ⟨B, M⟩ := Aq M
    obtain ⟨r4, h6, X, E⟩ := HH.FN CU (by decide) A 5 (xs := p1) (ys := ([(⟨(4 : Int), (⟨([] : UV), ([] : UV), (0 : Int), (0 : Int), (0 : Int), (0 : Int), ([] : UV), ([] : UV), (0 : Int), (0 : Int), (⟨(0 : Int), (0 : Int)⟩ : Ad), ([] : List AA), ([] : UV)⟩ : AG), (0 : Int), ([] : UV)⟩ : AI)] : List AI)) rfl (C0 A 0 rfl (n := ([(⟨(4 : Int), (⟨([] : UV), ([] : UV), (0 : Int), (0 : Int), (0 : Int), (0 : Int), ([] : UV), ([] : UV), (0 : Int), (0 : Int), (⟨(0 : Int), (0 : Int)⟩ : Ad), ([] : List AA), ([] : UV)⟩ : AG), (0 : Int), ([] : UV)⟩ : AI)] : List AI).length) (z := 17) rfl (by decide)) rfl rfl B
    replace A : HH g h6 [.AQ (some S.size) 164 ([Ai 4, .str ([] : UV), .str ([] : UV), Ab 0, Ai 0, Ai 0, Ai 0, .str ([] : UV), .str ([] : UV), Ai 0, Ai 0, Ai 0, Ai 0, vs AJ ([] : List AA), .str ([] : UV), Ai 0, .str ([] : UV)]), _, _, _, _, .AQ r4 164 (AQ Al (p1 ++ ([(⟨(4 : Int), (⟨([] : UV), ([] : UV), (0 : Int), (0 : Int), (0 : Int), (0 : Int), ([] : UV), ([] : UV), (0 : Int), (0 : Int), (⟨(0 : Int), (0 : Int)⟩ : Ad), ([] : List AA), ([] : UV)⟩ : AG), (0 : Int), ([] : UV)⟩ : AI)] : List AI)))] F := E
    replace A := A.k5 1 2 3 4 5
    refine Ae 34 _ _ H (fun D => .of (DU (s := CF rp1 p1.length) (by kernel_rfl) X)) fun D t H => ?_
    refine AN 1 [(6, AP r4 ((p1 ++ ([(⟨(4 : Int), (⟨([] : UV), ([] : UV), (0 : Int), (0 : Int), (0 : Int), (0 : Int), ([] : UV), ([] : UV), (0 : Int), (0 : Int), (⟨(0 : Int), (0 : Int)⟩ : Ad), ([] : List AA), ([] : UV)⟩ : AG), (0 : Int), ([] : UV)⟩ : AI)] : List AI)).length))] H fun D H => AZ ?_
    exact .inr (.inl ⟨_, _, rfl, BB M, _, H.ls, A⟩)
   exact EJ (.inl ⟨_, _, _, _, _, _, _, _, _, _, _, _, _, _, _, _, _, _, _, _, _, _, _, _, _, _, _, _, rfl, BB M, rp0_23, H.ls, A⟩)
  clear O
  clear A
  intro e D C I
  rcases I with ⟨x2, x3, x4, x5, x6, x7, x8, x9, x10, x11, x12, x13, x14, x15, x16, x17, x18, x19, x20, x21, x22, x23, x24, x25, x26, x27, x28, x29, rfl, rfl, r1, H, A⟩ | ⟨x30, x31, rfl, rfl, r2, H, A⟩ | K
  ·show AW _ _ _ _ _ _ _
   refine AH 4 ?_
   obtain ⟨h8, X, A⟩ := A.s0 6 [.bool true] [_, _, _, _, _, _, _, _, _, _, _, _, _, _, _, _, _, _, _, _, _, _, _, _, _, _, _, _, _, _, _]
   refine Bu 3 [] X H fun D t H => ?_
   refine Bs 2 id (AN 2 [(6, AP rp1 p1.length)] H fun D H => AZ ?_)
   obtain ⟨rfl, rfl, rfl⟩ := EG M
   exact ⟨.inl rfl, _, rH H, _, _, rfl, A⟩
  ·obtain ⟨rfl, rfl, rfl⟩ := EG M
   exact ⟨.inl rfl, _, rH H, _, _, rfl, A⟩
  exact K.elim
 refine CT id (AS (AH 4 (AX 3 [] 42 0 6 A H fun D t H => ?_)))
 refine Bq id (Ac 42 H M (fun B M H => ?_) fun B M H => ?_)
 ·refine AH 6 (AX 4 [(43, .ptr (some (bp0, 0)))] 47 0 5 A H fun D t H => ?_)
  obtain ⟨⟨x35, x36⟩, X, M⟩ := bind_some M
  obtain ⟨v1, Z, R, r5, rfl, E⟩ := Br (av := [.ptr (some (bp0, 0)), Ai 2, Ai p0.at_]) X (A.cut 4)
  replace A := A.P5 E
  refine KB R H fun D t H => ?_
  refine Bs 2 id (AN 2 [(6, AP rp1 p1.length)] H fun D H => AZ ?_)
  obtain ⟨rfl, rfl, rfl⟩ := EG M
  exact ⟨.inl rfl, _, rH H, _, _, rfl, A⟩
 refine B3 8 id ?_
 obtain ⟨⟨x37, x38⟩, X, M⟩ := bind_some M
 obtain ⟨v1, G, R, rfl, E⟩ := M0 (av := [.str p2]) X (A.cut 0)
 replace A := A.Dx E
 refine BC 1 [] 52 R H fun D t H => ?_
 obtain ⟨V, e2, A⟩ := A.pu (.cells none 2 [.str ([] : UV), .str ([] : UV), Ab 0, Ai 0, Ai 0, Ai 0, Ai 0, Ai 0, .str ([] : UV), .str ([] : UV), Ai 0, Ai 0, Ai 0])
 refine K2 3 [(53, .agg (AK x37)), (54, Ai x38)] 7 (.ptr (some (G.size, 0))) e2 H fun D t H => ?_
 obtain ⟨Y, X, A⟩ := A.s0 0 (AK x37) [_, _, _, _, _, _, _, _, _, _, _, _, _]
 refine C9 X H fun D t H => ?_
 refine AN 1 [(8, Ai x38)] H fun D H => AS (AH 2 (AN 2 [(56, .bool (x38 != 0))] H fun D H => Ac 56 H M (fun B M H => ?_) fun B M H => ?_))
 ·refine AH 7 (AX 5 [(57, .ptr (some (bp0, 0))), (58, Ai x38)] 62 1 5 A H fun D t H => ?_)
  replace A := A.k6 1 2 3 4 0 5
  obtain ⟨⟨x39, x40⟩, X, M⟩ := bind_some M
  obtain ⟨v1, P, R, r6, rfl, E⟩ := Br (av := [.ptr (some (bp0, 0)), Ai x38, Ai p0.at_]) X (A.cut 4)
  replace A := A.P5 E
  refine KB R H fun D t H => ?_
  refine Bs 2 id (AN 2 [(6, AP rp1 p1.length)] H fun D H => AZ ?_)
  obtain ⟨rfl, rfl, rfl⟩ := EG M
  refine ⟨.inl rfl, AP rp1 p1.length, rH H, ?_⟩
  replace A := A.k5 0 1 2 3 5
  exact ⟨r6, rp1, rfl, A⟩
 refine CT id (AS (AH 2 (AX 1 [] 66 0 2 A H fun D t H => ?_)))
 refine Bq id (Aa (id := 1) (by kernel_rfl) ?_)
 refine AS ?_
 obtain ⟨o2, O, M⟩ := bind_some M
 refine Bb (Q' := fun e N Q => (∃ x41, e = .normal ∧ x41 = o2 ∧ Has N 95 [(0, .ptr (some (bp0, 0))), (1, AP rp1 p1.length), (7, .ptr (some (G.size, 0))), (67, .bool x41)] ∧ HH g Q [.obj G.size (.cells none 2 (AK x37)), .obj bp0 (.cells none 2 [Ai p0.Aw.Head, Ai p0.Aw.Name, .ptr (some (bp0_2, 0)), Ai p0.BE, Ai p0.BQ, Ai p0.at_, .bool p0.BD, Ai p0.BG, Ai p0.BH, .str p0.AD.Name, .str p0.AD.A9, Ab p0.AD.Kind, Ai p0.AD.Mode, Ai p0.AD.Cz, Ai p0.AD.Ct, Ai p0.AD.Bg, Ai p0.AD.Time, .str p0.AD.Ah, .str p0.AD.Aj, Ai p0.AD.Au, Ai p0.AD.As, Ai p0.AD.Form, Ai p0.BI, AP rp0_23 p0.DR.length, .slice none 0, .str p0.AM.Ba, .str p0.AM.Be, .bool p0.AM.Ag, .bool p0.AM.Af, .bool p0.AM.Ak, .slice none 0]), .obj bp0_2 (.cells none 2 [.chan (some bp0_2_0), .str p0.Az.Bz, Ai p0.Az.Ar, .bool p0.Az.AY]), .obj bp0_2_0 (.chan 64 (AQ eS p0.Az.BL)), .AQ rp0_23 5 (AQ eY p0.DR), .AQ rp1 164 (AQ Al p1)] F) ∨ False) ?_ ?_
 ·replace M := O
  clear O
  refine AH 2 (AN 2 [(67, .bool (x37.Kind == 120))] H fun D H => Ac 67 H M (fun B M H => ?_) fun B M H => ?_)
  ·exact EJ (.inl ⟨_, rfl, BB M, H.ls, A⟩)
  refine AH 2 (Bv 2 [(0, .ptr (some (bp0, 0))), (1, AP rp1 p1.length), (7, .ptr (some (G.size, 0))), (66, Ab x37.Kind), (67, .bool (x37.Kind == 103))] H fun D H => Bq id (Ac 67 H M (fun B M H => ?_) fun B M H => ?_))
  ·exact EJ (.inl ⟨_, rfl, BB M, H.ls, A⟩)
  refine AH 2 (Bv 2 [(0, .ptr (some (bp0, 0))), (1, AP rp1 p1.length), (7, .ptr (some (G.size, 0))), (66, Ab x37.Kind), (67, .bool (x37.Kind == 76))] H fun D H => Bq id (Ac 67 H M (fun B M H => ?_) fun B M H => ?_))
  ·exact EJ (.inl ⟨_, rfl, BB M, H.ls, A⟩)
  refine CE 2 (Bv 2 [(0, .ptr (some (bp0, 0))), (1, AP rp1 p1.length), (7, .ptr (some (G.size, 0))), (67, .bool (x37.Kind == 75))] H fun D H => at_nil ?_)
  exact .inl ⟨_, rfl, BB M, H.ls, A⟩
 clear O
 clear A
 intro e D U I
 rcases I with ⟨x41, rfl, rfl, H, A⟩ | K
 ·show AW _ _ _ _ _ _ _
  refine Ac 67 H M (fun B M H => ?_) fun B M H => ?_
  ·refine AH 3 (B0 1 [(72, .ptr (some (bp0, 0)))] 73 _ _ H (fun D => .of (BX (by kernel_rfl) (A.Ef 0 rfl (o := 0) (n := 13) ⟨Nat.le_of_ble_eq_true rfl, rfl⟩))) fun D t H => ?_)
   cases M
  refine CT id (AS (AH 8 (AX 1 [] 77 0 2 A H fun D t H => ?_)))
  refine AO 2 [(79, .bool (decide (x37.Kind < 48)))] H fun D H => Bi 4 (fun N Q => U = Q ∧ Has N 95 [(0, .ptr (some (bp0, 0))), (1, AP rp1 p1.length), (7, .ptr (some (G.size, 0))), (83, .bool ((decide (x37.Kind < 48)) || (decide (x37.Kind > 55))))]) ?_ ?_
  ·cases B : (decide (x37.Kind < 48) : Bool) with
   | true =>
    replace H := H.kn 79 B
    exact AO 4 [(83, .bool true)] H fun D H => A8 H B
   | false =>
    replace H := H.kn 79 B
    refine AX 1 [] 81 0 2 A H fun D t H => ?_
    exact AO 2 [(83, .bool (decide (x37.Kind > 55)))] H fun D H => A8 H B
  intro t D Q J
  obtain ⟨e, H⟩ := J
  subst e
  refine Bq id (Ac 83 H M (fun B M H => ?_) fun B M H => ?_)
  ·refine AH 6 (AX 4 [(84, .ptr (some (bp0, 0)))] 88 1 5 A H fun D t H => ?_)
   replace A := A.k6 1 2 3 4 0 5
   obtain ⟨⟨x42, x43⟩, X, M⟩ := bind_some M
   obtain ⟨v1, T, R, r7, rfl, E⟩ := Br (av := [.ptr (some (bp0, 0)), Ai 5, Ai p0.at_]) X (A.cut 4)
   replace A := A.P5 E
   refine KB R H fun D t H => ?_
   refine Bs 2 id (AN 2 [(6, AP rp1 p1.length)] H fun D H => AZ ?_)
   obtain ⟨rfl, rfl, rfl⟩ := EG M
   refine ⟨.inl rfl, AP rp1 p1.length, rH H, ?_⟩
   replace A := A.k5 0 1 2 3 5
   exact ⟨r7, rp1, rfl, A⟩
  refine B3 5 id (B0 2 [(91, .ptr (some (bp0, 0))), (92, AP rp1 p1.length)] 93 _ _ H (fun D => .of (BX (by kernel_rfl) (A.Ef 0 rfl (o := 0) (n := 13) ⟨Nat.le_of_ble_eq_true rfl, rfl⟩))) fun D t H => ?_)
  replace A := A.k6 1 2 3 4 5 0
  obtain ⟨⟨x45, x46, x47⟩, X, M⟩ := bind_some M
  obtain ⟨v1, h16, R, r8, r9, rfl, E⟩ := FU (av := [.ptr (some (bp0, 0)), AP rp1 p1.length, .agg (AK x37)]) X (A.cut 5)
  replace A : HH g h16 [.obj bp0 (.cells none 2 [Ai x45.Aw.Head, Ai x45.Aw.Name, _, Ai x45.BE, Ai x45.BQ, Ai x45.at_, .bool x45.BD, Ai x45.BG, Ai x45.BH, .str x45.AD.Name, .str x45.AD.A9, Ab x45.AD.Kind, Ai x45.AD.Mode, Ai x45.AD.Cz, Ai x45.AD.Ct, Ai x45.AD.Bg, Ai x45.AD.Time, .str x45.AD.Ah, .str x45.AD.Aj, Ai x45.AD.Au, Ai x45.AD.As, Ai x45.AD.Form, Ai x45.BI, AP r8 x46.length, _, .str x45.AM.Ba, .str x45.AM.Be, .bool x45.AM.Ag, .bool x45.AM.Af, .bool x45.AM.Ak, _]), .obj bp0_2 (.cells none 2 [_, _, _, _]), .obj bp0_2_0 (.chan 64 (AQ eS p0.Az.BL)), .AQ r8 5 (AQ eY x46), .AQ r9 164 (AQ Al x47), _] F := A.Eg (n := 5) E
  refine BM 94 R H fun D t H => ?_
  refine AN 1 [(6, AP r9 x47.length)] H fun D H => AZ ?_
  obtain ⟨rfl, rfl, rfl⟩ := EG M
  refine ⟨.inl rfl, AP r9 x47.length, rH H, ?_⟩
  replace A := A.d5
  exact ⟨r8, r9, rfl, A⟩
 exact K.elim
def Bx (p0 : AV) : Option (Int × AV × (List UInt8)) :=
 (Ao (p0.BE != 4) ((DN (⟨p0.Aw, p0.Az, p0.BE, p0.BQ, p0.at_, p0.BD, p0.BG, p0.BH, p0.AD, p0.BI, p0.DR, (⟨([] : List AA), p0.AM.Ba, p0.AM.Be, p0.AM.Ag, p0.AM.Af, p0.AM.Ak⟩ : Ap), ([] : List AA)⟩ : AV)).bind fun x29 => (BR (⟨p0.Aw, p0.Az, p0.BE, p0.BQ, p0.at_, p0.BD, p0.BG, p0.BH, p0.AD, p0.BI, p0.DR, (⟨([] : List AA), p0.AM.Ba, p0.AM.Be, p0.AM.Ag, p0.AM.Af, p0.AM.Ak⟩ : Ap), ([] : List AA)⟩ : AV) (3 : Int) x29).bind fun (x30, x31) => some (x30.Aw.Head, x30.Aw.Name, x30.BE, x30.BQ, x30.at_, x30.BD, x30.BG, x30.BH, x30.AD.Name, x30.AD.A9, x30.AD.Kind, x30.AD.Mode, x30.AD.Cz, x30.AD.Ct, x30.AD.Bg, x30.AD.Time, x30.AD.Ah, x30.AD.Aj, x30.AD.Au, x30.AD.As, x30.AD.Form, x30.BI, x30.AM.Ba, x30.AM.Be, x30.AM.Ag, x30.AM.Af, x30.AM.Ak, x31)) (some (p0.Aw.Head, p0.Aw.Name, p0.BE, p0.BQ, p0.at_, p0.BD, p0.BG, p0.BH, p0.AD.Name, p0.AD.A9, p0.AD.Kind, p0.AD.Mode, p0.AD.Cz, p0.AD.Ct, p0.AD.Bg, p0.AD.Time, p0.AD.Ah, p0.AD.Aj, p0.AD.Au, p0.AD.As, p0.AD.Form, p0.BI, p0.AM.Ba, p0.AM.Be, p0.AM.Ag, p0.AM.Af, p0.AM.Ak, p0.DR)) : Option ((Int × Int × Int × Int × Int × Bool × Int × Int × (List UInt8) × (List UInt8) × Int × Int × Int × Int × Int × Int × (List UInt8) × (List UInt8) × Int × Int × Int × Int × (List UInt8) × (List UInt8) × Bool × Bool × Bool × (List UInt8)))).bind fun (x1, x2, x3, x4, x5, x6, x7, x8, x9, x10, x11, x12, x13, x14, x15, x16, x17, x18, x19, x20, x21, x22, x23, x24, x25, x26, x27, x28) => some (x7, (⟨(⟨x1, x2⟩ : CW), p0.Az, x3, x4, x5, x6, x7, x8, (⟨x9, x10, x11, x12, x13, x14, x15, x16, x17, x18, x19, x20, x21⟩ : AL), x22, x28, (⟨([] : List AA), x23, x24, x25, x26, x27⟩ : Ap), ([] : List AA)⟩ : AV), x28)
theorem F2 {p0 bp0 bp0_2 bp0_2_0 rp0_23 q0 u0 u3} (M : Bx p0 = some (q0, u0, u3)) (A : HH g h [.obj bp0 (.cells none 2 [Ai p0.Aw.Head, Ai p0.Aw.Name, .ptr (some (bp0_2, 0)), Ai p0.BE, Ai p0.BQ, Ai p0.at_, .bool p0.BD, Ai p0.BG, Ai p0.BH, .str p0.AD.Name, .str p0.AD.A9, Ab p0.AD.Kind, Ai p0.AD.Mode, Ai p0.AD.Cz, Ai p0.AD.Ct, Ai p0.AD.Bg, Ai p0.AD.Time, .str p0.AD.Ah, .str p0.AD.Aj, Ai p0.AD.Au, Ai p0.AD.As, Ai p0.AD.Form, Ai p0.BI, AP rp0_23 p0.DR.length, .slice none 0, .str p0.AM.Ba, .str p0.AM.Be, .bool p0.AM.Ag, .bool p0.AM.Af, .bool p0.AM.Ak, .slice none 0]), .obj bp0_2 (.cells none 2 [.chan (some bp0_2_0), .str p0.Az.Bz, Ai p0.Az.Ar, .bool p0.Az.AY]), .obj bp0_2_0 (.chan 64 (AQ eS p0.Az.BL)), .AQ rp0_23 5 (AQ eY p0.DR)] F) (hc : BP (cfg.still 90) av = [.ptr (some (bp0, 0))] := by kernel_rfl) : ∃ v Q, BZ cfg g h 90 av v Q ∧ ∃ (r'3 : Option Nat), v = Ai q0 ∧ HH g Q [.obj bp0 (.cells none 2 [Ai u0.Aw.Head, Ai u0.Aw.Name, .ptr (some (bp0_2, 0)), Ai u0.BE, Ai u0.BQ, Ai u0.at_, .bool u0.BD, Ai u0.BG, Ai u0.BH, .str u0.AD.Name, .str u0.AD.A9, Ab u0.AD.Kind, Ai u0.AD.Mode, Ai u0.AD.Cz, Ai u0.AD.Ct, Ai u0.AD.Bg, Ai u0.AD.Time, .str u0.AD.Ah, .str u0.AD.Aj, Ai u0.AD.Au, Ai u0.AD.As, Ai u0.AD.Form, Ai u0.BI, AP r'3 u3.length, .slice none 0, .str u0.AM.Ba, .str u0.AM.Be, .bool u0.AM.Ag, .bool u0.AM.Af, .bool u0.AM.Ak, .slice none 0]), .obj bp0_2 (.cells none 2 [.chan (some bp0_2_0), .str p0.Az.Bz, Ai p0.Az.Ar, .bool p0.Az.AY]), .obj bp0_2_0 (.chan 64 (AQ eS p0.Az.BL)), .AQ r'3 5 (AQ eY u3)] F := by
 refine EE 16 [.tmp 2] hc ?_
 clear hc
 unfold Bx at M
 refine bg 16 [(0, .ptr (some (bp0, 0)))] fun D H => ?_
 refine AH 1 (AN 1 [] H fun D H => AS ?_)
 obtain ⟨o1, O, M⟩ := bind_some M
 refine Bb (Q' := fun e N Q => (∃ x1 x2 x3 x4 x5 x6 x7 x8 x9 x10 x11 x12 x13 x14 x15 x16 x17 x18 x19 x20 x21 x22 x23 x24 x25 x26 x27 x28, e = .normal ∧ (x1, x2, x3, x4, x5, x6, x7, x8, x9, x10, x11, x12, x13, x14, x15, x16, x17, x18, x19, x20, x21, x22, x23, x24, x25, x26, x27, x28) = o1 ∧ ∃ r1, Has N 16 [(0, .ptr (some (bp0, 0)))] ∧ HH g Q [.obj bp0 (.cells none 2 [Ai x1, Ai x2, .ptr (some (bp0_2, 0)), Ai x3, Ai x4, Ai x5, .bool x6, Ai x7, Ai x8, .str x9, .str x10, Ab x11, Ai x12, Ai x13, Ai x14, Ai x15, Ai x16, .str x17, .str x18, Ai x19, Ai x20, Ai x21, Ai x22, AP r1 x28.length, .slice none 0, .str x23, .str x24, .bool x25, .bool x26, .bool x27, .slice none 0]), .obj bp0_2 (.cells none 2 [.chan (some bp0_2_0), .str p0.Az.Bz, Ai p0.Az.Ar, .bool p0.Az.AY]), .obj bp0_2_0 (.chan 64 (AQ eS p0.Az.BL)), .AQ r1 5 (AQ eY x28)] F) ∨ False) ?_ ?_
 ·replace M := O
  clear O
  refine AH 5 (AX 3 [] 6 0 3 A H fun D t H => ?_)
  refine AN 1 [(7, .bool (p0.BE != 4))] H fun D H => Ac 7 H M (fun B M H => ?_) fun B M H => ?_
  ·refine CE 4 ?_
   obtain ⟨x29, X, M⟩ := bind_some M
   obtain ⟨v1, h1, R, rfl, E⟩ := F9 (av := [.ptr (some (bp0, 0))]) X (A.cut 4)
   replace A := A.P5 E
   refine BC 2 [(8, .ptr (some (bp0, 0)))] 10 R H fun D t H => ?_
   obtain ⟨⟨x30, x31⟩, X, M⟩ := bind_some M
   obtain ⟨v1, h2, R, r2, rfl, E⟩ := Br (av := [.ptr (some (bp0, 0)), Ai 3, Ai x29]) X (A.cut 4)
   replace A := A.P5 E
   refine KB R H fun D t H => ?_
   refine at_nil ?_
   exact .inl ⟨_, _, _, _, _, _, _, _, _, _, _, _, _, _, _, _, _, _, _, _, _, _, _, _, _, _, _, _, rfl, BB M, _, H.ls, A⟩
  exact EJ (.inl ⟨_, _, _, _, _, _, _, _, _, _, _, _, _, _, _, _, _, _, _, _, _, _, _, _, _, _, _, _, rfl, BB M, rp0_23, H.ls, A⟩)
 clear O
 clear A
 intro e D W I
 rcases I with ⟨x1, x2, x3, x4, x5, x6, x7, x8, x9, x10, x11, x12, x13, x14, x15, x16, x17, x18, x19, x20, x21, x22, x23, x24, x25, x26, x27, x28, rfl, rfl, r1, H, A⟩ | K
 ·show AW _ _ _ _ _ _ _
  refine AH 5 (AX 3 [] 15 0 7 A H fun D t H => ?_)
  refine AN 1 [(2, Ai x7)] H fun D H => AZ ?_
  obtain ⟨rfl, rfl, rfl⟩ := EG M
  exact ⟨.inl rfl, _, rH H, _, rfl, A⟩
 exact K.elim
def By (p0 : AV) : Option (Int × Int) :=
 some (p0.BG, p0.BH)
theorem EI {p0 bp0 bp0_2 bp0_2_0 rp0_23 q0 q1} (M : By p0 = some (q0, q1)) (A : HH g h [.obj bp0 (.cells none 2 [Ai p0.Aw.Head, Ai p0.Aw.Name, .ptr (some (bp0_2, 0)), Ai p0.BE, Ai p0.BQ, Ai p0.at_, .bool p0.BD, Ai p0.BG, Ai p0.BH, .str p0.AD.Name, .str p0.AD.A9, Ab p0.AD.Kind, Ai p0.AD.Mode, Ai p0.AD.Cz, Ai p0.AD.Ct, Ai p0.AD.Bg, Ai p0.AD.Time, .str p0.AD.Ah, .str p0.AD.Aj, Ai p0.AD.Au, Ai p0.AD.As, Ai p0.AD.Form, Ai p0.BI, AP rp0_23 p0.DR.length, .slice none 0, .str p0.AM.Ba, .str p0.AM.Be, .bool p0.AM.Ag, .bool p0.AM.Af, .bool p0.AM.Ak, .slice none 0]), .obj bp0_2 (.cells none 2 [.chan (some bp0_2_0), .str p0.Az.Bz, Ai p0.Az.Ar, .bool p0.Az.AY]), .obj bp0_2_0 (.chan 64 (AQ eS p0.Az.BL)), .AQ rp0_23 5 (AQ eY p0.DR)] F) (hc : BP (cfg.still 91) av = [.ptr (some (bp0, 0))] := by kernel_rfl) : ∃ v Q, BZ cfg g h 91 av v Q ∧ v = .tuple [Ai q0, Ai q1] ∧ HH g Q [.obj bp0 (.cells none 2 [Ai p0.Aw.Head, Ai p0.Aw.Name, .ptr (some (bp0_2, 0)), Ai p0.BE, Ai p0.BQ, Ai p0.at_, .bool p0.BD, Ai p0.BG, Ai p0.BH, .str p0.AD.Name, .str p0.AD.A9, Ab p0.AD.Kind, Ai p0.AD.Mode, Ai p0.AD.Cz, Ai p0.AD.Ct, Ai p0.AD.Bg, Ai p0.AD.Time, .str p0.AD.Ah, .str p0.AD.Aj, Ai p0.AD.Au, Ai p0.AD.As, Ai p0.AD.Form, Ai p0.BI, AP rp0_23 p0.DR.length, .slice none 0, .str p0.AM.Ba, .str p0.AM.Be, .bool p0.AM.Ag, .bool p0.AM.Af, .bool p0.AM.Ak, .slice none 0]), .obj bp0_2 (.cells none 2 [.chan (some bp0_2_0), .str p0.Az.Bz, Ai p0.Az.Ar, .bool p0.Az.AY]), .obj bp0_2_0 (.chan 64 (AQ eS p0.Az.BL)), .AQ rp0_23 5 (AQ eY p0.DR)] F := by
 refine EE 12 [.tmp 2, .tmp 3] hc ?_
 clear hc
 unfold By at M
 refine bg 12 [(0, .ptr (some (bp0, 0)))] fun D H => ?_
 refine AH 2 (AN 2 [] H fun D H => AS (Ga 1 10 ?_))
 refine AX 3 [] 7 0 7 A H fun D t H => ?_
 refine AX 3 [] 11 0 8 A H fun D t H => ?_
 refine AN 2 [(2, Ai p0.BG), (3, Ai p0.BH)] H fun D H => AZ ?_
 obtain ⟨rfl, rfl⟩ := B4 M
 exact ⟨.inl rfl, _, rH H, rfl, A⟩
end
end Go.Av.L
