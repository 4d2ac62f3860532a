/-
 A part.
-/
import Derived.Test.YtlljeoogceblmaaGreatDoorKCfg
import Derived.Test.YtlljeoogceblmaaGreatDoorK0
import Derived.Test.YtlljeoogceblmaaGreatDoorK1
namespace Go.Av.L
open Go.Av Go.Lib
open IntKind (i64 i8)
set_option maxRecDepth 10000
set_option linter.unusedVariables false
set_option linter.unusedSimpArgs false
variable {g : Gd} {h : AF} {F : List Ck} {av : List AB}
noncomputable section
def HF (p0 : AG) (p1 : Int) : Option (AL × (List AA)) :=
 Cl (decide (-9223372036854775808 ≤ p0.Ct ∧ p0.Ct ≤ 9223372036854775807)) <| (ES ([103, 105, 100] : UV) (Lib.itoa p0.Ct) p0 (⟨([] : UV), ([] : UV), p0.Kind, p0.Mode, (0 : Int), (0 : Int), (0 : Int), (0 : Int), ([] : UV), ([] : UV), p0.Au, p0.As, (2 : Int)⟩ : AL) ([] : List AA)).bind fun (x1, x2) => (D5 ([103, 110, 97, 109, 101] : UV) p0.Aj p0 x1 x2).bind fun (x3, x4) => (Dy ([108, 105, 110, 107, 112, 97, 116, 104] : UV) p0.A9 p0 x3 x4).bind fun (x5, x6) => (I9 p0.Time).bind fun (x7, x8) => (Dz ([109, 116, 105, 109, 101] : UV) x7 p0 x5 x6).bind fun (x9, x10) => (D4 ([112, 97, 116, 104] : UV) p0.Name p0 x9 x10).bind fun (x11, x12) => Cl (decide (-9223372036854775808 ≤ p1 ∧ p1 ≤ 9223372036854775807)) <| (D8 ([115, 105, 122, 101] : UV) (Lib.itoa p1) p1 x11 x12).bind fun (x13, x14) => Cl (decide (-9223372036854775808 ≤ p0.Cz ∧ p0.Cz ≤ 9223372036854775807)) <| (D6 ([117, 105, 100] : UV) (Lib.itoa p0.Cz) p0 x13 x14).bind fun (x15, x16) => (D7 ([117, 110, 97, 109, 101] : UV) p0.Ah p0 x15 x16).bind fun (x17, x18) => some (x17, x18)
theorem Kq {p0 p1 q0 q1} (M : HF p0 p1 = some (q0, q1)) (A : HH g h [] F) (hc : BP (cfg.still 66) av = [.agg (AE p0), Ai p1] := by kernel_rfl) : ∃ v Q, BZ cfg g h 66 av v Q ∧ ∃ (EE : Option Nat), v = .tuple [.agg (AK q0), AP EE q1.length] ∧ HH g Q [.AQ EE 117 (AQ AJ q1)] F := by
 refine EE 70 [.cell 4 35, .tmp 5] hc ?_
 clear hc
 unfold HF at M
 refine bg 70 [(0, .agg (AE p0)), (1, Ai p1)] fun D H => ?_
 refine AH 4 ?_
 obtain ⟨h1, e1, A⟩ := A.pu (.cells none 2 (AE p0))
 refine BU 2 (.ptr (some (h.size, 0))) e1 H fun D t H => ?_
 obtain ⟨h2, e2, A⟩ := A.pu (.cells none 2 [Ai p1])
 refine BU 3 (.ptr (some (h1.size, 0))) e2 H fun D t H => ?_
 obtain ⟨G, e3, A⟩ := A.pu (.cells none 2 [.str ([] : UV), .str ([] : UV), Ab 0, Ai 0, Ai 0, Ai 0, Ai 0, Ai 0, .str ([] : UV), .str ([] : UV), Ai 0, Ai 0, Ai 0])
 refine BU 4 (.ptr (some (h2.size, 0))) e3 H fun D t H => ?_
 refine B5 1 [] 11 H fun D H => AX 1 [] 12 2 2 A H fun D t H => ?_
 refine AX 1 [] 14 2 3 A H fun D t H => ?_
 refine AX 1 [] 16 2 8 A H fun D t H => ?_
 refine AX 1 [] 18 2 9 A H fun D t H => ?_
 obtain ⟨h4, e4, A⟩ := A.pu (.cells none 2 [.str ([] : UV), .str ([] : UV), Ab 0, Ai 0, Ai 0, Ai 0, Ai 0, Ai 0, .str ([] : UV), .str ([] : UV), Ai 0, Ai 0, Ai 0])
 refine K2 1 [(19, .agg [.str ([] : UV), .str ([] : UV), Ab p0.Kind, Ai p0.Mode, Ai (0 : Int), Ai (0 : Int), Ai (0 : Int), Ai (0 : Int), .str ([] : UV), .str ([] : UV), Ai p0.Au, Ai p0.As, Ai (2 : Int)])] 6 (.ptr (some (G.size, 0))) e4 H fun D t H => ?_
 obtain ⟨I, X, E⟩ := A.st 0 rfl (o := 0) (new := [.str ([] : UV), .str ([] : UV), Ab p0.Kind, Ai p0.Mode, Ai 0, Ai 0, Ai 0, Ai 0, .str ([] : UV), .str ([] : UV), Ai p0.Au, Ai p0.As, Ai 2]) (ds := [.str ([] : UV), .str ([] : UV), Ab p0.Kind, Ai p0.Mode, Ai 0, Ai 0, Ai 0, Ai 0, .str ([] : UV), .str ([] : UV), Ai p0.Au, Ai p0.As, Ai 2]) (Nat.le_of_ble_eq_true rfl) rfl rfl
 replace A : HH g I [.obj G.size (.cells none 2 [.str ([] : UV), .str ([] : UV), Ab p0.Kind, Ai p0.Mode, Ai 0, Ai 0, Ai 0, Ai 0, .str ([] : UV), .str ([] : UV), Ai p0.Au, Ai p0.As, Ai 2]), .obj h2.size (.cells none 2 [.str ([] : UV), .str ([] : UV), Ab 0, Ai 0, Ai 0, Ai 0, Ai 0, Ai 0, .str ([] : UV), .str ([] : UV), Ai 0, Ai 0, Ai 0]), .obj h1.size (.cells none 2 [Ai p1]), .obj h.size (.cells none 2 (AE p0))] F := E
 refine C9 X H fun D t H => ?_
 refine Bs 1 id ?_
 obtain ⟨h6, e5, A⟩ := A.pu (.cells none 2 [.slice none 0])
 refine BU 7 (.ptr (some (I.size, 0))) e5 H fun D t H => ?_
 refine Bs 2 id (B5 2 [(8, .func (.func 120) [] [.ptr (some (G.size, 0)), .ptr (some (I.size, 0))])] 6 H fun D H => AX 2 [(21, .func (.func 120) [] [.ptr (some (G.size, 0)), .ptr (some (I.size, 0))])] 23 4 5 A H fun D t H => ?_)
 obtain ⟨B, M⟩ := Aq M
 refine Ae 24 (.str (Lib.itoa p0.Ct)) h6 H (fun D => Steps.call (by kernel_rfl) (J7 (C := cfg) (f := 121) (by kernel_rfl) (l := exts) rfl (by kernel_rfl) B)) fun D t H => ?_
 replace A : HH g h6 [.AQ none 117 (AQ AJ ([] : List AA)), .obj I.size (.cells none 2 [AP none (([] : List AA).length)]), _, _, _, _] F := A.Hv 117
 replace A := A.k6 5 2 1 0 3 4
 obtain ⟨⟨x1, x2⟩, X, M⟩ := bind_some M
 obtain ⟨v1, h7, R, r1, rfl, E⟩ := IM (av := [.str ([103, 105, 100] : UV), .str (Lib.itoa p0.Ct), .func (.func 122) [] [.ptr (some (h.size, 0))], .ptr (some (G.size, 0)), .ptr (some (I.size, 0))]) X (A.cut 4)
 replace A := A.P5 E
 refine El 1 [] R H fun D t H => ?_
 refine Bs 5 id (AX 2 [(27, .func (.func 120) [] [.ptr (some (G.size, 0)), .ptr (some (I.size, 0))])] 29 0 7 A H fun D t H => ?_)
 obtain ⟨⟨x3, x4⟩, X, M⟩ := bind_some M
 obtain ⟨v1, h8, R, r2, rfl, E⟩ := Hj (av := [.str ([103, 110, 97, 109, 101] : UV), .str p0.Aj, .func (.func 123) [] [.ptr (some (h.size, 0))], .ptr (some (G.size, 0)), .ptr (some (I.size, 0))]) X (A.cut 4)
 replace A := A.P5 E
 refine El 1 [] R H fun D t H => ?_
 refine Bs 5 id (AX 2 [(32, .func (.func 120) [] [.ptr (some (G.size, 0)), .ptr (some (I.size, 0))])] 34 0 1 A H fun D t H => ?_)
 obtain ⟨⟨x5, x6⟩, X, M⟩ := bind_some M
 obtain ⟨v1, h9, R, r3, rfl, E⟩ := HV (av := [.str ([108, 105, 110, 107, 112, 97, 116, 104] : UV), .str p0.A9, .func (.func 124) [] [.ptr (some (h.size, 0))], .ptr (some (G.size, 0)), .ptr (some (I.size, 0))]) X (A.cut 4)
 replace A := A.P5 E
 refine El 1 [] R H fun D t H => ?_
 refine Bs 8 id (B0 1 [] 39 _ _ H (fun D => .of (BX (by kernel_rfl) (A.Ef 0 rfl (o := 10) (n := 2) ⟨Nat.le_of_ble_eq_true rfl, rfl⟩))) fun D t H => ?_)
 obtain ⟨⟨x7, x8⟩, X, M⟩ := bind_some M
 obtain ⟨v1, h10, R, rfl, E⟩ := Oa (av := [.agg [Ai p0.Time.F8, Ai p0.Time.EY]]) X (A.cut 0)
 replace A := A.Dx E
 refine BM 40 R H fun D t H => ?_
 refine B5 5 [(9, .str x7)] 4 H fun D H => ?_
 obtain ⟨⟨x9, x10⟩, X, M⟩ := bind_some M
 obtain ⟨v1, h11, R, r4, rfl, E⟩ := Hc (av := [.str ([109, 116, 105, 109, 101] : UV), .str x7, .func (.func 126) [] [.ptr (some (h.size, 0))], .ptr (some (G.size, 0)), .ptr (some (I.size, 0))]) X (A.cut 4)
 replace A := A.P5 E
 refine El 3 [] R H fun D t H => ?_
 refine Bs 5 id (AX 2 [(47, .func (.func 120) [] [.ptr (some (G.size, 0)), .ptr (some (I.size, 0))])] 49 0 0 A H fun D t H => ?_)
 obtain ⟨⟨x11, x12⟩, X, M⟩ := bind_some M
 obtain ⟨v1, h12, R, r5, rfl, E⟩ := HP (av := [.str ([112, 97, 116, 104] : UV), .str p0.Name, .func (.func 127) [] [.ptr (some (h.size, 0))], .ptr (some (G.size, 0)), .ptr (some (I.size, 0))]) X (A.cut 4)
 replace A := A.P5 E
 refine El 1 [] R H fun D t H => ?_
 refine Bs 5 id (AX 1 [(52, .func (.func 120) [] [.ptr (some (G.size, 0)), .ptr (some (I.size, 0))])] 53 5 0 A H fun D t H => ?_)
 obtain ⟨B, M⟩ := Aq M
 refine Ae 54 (.str (Lib.itoa p1)) h12 H (fun D => Steps.call (by kernel_rfl) (J7 (C := cfg) (f := 121) (by kernel_rfl) (l := exts) rfl (by kernel_rfl) B)) fun D t H => ?_
 replace A := A.k6 5 1 2 3 0 4
 obtain ⟨⟨x13, x14⟩, X, M⟩ := bind_some M
 obtain ⟨v1, h13, R, r6, rfl, E⟩ := HO (av := [.str ([115, 105, 122, 101] : UV), .str (Lib.itoa p1), .func (.func 128) [] [.ptr (some (h1.size, 0))], .ptr (some (G.size, 0)), .ptr (some (I.size, 0))]) X (A.cut 4)
 replace A := A.P5 E
 refine El 1 [] R H fun D t H => ?_
 refine Bs 6 id (AX 2 [(57, .func (.func 120) [] [.ptr (some (G.size, 0)), .ptr (some (I.size, 0))])] 59 4 4 A H fun D t H => ?_)
 obtain ⟨B, M⟩ := Aq M
 refine Ae 60 (.str (Lib.itoa p0.Cz)) h13 H (fun D => Steps.call (by kernel_rfl) (J7 (C := cfg) (f := 121) (by kernel_rfl) (l := exts) rfl (by kernel_rfl) B)) fun D t H => ?_
 replace A := A.k6 4 1 2 3 0 5
 obtain ⟨⟨x15, x16⟩, X, M⟩ := bind_some M
 obtain ⟨v1, h14, R, r7, rfl, E⟩ := He (av := [.str ([117, 105, 100] : UV), .str (Lib.itoa p0.Cz), .func (.func 129) [] [.ptr (some (h.size, 0))], .ptr (some (G.size, 0)), .ptr (some (I.size, 0))]) X (A.cut 4)
 replace A := A.P5 E
 refine El 1 [] R H fun D t H => ?_
 refine Bs 5 id (AX 2 [(63, .func (.func 120) [] [.ptr (some (G.size, 0)), .ptr (some (I.size, 0))])] 65 0 6 A H fun D t H => ?_)
 obtain ⟨⟨x17, x18⟩, X, M⟩ := bind_some M
 obtain ⟨v1, h15, R, r8, rfl, E⟩ := HI (av := [.str ([117, 110, 97, 109, 101] : UV), .str p0.Ah, .func (.func 130) [] [.ptr (some (h.size, 0))], .ptr (some (G.size, 0)), .ptr (some (I.size, 0))]) X (A.cut 4)
 replace A := A.P5 E
 refine El 1 [] R H fun D t H => ?_
 refine Bq id (AS (J2 13 4 [(0, []), (1, []), (2, [1]), (3, [])] ?_))
 refine C3 68 (.agg (AK x17)) h15 [(0, G.size)] (g.CD) H (fun D => .of (BX (by kernel_rfl) (A.la 1 0 13))) (fun D H => ?_)
 refine C3 69 (AP r8 x18.length) h15 [(1, I.size), (0, G.size)] (g.CD) H (fun D => .of (Ib (by kernel_rfl) (A.l1 2 0))) (fun D H => ?_)
 replace A := A.k6 5 0 1 2 3 4
 have E := A.Hw 1 (pr := [I.size]) (.cons 2 rfl (by simp [Ck.ids]) .nil)
 obtain ⟨h16, X, E⟩ := E.st 0 rfl (o := 0) (new := (AK x17)) (ds := (AK x17)) (Nat.le_of_ble_eq_true rfl) rfl rfl
 replace A := A.Y6 E
 refine Kw (.tuple []) h16 [(1, I.size), (0, G.size)] (I.size :: g.CD) H (fun D => .of (Nj (by kernel_rfl) (LK X rfl))) (fun D H => ?_)
 refine AN 1 [(5, AP r8 x18.length)] H fun D H => AZ ?_
 obtain ⟨rfl, rfl⟩ := B4 M
 refine ⟨.inl rfl, .tuple [.agg (AK x17), AP r8 x18.length], Dm (.cell (rT H) (Dn (by kernel_rfl) (by kernel_rfl) (A.la 0 0 13)) (.tmp (rT H) .nil)), ?_⟩
 replace A := A.k1 4
 exact ⟨r8, rfl, A⟩
def F5 (p0 : AG) (p1 : Int) : Option ((List AA) × Int) :=
 (GW p0 p1).bind fun x1 => Ao (x1 != 0) (some (([] : List AA), x1)) ((HF p0 p1).bind fun (x2, x3) => Cl (Hs 32 (x3.length + p0.Extra.length)) <| Cl (Nc ((x3 ++ p0.Extra).map fun x => ((x.Key, x.Value) : I4))) <| Cl (decide ((x3 ++ p0.Extra).length ≤ 1099511627776)) <| some (((Fj ((x3 ++ p0.Extra).map fun x => ((x.Key, x.Value) : I4))).map fun p => (⟨p.1, p.2⟩ : AA)), (0 : Int)))
theorem JY {p0 p1 q0 q1} (M : F5 p0 p1 = some (q0, q1)) (A : HH g h [] F) (hc : BP (cfg.still 27) av = [.agg (AE p0), Ai p1] := by kernel_rfl) : ∃ v Q, BZ cfg g h 27 av v Q ∧ ∃ (rq0 : Option Nat), v = .tuple [AP rq0 q0.length, Ai q1] ∧ HH g Q [.AQ rq0 117 (AQ AJ q0)] F := by
 refine EE 28 [.tmp 4, .tmp 5] hc ?_
 clear hc
 unfold F5 at M
 refine bg 28 [(0, .agg (AE p0)), (1, Ai p1)] fun D H => ?_
 refine AH 3 ?_
 obtain ⟨h1, e1, A⟩ := A.pu (.cells none 2 (AE p0))
 refine BU 2 (.ptr (some (h.size, 0))) e1 H fun D t H => ?_
 refine AN 2 [] H fun D H => AS (AH 4 (Ae 9 _ _ H (fun D => .of (BX (by kernel_rfl) (A.Ef 0 rfl (o := 0) (n := 14) ⟨Nat.le_of_ble_eq_true rfl, rfl⟩))) fun D t H => ?_))
 obtain ⟨x1, X, M⟩ := bind_some M
 obtain ⟨v1, h2, R, rfl, E⟩ := Jv (av := [.agg (AE p0), Ai p1]) X (A.cut 0)
 replace A : HH g h2 [.obj h.size (.cells none 2 (AE p0))] F := A.Eg (n := 0) E
 refine BC 1 [] 11 R H fun D t H => ?_
 refine B5 1 [(6, Ai x1)] 2 H fun D H => AN 2 [(13, .bool (x1 != 0))] H fun D H => Ac 13 H M (fun B M H => ?_) fun B M H => ?_
 ·refine AH 3 (AN 3 [(4, .slice none 0), (5, Ai x1)] H fun D H => AZ ?_)
  obtain ⟨rfl, rfl⟩ := B4 M
  refine ⟨.inl rfl, .tuple [.slice none 0, Ai x1], rH H, ?_⟩
  replace A : HH g h2 [.AQ none 117 (AQ AJ ([] : List AA)), _] F := A.Hv 117
  replace A := A.d1
  exact ⟨none, rfl, A⟩
 refine B3 9 id (Ae 16 _ _ H (fun D => .of (BX (by kernel_rfl) (A.Ef 0 rfl (o := 0) (n := 14) ⟨Nat.le_of_ble_eq_true rfl, rfl⟩))) fun D t H => ?_)
 obtain ⟨⟨x2, x3⟩, X, M⟩ := bind_some M
 obtain ⟨v1, G, R, rqw3, rfl, E⟩ := Kq (av := [.agg (AE p0), Ai p1]) X (A.cut 0)
 replace A := A.VA E
 refine BC 1 [] 18 R H fun D t H => ?_
 obtain ⟨h4, e2, A⟩ := A.pu (.cells none 2 [.str ([] : UV), .str ([] : UV), Ab 0, Ai 0, Ai 0, Ai 0, Ai 0, Ai 0, .str ([] : UV), .str ([] : UV), Ai 0, Ai 0, Ai 0])
 refine K2 3 [(19, .agg (AK x2)), (20, AP rqw3 x3.length)] 7 (.ptr (some (G.size, 0))) e2 H fun D t H => ?_
 obtain ⟨I, X, A⟩ := A.s0 0 (AK x2) [_, _, _, _, _, _, _, _, _, _, _, _, _]
 refine C9 X H fun D t H => ?_
 refine B5 1 [(8, AP rqw3 x3.length)] 5 H fun D H => AX 2 [(21, AP rqw3 x3.length)] 23 2 12 A H fun D t H => ?_
 obtain ⟨B, M⟩ := Aq M
 obtain ⟨r1, h6, X, E⟩ := HH.FN BJ (by decide) A 1 (xs := x3) (ys := p0.Extra) rfl (XC BJ _ p0.Extra) (BJ.BP _) rfl B
 replace A : HH g h6 [_, .AQ r1 117 (AQ AJ (x3 ++ p0.Extra)), _] F := E
 refine Ae 24 _ _ H (fun D => .of (DU (s := CF rqw3 x3.length) (by kernel_rfl) X)) fun D t H => ?_
 refine Bv 1 [(8, AP r1 ((x3 ++ p0.Extra).length))] H fun D H => Bs 2 id ?_
 replace A := A.k3 1 0 2
 have E := A.cut 1
 obtain ⟨B, M⟩ := Aq M
 obtain ⟨hb2, M⟩ := Aq M
 obtain ⟨h7, R, E⟩ := HH.YN (C := cfg) (f := 67) (c := 68) (t := 117) (e := AJ) (xs := (x3 ++ p0.Extra)) (fw := fun x => ((x.Key, x.Value) : I4)) (bw := fun p => (⟨p.1, p.2⟩ : AA)) (fun _ => rfl) (fun _ => rfl) E (by kernel_rfl) (l := exts) rfl (by kernel_rfl) B hb2
 have hl1 : (((Fj ((x3 ++ p0.Extra).map fun x => ((x.Key, x.Value) : I4))).map fun p => (⟨p.1, p.2⟩ : AA))).length = (x3 ++ p0.Extra).length := Oe _ _ _
 have el : AP r1 (x3 ++ p0.Extra).length = AP r1 (((Fj ((x3 ++ p0.Extra).map fun x => ((x.Key, x.Value) : I4))).map fun p => (⟨p.1, p.2⟩ : AA))).length := congrArg _ (Oe _ _ _).symm
 rw [el] at R
 try rw [el] at H
 replace A : HH g h7 [.AQ r1 117 (AQ AJ ((Fj ((x3 ++ p0.Extra).map fun x => ((x.Key, x.Value) : I4))).map fun p => (⟨p.1, p.2⟩ : AA))), _, _] F := A.Eg (n := 1) E
 refine El 1 [] R H fun D t H => ?_
 refine Bs 3 id (AN 3 [(4, AP r1 (((Fj ((x3 ++ p0.Extra).map fun x => ((x.Key, x.Value) : I4))).map fun p => (⟨p.1, p.2⟩ : AA)).length)), (5, Ai 0)] H fun D H => AZ ?_)
 obtain ⟨rfl, rfl⟩ := B4 M
 refine ⟨.inl rfl, .tuple [AP r1 (((Fj ((x3 ++ p0.Extra).map fun x => ((x.Key, x.Value) : I4))).map fun p => (⟨p.1, p.2⟩ : AA)).length), Ai 0], rH H, ?_⟩
 replace A := A.d1
 exact ⟨r1, rfl, A⟩
def GY (p0 : List AA) (s : Int × Int) : Option ((Int × Int) ⊕ ((Int))) :=
 match s with
 | (x1, x2) => Ao (decide (x2 < (p0.length : Int))) ((Ii p0 x2).bind fun x4 => none) (some (.inr x1))
def Gc (p0 : List AA) (s : Int) : Option ((Int) ⊕ ((Unit))) :=
 match s with
 | x5 => Ao (decide (x5 < (p0.length : Int))) ((Ii p0 x5).bind fun x6 => none) (some (.inr ()))
def Ep (p0 : List AA) : Option ((List UInt8) × Int) :=
 Ao (decide ((p0.length : Int) > 256)) (some (([] : UV), (8 : Int))) ((loop (GY p0) ((0 : Int), (0 : Int))).bind fun x3 => Ao (decide (x3 > 65536)) (some (([] : UV), (12 : Int))) ((loop (Gc p0) (0 : Int)).bind fun _ => some (([] : UV), (0 : Int))))
theorem Hf {p0 rp0 q0 q1} (M : Ep p0 = some (q0, q1)) (A : HH g h [.AQ rp0 117 (AQ AJ p0)] F) (hc : BP (cfg.still 98) av = [AP rp0 p0.length] := by kernel_rfl) : ∃ v Q, BZ cfg g h 98 av v Q ∧ v = .tuple [.str q0, Ai q1] ∧ HH g Q [.AQ rp0 117 (AQ AJ p0)] F := by
 refine EE 53 [.tmp 2, .tmp 3] hc ?_
 clear hc
 unfold Ep at M
 refine bg 53 [(0, AP rp0 p0.length)] fun D H => ?_
 refine AH 2 (AN 2 [] H fun D H => AS (AH 3 (AN 3 [(12, .bool (decide ((p0.length : Int) > 256)))] H fun D H => Ac 12 H M (fun B M H => ?_) fun B M H => ?_)))
 ·refine AH 2 (AN 2 [(2, .str ([] : UV)), (3, Ai 8)] H fun D H => AZ ?_)
  obtain ⟨rfl, rfl⟩ := B4 M
  exact ⟨.inl rfl, _, rH H, rfl, A⟩
 refine B3 1 id (AN 1 [(4, Ai 0)] H fun D H => AS (AH 3 (AN 3 [(13, AP rp0 p0.length), (14, Ai (p0.length : Int)), (15, Ai 0)] H fun D H => Aa (id := 0) (by kernel_rfl) ?_)))
 obtain ⟨o1, O, M⟩ := bind_some M
 refine Bb (Q' := fun e N Q => (∃ x3, e = .exit 0 ∧ x3 = o1 ∧ Has N 53 [(0, AP rp0 p0.length), (4, Ai x3)] ∧ HH g Q [.AQ rp0 117 (AQ AJ p0)] F) ∨ False) ?_ ?_
 ·refine C2 (by kernel_rfl) (fun (s : Int × Int) N Q => ∃ x1 x2, (x1, x2) = s ∧ Has N 53 [(0, AP rp0 p0.length), (4, Ai x1), (13, AP rp0 p0.length), (14, Ai (p0.length : Int)), (15, Ai x2)] ∧ HH g Q [.AQ rp0 117 (AQ AJ p0)] F) O ⟨_, _, rfl, H.ls, A⟩ ?_
  clear O M H A
  intro s q D h1 hI M
  obtain ⟨x1, x2, rfl, H, A⟩ := hI
  unfold GY at M
  refine AH 1 (AN 1 [(16, .bool (decide (x2 < (p0.length : Int))))] H fun D H => AS (Ac 16 H M (fun B M H => ?_) fun B M H => ?_))
  ·refine CT id (AS (Aa (id := 1) (by kernel_rfl) ?_))
   refine AH 4 ?_
   obtain ⟨x4, X, M⟩ := bind_some M
   obtain ⟨i1, er1, _, X, U⟩ := HH.Ra BJ (by decide) A 0 (xs := p0) rfl X
   refine Ae 17 (.ptr (some (i1, x2.toNat * 2))) h1 H (fun D => .of (G1 (s := CF rp0 p0.length) (by kernel_rfl) X)) fun D t H => ?_
   refine Ae 18 _ _ H (fun D => .of (BX (by kernel_rfl) (IH BJ (HH.row A 0 rfl er1) U 0 2 (Nat.le_of_ble_eq_true rfl)))) fun D t H => ?_
   obtain ⟨h2, e1, A⟩ := A.pu (.cells none 2 [.str ([] : UV), .str ([] : UV)])
   refine BU 6 (.ptr (some (h1.size, 0))) e1 H fun D t H => ?_
   obtain ⟨G, X, A⟩ := A.s0 0 [.str x4.Key, .str x4.Value] [_, _]
   refine C9 X H fun D t H => ?_
   refine Bq id (AS (AH 3 (Ae 19 _ _ H (fun D => .of (BX (by kernel_rfl) (A.Ef 0 rfl (o := 0) (n := 2) ⟨Nat.le_of_ble_eq_true rfl, rfl⟩))) fun D t H => ?_)))
   cases M
  refine Bp (i := 0) (by kernel_rfl) ?_
  exact nr M fun e => .inl ⟨_, rfl, e, H.ls, A⟩
 clear O
 clear A
 intro e D h4 hQ
 rcases hQ with ⟨x3, rfl, rfl, H, A⟩ | hF
 ·show AW _ _ _ _ _ _ _
  refine AS (AH 2 (AN 2 [(29, .bool (decide (x3 > 65536)))] H fun D H => Ac 29 H M (fun B M H => ?_) fun B M H => ?_))
  ·refine AH 2 (AN 2 [(2, .str ([] : UV)), (3, Ai 12)] H fun D H => AZ ?_)
   obtain ⟨rfl, rfl⟩ := B4 M
   exact ⟨.inl rfl, _, rH H, rfl, A⟩
  refine B3 1 id (AN 1 [(7, .slice none 0)] H fun D H => AS (AH 3 (AN 3 [(30, AP rp0 p0.length), (31, Ai (p0.length : Int)), (32, Ai 0)] H fun D H => Aa (id := 2) (by kernel_rfl) ?_)))
  obtain ⟨o2, O, M⟩ := bind_some M
  refine Bb (Q' := fun e N Q => (e = .exit 2 ∧ () = o2 ∧ Has N 53 [(7, .slice none 0)] ∧ HH g Q [.AQ rp0 117 (AQ AJ p0)] F) ∨ False) ?_ ?_
  ·refine C2 (by kernel_rfl) (fun (s : Int) N Q => ∃ x5, x5 = s ∧ Has N 53 [(7, .slice none 0), (30, AP rp0 p0.length), (31, Ai (p0.length : Int)), (32, Ai x5)] ∧ HH g Q [.AQ rp0 117 (AQ AJ p0)] F) O ⟨_, rfl, H.ls, A⟩ ?_
   clear O M H A
   intro s q D I hI M
   obtain ⟨x5, rfl, H, A⟩ := hI
   unfold Gc at M
   refine AH 1 (AN 1 [(33, .bool (decide (x5 < (p0.length : Int))))] H fun D H => AS (Ac 33 H M (fun B M H => ?_) fun B M H => ?_))
   ·refine CT id (AS (Aa (id := 3) (by kernel_rfl) ?_))
    refine AH 4 ?_
    obtain ⟨x6, X, M⟩ := bind_some M
    obtain ⟨i2, er2, _, X, hq2⟩ := HH.Ra BJ (by decide) A 0 (xs := p0) rfl X
    refine Ae 34 (.ptr (some (i2, x5.toNat * 2))) I H (fun D => .of (G1 (s := CF rp0 p0.length) (by kernel_rfl) X)) fun D t H => ?_
    refine Ae 35 _ _ H (fun D => .of (BX (by kernel_rfl) (IH BJ (HH.row A 0 rfl er2) hq2 0 2 (Nat.le_of_ble_eq_true rfl)))) fun D t H => ?_
    obtain ⟨h6, e2, A⟩ := A.pu (.cells none 2 [.str ([] : UV), .str ([] : UV)])
    refine BU 9 (.ptr (some (I.size, 0))) e2 H fun D t H => ?_
    obtain ⟨h7, X, A⟩ := A.s0 0 [.str x6.Key, .str x6.Value] [_, _]
    refine C9 X H fun D t H => ?_
    refine Bs 5 id (B0 1 [(36, .slice none 0)] 37 _ _ H (fun D => .of (BX (by kernel_rfl) (A.Ef 0 rfl (o := 0) (n := 2) ⟨Nat.le_of_ble_eq_true rfl, rfl⟩))) fun D t H => ?_)
    cases M
   refine Bp (i := 2) (by kernel_rfl) ?_
   exact nr M fun e => .inl ⟨rfl, e, H.ls, A⟩
  clear O
  clear A
  intro e D h8 hQ
  rcases hQ with ⟨rfl, rfl, H, A⟩ | hF
  ·show AW _ _ _ _ _ _ _
   refine AH 4 (AO 1 [(51, .slice none 0)] H fun D H => Ae 52 (.str ([] : UV)) h8 H (fun D => .of (X2 (by kernel_rfl))) fun D t H => ?_)
   refine AN 2 [(2, .str ([] : UV)), (3, Ai 0)] H fun D H => AZ ?_
   obtain ⟨rfl, rfl⟩ := B4 M
   exact ⟨.inl rfl, _, rH H, rfl, A⟩
  exact hF.elim
 exact hF.elim
def KQ (p0 : List UInt8) (s : Int × Int × Int) : Option ((Int × Int × Int) ⊕ ((Int × Int))) :=
 match s with
 | (x1, x2, x3) => Ao (decide (x3 < (p0.length : Int))) ((U9 p0 x3).bind fun x6 => (Ao ((decide (x3 ≥ 148)) && (decide (x3 < 156))) (some (32 : Int)) (some x6) : Option ((Int))).bind fun x7 => some (.inl (i64.wrap (x1 + (i64.wrap x7)), i64.wrap (x2 + (i64.wrap (i8.wrap x7))), i64.wrap (x3 + 1)))) (some (.inr (x1, x2)))
def H5 (p0 : List UInt8) : Option (Rm) :=
 (loop (KQ p0) ((0 : Int), (0 : Int), (0 : Int))).bind fun (x4, x5) => some (⟨x4, x5⟩ : Rm)
theorem Ls {p0 q0} (M : H5 p0 = some q0) (A : HH g h [] F) (hc : BP (cfg.still 137) av = [.str p0] := by kernel_rfl) : ∃ v Q, BZ cfg g h 137 av v Q ∧ v = .agg [Ai q0.w0, Ai q0.w1] ∧ HH g Q [] F := by
 refine EE 35 [.cell 2 194] hc ?_
 clear hc
 unfold H5 at M
 refine bg 35 [(0, .str p0)] fun D H => ?_
 refine AH 1 ?_
 obtain ⟨h1, e1, A⟩ := A.pu (.cells none 2 [Ai 0, Ai 0])
 refine BU 2 (.ptr (some (h.size, 0))) e1 H fun D t H => ?_
 refine Bs 1 id ?_
 obtain ⟨h2, e2, A⟩ := A.pu (.cells none 2 [Ai 0, Ai 0])
 refine BU 3 (.ptr (some (h1.size, 0))) e2 H fun D t H => ?_
 refine Bq id (AS (AH 3 (AN 3 [(7, Ai (p0.length : Int)), (8, Ai 0)] H fun D H => Aa (id := 0) (by kernel_rfl) ?_)))
 obtain ⟨o1, O, M⟩ := bind_some M
 refine Bb (Q' := fun e N Q => (∃ x4 x5, e = .exit 0 ∧ (x4, x5) = o1 ∧ Has N 35 [(2, .ptr (some (h.size, 0))), (3, .ptr (some (h1.size, 0)))] ∧ HH g Q [.obj h1.size (.cells none 2 [Ai x4, Ai x5]), .obj h.size (.cells none 2 [Ai 0, Ai 0])] F) ∨ False) ?_ ?_
 ·refine C2 (by kernel_rfl) (fun (s : Int × Int × Int) N Q => ∃ x1 x2 x3, (x1, x2, x3) = s ∧ Has N 35 [(0, .str p0), (2, .ptr (some (h.size, 0))), (3, .ptr (some (h1.size, 0))), (7, Ai (p0.length : Int)), (8, Ai x3)] ∧ HH g Q [.obj h1.size (.cells none 2 [Ai x1, Ai x2]), .obj h.size (.cells none 2 [Ai 0, Ai 0])] F) O ⟨_, _, _, rfl, H.ls, A⟩ ?_
  clear O M H A
  intro s q D G hI M
  obtain ⟨x1, x2, x3, rfl, H, A⟩ := hI
  unfold KQ at M
  refine AH 1 (AN 1 [(9, .bool (decide (x3 < (p0.length : Int))))] H fun D H => AS (Ac 9 H M (fun B M H => ?_) fun B M H => ?_))
  ·refine CT id (AS (Aa (id := 1) (by kernel_rfl) ?_))
   refine AH 2 (B5 2 [(4, Ai x3)] 4 H fun D H => ?_)
   obtain ⟨x6, X, M⟩ := bind_some M
   refine B0 2 [] 13 (Ab x6) G H (fun D => .of (Mf (by kernel_rfl) X)) fun D t H => ?_
   refine AN 1 [(5, Ab x6)] H fun D H => AS ?_
   obtain ⟨o2, O, M⟩ := bind_some M
   refine Bb (Q' := fun e N Q => (∃ x7, e = .normal ∧ x7 = o2 ∧ Has N 35 [(0, .str p0), (2, .ptr (some (h.size, 0))), (3, .ptr (some (h1.size, 0))), (5, Ab x7), (7, Ai (p0.length : Int)), (8, Ai x3)] ∧ HH g Q [.obj h1.size (.cells none 2 [Ai x1, Ai x2]), .obj h.size (.cells none 2 [Ai 0, Ai 0])] F) ∨ False) ?_ ?_
   ·replace M := O
    clear O
    refine AH 6 (AO 3 [(16, .bool (decide (x3 ≥ 148)))] H fun D H => Bi 3 (fun N Q => G = Q ∧ Has N 35 [(0, .str p0), (2, .ptr (some (h.size, 0))), (3, .ptr (some (h1.size, 0))), (5, Ab x6), (7, Ai (p0.length : Int)), (8, Ai x3), (19, .bool ((decide (x3 ≥ 148)) && (decide (x3 < 156))))]) ?_ ?_)
    ·cases B : (decide (x3 ≥ 148) : Bool) with
     | true =>
      replace H := H.kn 16 B
      exact AO 3 [(19, .bool (decide (x3 < 156)))] H fun D H => A8 H B
     | false =>
      replace H := H.kn 16 B
      exact AO 3 [(19, .bool false)] H fun D H => A8 H B
    intro t D Q hK
    obtain ⟨e, H⟩ := hK
    subst e
    refine Bq id (Ac 19 H M (fun B M H => ?_) fun B M H => ?_)
    ·refine CE 1 (Bv 1 [(0, .str p0), (2, .ptr (some (h.size, 0))), (3, .ptr (some (h1.size, 0))), (5, Ab 32), (7, Ai (p0.length : Int)), (8, Ai x3)] H fun D H => at_nil ?_)
     exact .inl ⟨_, rfl, BB M, H.ls, A⟩
    exact EJ (.inl ⟨_, rfl, BB M, H.ls, A⟩)
   clear O
   clear A
   intro e D h4 hQ
   rcases hQ with ⟨x7, rfl, rfl, H, A⟩ | hF
   ·show AW _ _ _ _ _ _ _
    refine AH 7 (AX 1 [] 21 0 0 A H fun D t H => ?_)
    obtain ⟨I, X, A⟩ := A.s0 0 [Ai (i64.wrap (x1 + (i64.wrap x7)))] [_, _]
    refine Bu 4 [] X H fun D t H => ?_
    refine ED 8 id (AX 1 [] 27 0 1 A H fun D t H => ?_)
    obtain ⟨h6, X, A⟩ := A.s0 1 [Ai (i64.wrap (x2 + (i64.wrap (i8.wrap x7))))] [_, _]
    refine Bu 5 [] X H fun D t H => ?_
    refine ED 2 id (Bv 2 [(0, .str p0), (2, .ptr (some (h.size, 0))), (3, .ptr (some (h1.size, 0))), (7, Ai (p0.length : Int)), (8, Ai (i64.wrap (x3 + 1)))] H fun D H => at_nil ?_)
    exact nx M ⟨_, _, _, rfl, H.ls, A⟩
   exact hF.elim
  refine Bp (i := 0) (by kernel_rfl) ?_
  exact nr M fun e => .inl ⟨_, _, rfl, e, H.ls, A⟩
 clear O
 clear A
 intro e D h7 hQ
 rcases hQ with ⟨x4, x5, rfl, rfl, H, A⟩ | hF
 ·show AW _ _ _ _ _ _ _
  refine AH 2 (Ae 34 _ _ H (fun D => .of (BX (by kernel_rfl) (A.Ef 0 rfl (o := 0) (n := 2) ⟨Nat.le_of_ble_eq_true rfl, rfl⟩))) fun D t H => ?_)
  obtain ⟨h8, X, A⟩ := A.s1 0 [Ai x4, Ai x5] [_, _]
  refine C9 X H fun D t H => ?_
  refine Bq id (AZ ?_)
  obtain rfl := BB M
  refine ⟨.inl rfl, .agg [Ai x4, Ai x5], P9 (.cell (rT H) (Dn (by kernel_rfl) (by kernel_rfl) (A.la 1 0 2)) .nil), ?_⟩
  replace A := A.d0
  exact ⟨rfl, A⟩
 exact hF.elim
def J5 (p0 : List UInt8) : Option ((List UInt8) × Int) :=
 Ao ((p0.length : Int) != 512) (some (([] : UV), (1 : Int))) ((H5 p0).bind fun x1 => (Ii ([x1.w0, x1.w1] : List Int) (0 : Int)).bind fun x2 => (Cp x2 (7 : Int)).bind fun (x3, x4) => (IX p0 none (some (148 : Int))).bind fun x5 => Cl (decide (x5.length + x3.length ≤ 9223372036854775807)) <| Cl (decide ((x5 ++ x3).length + ([32] : UV).length ≤ 9223372036854775807)) <| (IX p0 (some (156 : Int)) none).bind fun x6 => Cl (decide (((x5 ++ x3) ++ ([32] : UV)).length + x6.length ≤ 9223372036854775807)) <| some (((x5 ++ x3) ++ ([32] : UV)) ++ x6, (0 : Int)))
theorem P2 {p0 q0 q1} (M : J5 p0 = some (q0, q1)) (A : HH g h [] F) (hc : BP (cfg.still 75) av = [.str p0] := by kernel_rfl) : ∃ v Q, BZ cfg g h 75 av v Q ∧ v = .tuple [.str q0, Ai q1] ∧ HH g Q [] F := by
 refine EE 24 [.tmp 2, .tmp 3] hc ?_
 clear hc
 unfold J5 at M
 refine bg 24 [(0, .str p0)] fun D H => ?_
 refine AH 2 (AN 2 [] H fun D H => AS (AH 3 (AN 3 [(8, .bool ((p0.length : Int) != 512))] H fun D H => Ac 8 H M (fun B M H => ?_) fun B M H => ?_)))
 ·refine AH 2 (AN 2 [(2, .str ([] : UV)), (3, Ai 1)] H fun D H => AZ ?_)
  obtain ⟨rfl, rfl⟩ := B4 M
  exact ⟨.inl rfl, _, rH H, rfl, A⟩
 refine B3 9 id ?_
 obtain ⟨x1, X, M⟩ := bind_some M
 obtain ⟨v1, h1, R, rfl, E⟩ := Ls (av := [.str p0]) X (A.cut 0)
 replace A := A.Dx E
 refine BC 1 [] 11 R H fun D t H => ?_
 obtain ⟨x2, U, M⟩ := bind_some M
 refine Ae 12 (Ai x2) h1 H (fun D => .of (Rw (fun w : Int => Ai w) [x1.w0, x1.w1] (by kernel_rfl) rfl rfl U)) fun D t H => ?_
 obtain ⟨⟨x3, x4⟩, X, M⟩ := bind_some M
 obtain ⟨v1, h2, R, rfl, E⟩ := HK (av := [Ai x2, Ai 7]) X (A.cut 0)
 replace A := A.Dx E
 refine BM 13 R H fun D t H => ?_
 refine AN 5 [(4, .str x3)] H fun D H => AS (Ga 4 10 ?_)
 obtain ⟨x5, X, M⟩ := bind_some M
 refine B0 1 [] 17 (.str x5) h2 H (fun D => .of (HW (k := .i64) (k' := .i64) (lo := none) (hi := (some (148 : Int))) (by kernel_rfl) X)) fun D t H => ?_
 refine AO 1 [(18, .str x3)] H fun D H => ?_
 obtain ⟨B, M⟩ := Aq M
 refine Ae 19 (.str (x5 ++ x3)) h2 H (fun D => .of (Mp (by kernel_rfl) B)) fun D t H => ?_
 obtain ⟨B, M⟩ := Aq M
 refine Ae 20 (.str ((x5 ++ x3) ++ ([32] : UV))) h2 H (fun D => .of (Mp (by kernel_rfl) B)) fun D t H => ?_
 obtain ⟨x6, X, M⟩ := bind_some M
 refine B0 1 [] 22 (.str x6) h2 H (fun D => .of (HW (k := .i64) (k' := .i64) (lo := (some (156 : Int))) (hi := none) (by kernel_rfl) X)) fun D t H => ?_
 obtain ⟨B, M⟩ := Aq M
 refine Ae 23 (.str (((x5 ++ x3) ++ ([32] : UV)) ++ x6)) h2 H (fun D => .of (Mp (by kernel_rfl) B)) fun D t H => ?_
 refine AN 2 [(2, .str (((x5 ++ x3) ++ ([32] : UV)) ++ x6)), (3, Ai 0)] H fun D H => AZ ?_
 obtain ⟨rfl, rfl⟩ := B4 M
 exact ⟨.inl rfl, _, rH H, rfl, A⟩
def Cj (pp : Int × (List UInt8)) (s : (List UInt8)) : Option (((List UInt8)) ⊕ (Empty)) :=
 match s with
 | z1 => (DF).bind fun x4 => (Ii ([x4.w0, x4.w1, x4.w2, x4.w3, x4.w4, x4.w5, x4.w6, x4.w7, x4.w8, x4.w9, x4.SR, x4.Sj] : List Ay) pp.1).bind fun x5 => (TJ z1 x5.from_).bind fun o2 => some (.inl (putAt z1 o2 pp.2))
def Da (pp : Int × Int) (s : (List UInt8)) : Option (((List UInt8)) ⊕ (Empty)) :=
 match s with
 | z3 => (DF).bind fun x7 => (Ii ([x7.w0, x7.w1, x7.w2, x7.w3, x7.w4, x7.w5, x7.w6, x7.w7, x7.w8, x7.w9, x7.SR, x7.Sj] : List Ay) pp.1).bind fun x8 => (Cp pp.2 x8.Ar).bind fun (x9, x10) => (DF).bind fun x11 => (Ii ([x11.w0, x11.w1, x11.w2, x11.w3, x11.w4, x11.w5, x11.w6, x11.w7, x11.w8, x11.w9, x11.SR, x11.Sj] : List Ay) pp.1).bind fun x12 => (TJ z3 x12.from_).bind fun o4 => some (.inl (putAt z3 o4 x9))
theorem KV {z s : List UInt8} {o : Nat} (h : o + s.length ≤ z.length) (n : Nat) : (putAt z o s)[n]? = if o ≤ n ∧ n < o + s.length then s[n - o]? else z[n]? := by
 unfold putAt
 rw [List.take_of_length_le (l := s) (by omega)]
 have ht : (z.take o).length = o := by rw [List.length_take]; omega
 by_cases h1 : n < o
 ·rw [List.getElem?_append_left (by omega), List.getElem?_take_of_lt h1, if_neg (by omega)]
 ·rw [List.getElem?_append_right (by omega), ht]
  by_cases h2 : n < o + s.length
  ·rw [List.getElem?_append_left (by omega), if_pos (by omega)]
  ·rw [List.getElem?_append_right (by omega), List.getElem?_drop, if_neg (by omega)]
   congr 1
   omega
theorem RM {z s t : List UInt8} {i j : Nat} (h1 : i + s.length ≤ z.length) (h2 : j + t.length ≤ z.length) (hd : i + s.length ≤ j ∨ j + t.length ≤ i) : putAt (putAt z i s) j t = putAt (putAt z j t) i s := by
 have l1 := Cs (xs := z) (s := s) (o := i) (by omega)
 have l2 := Cs (xs := z) (s := t) (o := j) (by omega)
 refine List.ext_getElem? fun n => ?_
 rw [KV (by omega), KV (by omega), KV (by omega), KV (by omega)]
 by_cases a : i ≤ n ∧ n < i + s.length
 ·have c : ¬ (j ≤ n ∧ n < j + t.length) := by omega
  simp only [if_pos a, if_neg c]
 ·by_cases c : j ≤ n ∧ n < j + t.length
  ·simp only [if_neg a, if_pos c]
  ·simp only [if_neg a, if_neg c]
theorem Qd {κ : Type} {step : κ → List UInt8 → Option (List UInt8 ⊕ Empty)} {l : List κ} (F : κ → Nat) (T : κ → List UInt8) (Y : ∀ a ∈ l, ∀ z : List UInt8, z.length = 512 → step a z = some (.inl (putAt z (F a) (T a))))
  (B : ∀ a ∈ l, F a + (T a).length ≤ 512) (hd : ∀ a ∈ l, ∀ b ∈ l, a = b ∨ F a + (T a).length ≤ F b ∨ F b + (T b).length ≤ F a) : ∀ l', l'.Perm l → ∀ z : List UInt8, z.length = 512 → CZ step l' z = CZ step l z := by
 refine K5 (fun z : List UInt8 => z.length = 512) (fun a K z z' J e => ?_) fun a K b Z z J => ?_
 ·rw [Y a K z J] at e
  have := Sum.inl.inj (Option.some.inj e)
  rw [← this, Cs (by have := B a K; omega)]
  exact J
 ·have n1 : (putAt z (F a) (T a)).length = 512 := by rw [Cs (by have := B a K; omega)]; exact J
  have n2 : (putAt z (F b) (T b)).length = 512 := by rw [Cs (by have := B b Z; omega)]; exact J
  unfold RQ
  rw [Y a K z J, Y b Z z J]
  dsimp only
  rw [Y b Z _ n1, Y a K _ n2]
  rcases hd a K b Z with rfl | h
  ·rfl
  ·rw [RM (by have := B a K; omega) (by have := B b Z; omega) h]
def XR (k : Int) : Nat := if k = 0 then 0 else if k = 11 then 345 else if k = 6 then 157 else if k = 7 then 265 else 297
theorem Qj {z : List UInt8} (J : z.length = 512) {o : Nat} (O : o ≤ 512) : TJ z (o : Int) = some o := by
 unfold TJ
 rw [if_pos ⟨by omega, by omega⟩, Int.toNat_natCast]
theorem MY {a : Int × List UInt8} (h : a.1 = 0 ∨ a.1 = 11 ∨ a.1 = 6 ∨ a.1 = 7 ∨ a.1 = 8) {z : List UInt8} (J : z.length = 512) : Cj a z = some (.inl (putAt z (XR a.1) a.2)) := by
 obtain ⟨k, s⟩ := a
 dsimp only at h
 have g : ∀ o : Nat, o ≤ 512 → (TJ z (o : Int)).bind (fun o2 => some (.inl (putAt z o2 s))) = some (.inl (putAt z o s) : List UInt8 ⊕ Empty) := fun o O => by rw [Qj J O]; rfl
 rcases h with rfl | rfl | rfl | rfl | rfl
 ·exact g 0 (by omega)
 ·exact g 345 (by omega)
 ·exact g 157 (by omega)
 ·exact g 265 (by omega)
 ·exact g 297 (by omega)
theorem zero_eq (s : List UInt8) : Ch s 0 = some (idxOf s 0) := by
 unfold Ch DZ IK
 rfl
def OP (s : List UInt8) : Bool := decide (0 ≤ idxOf s 0)
theorem Td (p0 : AL) : loop (Cy p0) 0 = some (if OP p0.Name || (OP p0.A9 || (OP p0.Ah || OP p0.Aj)) then .inr 2 else .inl ()) := by
 have st : ∀ (k : Nat) (s : List UInt8), [p0.Name, p0.A9, p0.Ah, p0.Aj][k]? = some s → Cy p0 (k : Int) = some (if OP s then .inr (.inr 2) else .inl ((k + 1 : Nat) : Int)) := by
  intro k s Y
  have hk : k < 4 := by have := (List.getElem?_eq_some_iff.1 Y).1; simpa using this
  rw [Cy, decide_eq_true (by simp; omega), Bw, G5 Y, Option.bind_some, zero_eq, Option.bind_some, N8, RC (by omega) (by omega)]
  unfold OP
  by_cases h : 0 ≤ idxOf s 0
  ·rw [if_pos h, decide_eq_true h, if_pos rfl]
  ·rw [if_neg h, decide_eq_false h, if_neg (by simp)]
   rfl
 have en : Cy p0 ((4 : Nat) : Int) = some (.inr (.inl ())) := by rw [Cy]; rfl
 have s0 := st 0 _ rfl
 have s1 := st 1 _ rfl
 have s2 := st 2 _ rfl
 have s3 := st 3 _ rfl
 show loop (Cy p0) ((0 : Nat) : Int) = _
 cases h0 : OP p0.Name with
 | true => rw [h0] at s0; rw [De (by rw [s0]; rfl)]; rfl
 | false =>
  rw [h0] at s0
  rw [B9 (s' := ((0 + 1 : Nat) : Int)) (by rw [s0]; rfl)]
  cases h1 : OP p0.A9 with
  | true => rw [h1] at s1; rw [De (r := .inr 2) (by rw [s1]; rfl)]; rfl
  | false =>
   rw [h1] at s1
   rw [B9 (s' := ((1 + 1 : Nat) : Int)) (by rw [s1]; rfl)]
   cases h2 : OP p0.Ah with
   | true => rw [h2] at s2; rw [De (r := .inr 2) (by rw [s2]; rfl)]; rfl
   | false =>
    rw [h2] at s2
    rw [B9 (s' := ((2 + 1 : Nat) : Int)) (by rw [s2]; rfl)]
    cases G : OP p0.Aj with
    | true => rw [G] at s3; rw [De (r := .inr 2) (by rw [s3]; rfl)]; rfl
    | false =>
     rw [G] at s3
     rw [B9 (s' := ((3 + 1 : Nat) : Int)) (by rw [s3]; rfl), De en]
     rfl
theorem NM {p0 : AL} {l : List (Int × List UInt8)} {b : Bool} {x1 : Int} (h1 : B7 p0 = some x1) (h2 : (x1 != (0 : Int)) = false) (X : CV p0 = some (l, b)) : b = true ∧ ∀ a ∈ l, (a.2.length : Int) ≤ XG a.1 := by
 have h0 : x1 = 0 := by simpa using h2
 subst h0
 unfold B7 at h1
 obtain ⟨o1, O, h1⟩ := bind_some h1
 cases o1 with
 | inr x2 =>
  exfalso
  rw [Td] at O
  have e := Option.some.inj O
  dsimp only at h1
  have e2 := Option.some.inj h1
  subst e2
  split at e
  ·cases e
  ·cases e
 | inl u =>
  dsimp only at h1
  rw [X, Option.bind_some] at h1
  dsimp only at h1
  rw [PA l b (Hl X), Option.bind_some] at h1
  dsimp only at h1
  cases J : (b && l.all fun a => decide ((a.2.length : Int) ≤ XG a.1)) with
  | false => rw [J] at h1; simp at h1
  | true =>
   rw [Bool.and_eq_true, List.all_eq_true] at J
   exact ⟨J.1, fun a K => by simpa using J.2 a K⟩
theorem Gs {p0 : AL} {l : List (Int × List UInt8)} {b : Bool} {x1 : Int} (h1 : B7 p0 = some x1) (h2 : (x1 != (0 : Int)) = false) (X : CV p0 = some (l, b)) :
  ∀ l', l'.Perm l → CZ Cj l' (List.replicate (512 : Int).toNat (0 : UInt8)) = CZ Cj l (List.replicate (512 : Int).toNat (0 : UInt8)) := by
 obtain ⟨_, hl⟩ := NM h1 h2 X
 have hk := Hl X
 obtain ⟨p, q, _, rfl⟩ := Q1 X
 have n1 := hl (0, q) (by simp)
 have n2 := hl (11, p) (by simp)
 have n3 := hl (6, p0.A9) (by simp)
 have n4 := hl (7, p0.Ah) (by simp)
 have n5 := hl (8, p0.Aj) (by simp)
 simp only [XG] at n1 n2 n3 n4 n5
 refine fun l' hl' => Qd (fun a => XR a.1) (fun a => a.2) (fun a K z J => MY (hk a K) J) (fun a K => ?_) (fun a K c hc => ?_) l' hl' _ (by rw [List.length_replicate]; rfl)
 ·simp only [List.mem_cons, List.not_mem_nil, or_false] at K
  rcases K with rfl | rfl | rfl | rfl | rfl <;> simp [XR] at * <;> omega
 ·simp only [List.mem_cons, List.not_mem_nil, or_false] at K hc
  rcases K with rfl | rfl | rfl | rfl | rfl <;> rcases hc with rfl | rfl | rfl | rfl | rfl <;> first | exact .inl rfl | (simp [XR] at * <;> omega)
theorem Nk : ∀ (l : List (Int × List UInt8)) (z z' : List UInt8), (∀ a ∈ l, a.1 = 0 ∨ a.1 = 11 ∨ a.1 = 6 ∨ a.1 = 7 ∨ a.1 = 8) → z.length = 512 → (∀ a ∈ l, XR a.1 + a.2.length ≤ 512) → CZ Cj l z = some (.inl z') → z'.length = 512
 | [], z, z', _, J, _, e => by
  simp only [CZ, Option.some.injEq, Sum.inl.injEq] at e
  rw [← e]; exact J
 | a :: l, z, z', hk, J, B, e => by
  rw [CZ, MY (hk a (by simp)) J] at e
  dsimp only at e
  exact Nk l _ z' (fun c hc => hk c (by simp [hc])) (by rw [Cs (by have := B a (by simp); omega)]; exact J) (fun c hc => B c (by simp [hc])) e
theorem QD {l : List (Int × List UInt8)} (hk : ∀ a ∈ l, a.1 = 0 ∨ a.1 = 11 ∨ a.1 = 6 ∨ a.1 = 7 ∨ a.1 = 8) (hl : ∀ a ∈ l, (a.2.length : Int) ≤ XG a.1) : ∀ a ∈ l, XR a.1 + a.2.length ≤ 512 := by
 intro a K
 have h1 := hl a K
 obtain ⟨k, s⟩ := a
 have h2 := hk _ K
 dsimp only at h1 h2 ⊢
 rcases h2 with rfl | rfl | rfl | rfl | rfl <;> simp [XG] at h1 <;> simp [XR] <;> omega
def Ya (k : Int) : Nat := if k = 1 then 100 else if k = 2 then 108 else if k = 3 then 116 else if k = 4 then 124 else if k = 5 then 136 else if k = 9 then 329 else 337
def QZ (a : Int × Int) : List UInt8 := if Sy a then Vf a.2.toNat (if a.1 = 4 ∨ a.1 = 5 then 12 else 8) else []
theorem Jm (a : Int × Int) : (QZ a).length ≤ if a.1 = 4 ∨ a.1 = 5 then 12 else 8 := by
 unfold QZ
 split
 ·rw [Qe (by split <;> omega)]; exact Nat.le_refl _
 ·simp
theorem QH {a : Int × Int} (h : a.1 = 1 ∨ a.1 = 2 ∨ a.1 = 3 ∨ a.1 = 4 ∨ a.1 = 5 ∨ a.1 = 9 ∨ a.1 = 10) {z : List UInt8} (J : z.length = 512) : Da a z = some (.inl (putAt z (Ya a.1) (QZ a))) := by
 obtain ⟨k, v⟩ := a
 dsimp only at h
 have e8 := Lq v (k := 7) (by omega) (by omega)
 have e12 := Lq v (k := 11) (by omega) (by omega)
 have p8 : (8 : Int) ^ 7 = 2097152 := rfl
 have p12 : (8 : Int) ^ 11 = 8589934592 := rfl
 rw [p8] at e8
 rw [p12] at e12
 have g8 : ∀ k : Int, ¬ (k = 4 ∨ k = 5) → ∀ o : Nat, o ≤ 512 → (Cp v 8).bind (fun (x : List UInt8 × Bool) => match x with | (x9, x10) => (TJ z (o : Int)).bind fun o4 => some (.inl (putAt z o4 x9))) = some (.inl (putAt z o (QZ (k, v))) : List UInt8 ⊕ Empty) := fun k hk o O => by
  rw [show (8 : Int) = ((7 + 1 : Nat) : Int) from rfl, e8, Option.bind_some]
  unfold QZ Sy
  dsimp only
  rw [if_neg hk, if_neg hk]
  by_cases W : 0 ≤ v ∧ v < 2097152
  ·simp only [if_pos W, decide_eq_true W, if_true, Qj J O, Option.bind_some]
  ·simp only [if_neg W, decide_eq_false W, Bool.false_eq_true, if_false, Qj J O, Option.bind_some]
 have g12 : ∀ k : Int, (k = 4 ∨ k = 5) → ∀ o : Nat, o ≤ 512 → (Cp v 12).bind (fun (x : List UInt8 × Bool) => match x with | (x9, x10) => (TJ z (o : Int)).bind fun o4 => some (.inl (putAt z o4 x9))) = some (.inl (putAt z o (QZ (k, v))) : List UInt8 ⊕ Empty) := fun k hk o O => by
  rw [show (12 : Int) = ((11 + 1 : Nat) : Int) from rfl, e12, Option.bind_some]
  unfold QZ Sy
  dsimp only
  rw [if_pos hk, if_pos hk]
  by_cases W : 0 ≤ v ∧ v < 8589934592
  ·simp only [if_pos W, decide_eq_true W, if_true, Qj J O, Option.bind_some]
  ·simp only [if_neg W, decide_eq_false W, Bool.false_eq_true, if_false, Qj J O, Option.bind_some]
 rcases h with rfl | rfl | rfl | rfl | rfl | rfl | rfl
 ·exact g8 1 (by omega) 100 (by omega)
 ·exact g8 2 (by omega) 108 (by omega)
 ·exact g8 3 (by omega) 116 (by omega)
 ·exact g12 4 (by omega) 124 (by omega)
 ·exact g12 5 (by omega) 136 (by omega)
 ·exact g8 9 (by omega) 329 (by omega)
 ·exact g8 10 (by omega) 337 (by omega)
theorem Gf {p0 : AL} {l : List (Int × List UInt8)} {m : List (Int × Int)} {b : Bool} {x1 : Int} {z : List UInt8} (h1 : B7 p0 = some x1) (h2 : (x1 != (0 : Int)) = false) (X : CV p0 = some (l, b))
  (G : CZ Cj l (List.replicate (512 : Int).toNat (0 : UInt8)) = some (.inl z)) (W : DD p0 = some m) : ∀ l', l'.Perm m → CZ Da l' z = CZ Da m z := by
 obtain ⟨_, hl⟩ := NM h1 h2 X
 have J := Nk l _ z (Hl X) (by rw [List.length_replicate]; rfl) (QD (Hl X) hl) G
 have hk := Mb W
 refine fun l' hl' => Qd (fun a => Ya a.1) QZ (fun a K z J => QH (hk a K) J) (fun a K => ?_) (fun a K c hc => ?_) l' hl' _ J
 ·have := Jm a
  obtain ⟨k, v⟩ := a
  have h := hk _ K
  dsimp only at h this ⊢
  rcases h with rfl | rfl | rfl | rfl | rfl | rfl | rfl <;> simp at this <;> simp [Ya] <;> omega
 ·rw [O8 W] at K hc
  have n1 := Jm a
  have n2 := Jm c
  simp only [List.mem_cons, List.not_mem_nil, or_false] at K hc
  rcases K with rfl | rfl | rfl | rfl | rfl | rfl | rfl <;> rcases hc with rfl | rfl | rfl | rfl | rfl | rfl | rfl <;> first | exact .inl rfl | (simp at n1 n2; simp [Ya]; omega)
def Fz (p0 : AL) : Option ((List UInt8) × Int) :=
 (B7 p0).bind fun x1 => Ao (x1 != 0) (some (([] : UV), x1)) (Cl (TH 1 (512 : Int)) <| (CV p0).bind fun (x2, x3) => (CZ (Cj) x2 (List.replicate (512 : Int).toNat (0 : UInt8))).bind fun o => (match o with | .inl z2 => (DD p0).bind fun x6 => (CZ (Da) x6 z2).bind fun o => (match o with | .inl z4 => ((Ii z4 (156 : Int)).bind fun x14 => (XX p0.Kind).bind fun x15 => Ao (p0.Kind == 0) ((Ii (z4.set (156 : Int).toNat x15) (156 : Int)).bind fun x16 => some ((z4.set (156 : Int).toNat x15).set (156 : Int).toNat (48 : UInt8))) (some (z4.set (156 : Int).toNat x15)) : Option (((List UInt8)))).bind fun x13 => (TJ x13 (257 : Int)).bind fun o6 => (J5 (putAt x13 o6 ([117, 115, 116, 97, 114, 0, 48, 48] : UV))).bind fun (x17, x18) => some (x17, x18) | .inr y => y.elim) | .inr y => y.elim))
theorem JZ {p0 q0 q1} (M : Fz p0 = some (q0, q1)) (A : HH g h [] F) (hc : BP (cfg.still 28) av = [.agg (AK p0)] := by kernel_rfl) : ∃ v Q, BZ cfg g h 28 av v Q ∧ v = .tuple [.str q0, Ai q1] ∧ HH g Q [] F := by
 refine Sd (n := 82) (rs := [.tmp 2, .tmp 3]) (by kernel_rfl) hc (by kernel_rfl) ?_
 clear hc
 unfold Fz at M
 refine TW (n := 82) [(0, .agg (AK p0))] (by kernel_rfl) (by kernel_rfl) ?_
 intro D H
 refine FK ?_
 refine IT ?_
 refine CE 3 ?_
 obtain ⟨h1, e1, A⟩ := A.pu (.cells none 2 (AK p0))
 refine BU 1 (.ptr (some (h.size, 0))) e1 H fun D t H => ?_
 refine AO 2 [] H fun D H => at_nil ?_
 show Og cfg 28 g (right (DS cfg.P 28)) D h1 _
 refine FK ?_
 refine IT ?_
 refine AH 3 (Ae 14 _ _ H (fun D => .of (BX (by kernel_rfl) (A.Ef 0 rfl (o := 0) (n := 13) ⟨Nat.le_of_ble_eq_true rfl, rfl⟩))) fun D t H => ?_)
 obtain ⟨x1, X, M⟩ := bind_some M
 obtain ⟨v1, h2, R, rfl, E⟩ := C5 (av := [.agg (AK p0)]) X (A.cut 0)
 replace A : HH g h2 [.obj h.size (.cells none 2 (AK p0))] F := A.Eg (n := 0) E
 refine BM 15 R H fun D t H => ?_
 refine B5 1 [(4, Ai x1)] 2 H fun D H => AN 2 [(17, .bool (x1 != 0))] H fun D H => Ac 17 H M (fun B M H => ?_) fun B M H => ?_
 ·refine AH 3 (AN 3 [(2, .str ([] : UV)), (3, Ai x1)] H fun D H => AZ ?_)
  obtain ⟨rfl, rfl⟩ := B4 M
  refine ⟨.inl rfl, .tuple [.str ([] : UV), Ai x1], rH H, ?_⟩
  replace A := A.d0
  exact ⟨rfl, A⟩
 refine EJ ?_
 show Og cfg 28 g (right (right (DS cfg.P 28))) D h2 _
 refine FK ?_
 refine IT ?_
 refine CE 2 ?_
 obtain ⟨B, M⟩ := Aq M
 obtain ⟨G, e2, A⟩ := A.pL 5 (AQ eY (List.replicate (512 : Int).toNat (0 : UInt8)))
 refine Ae 19 (AP (some h2.size) (List.replicate (512 : Int).toNat (0 : UInt8)).length) G H (fun D => .of (SM (e := eY) Df (x := (0 : UInt8)) (by kernel_rfl) B (congrArg some e2.symm))) fun D t H => ?_
 refine AO 1 [(5, AP (some h2.size) ((List.replicate (512 : Int).toNat (0 : UInt8)).length))] H fun D H => at_nil ?_
 show Og cfg 28 g (right (right (right (DS cfg.P 28)))) D G _
 refine FK ?_
 refine IT ?_
 refine CE 7 (Ae 21 _ _ H (fun D => .of (BX (by kernel_rfl) (A.Ef 1 rfl (o := 0) (n := 13) ⟨Nat.le_of_ble_eq_true rfl, rfl⟩))) fun D t H => ?_)
 obtain ⟨⟨x2, x3⟩, X, M⟩ := bind_some M
 obtain ⟨v1, h4, R, bqw2, rfl, E⟩ := Ja (av := [.agg (AK p0)]) X (A.cut 0)
 replace A : HH g h4 [.obj bqw2 (.map 2 (Di (fun k : Int => Ai k) (fun v : List UInt8 => .str v) x2)), .AQ (some h2.size) 5 (AQ eY (List.replicate (512 : Int).toNat (0 : UInt8))), _] F := A.Eg (n := 0) E
 refine BM 22 R H fun D t H => ?_
 refine AO 5 [(6, .map (some bqw2))] H fun D H => at_nil ?_
 show Og cfg 28 g (right (right (right (right (DS cfg.P 28))))) D h4 _
 refine FK ?_
 refine M7 1 [26, 5, 1] [] (some 5) ?_
 refine AO 1 [(25, .map (some bqw2))] H fun D H => at_nil ?_
 obtain ⟨o1, O, M⟩ := bind_some M
 refine Qv (step := Cj) (l := x2) (s0 := (List.replicate (512 : Int).toNat (0 : UInt8))) (x0 := o1) (enc := fun p => ((fun k : Int => Ai k) p.1, (fun v : List UInt8 => .str v) p.2)) (V := (fun (z1 : (List UInt8)) => [(1, .ptr (some (h.size, 0)))])) (row := (fun (z1 : (List UInt8)) => z1)) 0 1 h2.size 26 27 29 5 4 122 3 9 (.tmp 25) A H O (by first | exact Gs | (apply Gs <;> assumption)) rfl rfl (by decide) (fun D => by kernel_rfl) (fun D => by kernel_rfl) (fun _ => rfl) (fun s => by exact (I5.cons (A.XF 2 rfl _) I5.nil)) ?_ ?_
 ·clear O M H A
  intro pp hpp s x M D I it g F A H
  obtain ⟨z1, S⟩ : ∃ z, z = s := ⟨_, rfl⟩
  subst S
  unfold Cj at M
  replace H := H.less [(1, .ptr (some (h.size, 0))), (5, AP (some h2.size) z1.length), (26, it), (29, .tuple [Ai pp.1, .str pp.2])] (fun D => by kernel_rfl)
  refine RW 4 [(8, Ai pp.1), (9, .str pp.2)] 8 H fun D H => ?_
  obtain ⟨x4, X, M⟩ := bind_some M
  obtain ⟨v1, h6, R, rfl, E⟩ := Dk (av := []) X (A.cut 0)
  replace A := A.Dx E
  refine BC 1 [(32, AP (some h2.size) z1.length)] 33 R H fun D t H => ?_
  obtain ⟨x5, U, M⟩ := bind_some M
  refine B0 1 [] 35 (.agg [Ai x5.from_, Ai x5.Ar]) h6 H (fun D => .of (KW (e := DQ) (x := x5) DO [x4.w0, x4.w1, x4.w2, x4.w3, x4.w4, x4.w5, x4.w6, x4.w7, x4.w8, x4.w9, x4.SR, x4.Sj] (by kernel_rfl) rfl rfl U)) fun D t H => ?_
  obtain ⟨o2, hv1, M⟩ := bind_some M
  refine B0 1 [] 37 (.slice (some (h2.size, o2)) (z1.length - o2)) h6 H (fun D => .of (Rg (s := CF (some h2.size) z1.length) (t := ⟨some (h2.size, o2), z1.length - o2⟩) (k := .i64) (k' := .i64) (lo := some x5.from_) (hi := none) (by kernel_rfl) (HH.vw A 0 rfl hv1 (by kernel_rfl)))) fun D t H => ?_
  refine AO 1 [(38, .str pp.2)] H fun D H => ?_
  obtain ⟨h7, hc, E⟩ := HH.Wi A 0 rfl hv1 pp.2
  have hl1 : (putAt z1 o2 pp.2).length = z1.length := Cs (KP hv1).2.2
  have el : AP (some h2.size) z1.length = AP (some h2.size) (putAt z1 o2 pp.2).length := congrArg _ (Cs (KP hv1).2.2).symm
  try rw [el] at H
  replace A : HH g h7 [.AQ (some h2.size) 5 (AQ eY (putAt z1 o2 pp.2))] F := E
  refine Fu (Ai ((min pp.2.length (z1.length - o2) : Nat) : Int)) h7 H (fun D => .of (Uz (d := ⟨some (h2.size, o2), z1.length - o2⟩) (by kernel_rfl) hc)) fun D t H => ?_
  refine at_nil ?_
  have el : AP (some h2.size) z1.length = AP (some h2.size) (putAt z1 o2 pp.2).length := congrArg _ (hl1).symm
  try rw [el] at H
  exact ⟨.inl rfl, _, (Option.some.inj M).symm, H.ls, A⟩
 intro s Y D h8 A H
 subst Y
 obtain ⟨z2, S⟩ : ∃ z, z = s := ⟨_, rfl⟩
 subst S
 replace H := H.less [(1, .ptr (some (h.size, 0))), (5, AP (some h2.size) z2.length)] (fun D => by kernel_rfl)
 show Og cfg 28 g (right (right (right (right (right (DS cfg.P 28)))))) D h8 _
 refine FK ?_
 refine M7 2 [42, 5, 1] [] (some 5) ?_
 refine Ae 40 _ _ H (fun D => .of (BX (by kernel_rfl) (A.Ef 1 rfl (o := 0) (n := 13) ⟨Nat.le_of_ble_eq_true rfl, rfl⟩))) fun D t H => ?_
 obtain ⟨x6, X, M⟩ := bind_some M
 obtain ⟨v1, h9, R, bqw5, rfl, E⟩ := Is (av := [.agg (AK p0)]) X (A.cut 0)
 replace A := A.VA E
 refine BM 41 R H fun D t H => ?_
 refine at_nil ?_
 obtain ⟨o3, O, M⟩ := bind_some M
 refine Qv (step := Da) (l := x6) (s0 := z2) (x0 := o3) (enc := fun p => ((fun k : Int => Ai k) p.1, (fun v : Int => Ai v) p.2)) (V := (fun (z3 : (List UInt8)) => [(1, .ptr (some (h.size, 0)))])) (row := (fun (z3 : (List UInt8)) => z3)) 0 1 h2.size 42 43 45 5 4 129 3 3 (.tmp 41) A H O (by first | exact Gf | (apply Gf <;> assumption)) rfl rfl (by decide) (fun D => by kernel_rfl) (fun D => by kernel_rfl) (fun _ => rfl) (fun s => by exact (I5.cons (A.XF 2 rfl _) I5.nil)) ?_ ?_
 ·clear O M H A
  intro pp hpp s x M D h10 it g F A H
  obtain ⟨z3, S⟩ : ∃ z, z = s := ⟨_, rfl⟩
  subst S
  unfold Da at M
  replace H := H.less [(1, .ptr (some (h.size, 0))), (5, AP (some h2.size) z3.length), (42, it), (45, .tuple [Ai pp.1, Ai pp.2])] (fun D => by kernel_rfl)
  refine B5 4 [(10, Ai pp.1), (11, Ai pp.2)] 11 H fun D H => ?_
  obtain ⟨x7, X, M⟩ := bind_some M
  obtain ⟨v1, h11, R, rfl, E⟩ := Dk (av := []) X (A.cut 0)
  replace A := A.Dx E
  refine BC 1 [(49, Ai pp.2)] 50 R H fun D t H => ?_
  obtain ⟨x8, hq2, M⟩ := bind_some M
  refine B0 1 [] 52 (.agg [Ai x8.from_, Ai x8.Ar]) h11 H (fun D => .of (KW (e := DQ) (x := x8) DO [x7.w0, x7.w1, x7.w2, x7.w3, x7.w4, x7.w5, x7.w6, x7.w7, x7.w8, x7.w9, x7.SR, x7.Sj] (by kernel_rfl) rfl rfl hq2)) fun D t H => ?_
  obtain ⟨⟨x9, x10⟩, X, M⟩ := bind_some M
  obtain ⟨v1, h12, R, rfl, E⟩ := HK (av := [Ai pp.2, Ai x8.Ar]) X (A.cut 0)
  replace A := A.Dx E
  refine BC 1 [] 54 R H fun D t H => ?_
  refine RW 5 [(12, .str x9)] 8 H fun D H => ?_
  obtain ⟨x11, X, M⟩ := bind_some M
  obtain ⟨v1, h13, R, rfl, E⟩ := Dk (av := []) X (A.cut 0)
  replace A := A.Dx E
  refine BC 1 [(57, AP (some h2.size) z3.length)] 58 R H fun D t H => ?_
  obtain ⟨x12, hq3, M⟩ := bind_some M
  refine B0 1 [] 60 (.agg [Ai x12.from_, Ai x12.Ar]) h13 H (fun D => .of (KW (e := DQ) (x := x12) DO [x11.w0, x11.w1, x11.w2, x11.w3, x11.w4, x11.w5, x11.w6, x11.w7, x11.w8, x11.w9, x11.SR, x11.Sj] (by kernel_rfl) rfl rfl hq3)) fun D t H => ?_
  obtain ⟨o4, hv2, M⟩ := bind_some M
  refine B0 1 [] 62 (.slice (some (h2.size, o4)) (z3.length - o4)) h13 H (fun D => .of (Rg (s := CF (some h2.size) z3.length) (t := ⟨some (h2.size, o4), z3.length - o4⟩) (k := .i64) (k' := .i64) (lo := some x12.from_) (hi := none) (by kernel_rfl) (HH.vw A 0 rfl hv2 (by kernel_rfl)))) fun D t H => ?_
  refine AO 1 [(63, .str x9)] H fun D H => ?_
  obtain ⟨h14, hc, E⟩ := HH.Wi A 0 rfl hv2 x9
  have hl2 : (putAt z3 o4 x9).length = z3.length := Cs (KP hv2).2.2
  have el : AP (some h2.size) z3.length = AP (some h2.size) (putAt z3 o4 x9).length := congrArg _ (Cs (KP hv2).2.2).symm
  try rw [el] at H
  replace A : HH g h14 [.AQ (some h2.size) 5 (AQ eY (putAt z3 o4 x9))] F := E
  refine Fu (Ai ((min x9.length (z3.length - o4) : Nat) : Int)) h14 H (fun D => .of (Uz (d := ⟨some (h2.size, o4), z3.length - o4⟩) (by kernel_rfl) hc)) fun D t H => ?_
  refine at_nil ?_
  have el : AP (some h2.size) z3.length = AP (some h2.size) (putAt z3 o4 x9).length := congrArg _ (hl2).symm
  try rw [el] at H
  exact ⟨.inl rfl, _, (Option.some.inj M).symm, H.ls, A⟩
 intro s Y D h15 A H
 subst Y
 obtain ⟨z4, S⟩ : ∃ z, z = s := ⟨_, rfl⟩
 subst S
 replace H := H.less [(1, .ptr (some (h.size, 0))), (5, AP (some h2.size) z4.length)] (fun D => by kernel_rfl)
 show Og cfg 28 g (right (right (right (right (right (right (DS cfg.P 28))))))) D h15 _
 refine IT ?_
 refine AS ?_
 obtain ⟨o5, O, M⟩ := bind_some M
 refine Bb (Q' := fun e N Q => (∃ x13, e = .normal ∧ x13 = o5 ∧ ∃ (hl3 : x13.length = z4.length), Has N 82 [(5, AP (some h2.size) x13.length)] ∧ HH g Q [.AQ (some h2.size) 5 (AQ eY x13), .obj h.size (.cells none 2 (AK p0))] F) ∨ False) ?_ ?_
 ·replace M := O
  clear O
  refine AH 5 (AX 2 [(65, AP (some h2.size) z4.length)] 67 1 2 A H fun D t H => ?_)
  obtain ⟨x14, X, M⟩ := bind_some M
  obtain ⟨i1, er1, _, X, hq4⟩ := HH.Ra Df (by decide) A 0 (xs := z4) rfl X
  refine Ae 68 (.ptr (some (i1, (156 : Int).toNat * 1))) h15 H (fun D => .of (G1 (s := CF (some h2.size) z4.length) (by kernel_rfl) X)) fun D t H => ?_
  obtain ⟨x15, X, M⟩ := bind_some M
  have X := U2 X
  rw [X] at H
  obtain ⟨h16, X, E⟩ := HH.Yh Df A 0 rfl er1 hq4 (y := x15) (o := 0) (new := [Ab (x15.toNat : Int)]) rfl rfl (Nat.le_of_ble_eq_true rfl)
  have hl4 : (z4.set (156 : Int).toNat x15).length = z4.length := List.length_set
  have el : AP (some h2.size) z4.length = AP (some h2.size) (z4.set (156 : Int).toNat x15).length := congrArg _ List.length_set.symm
  try rw [el] at H
  try rw [el] at E
  replace A : HH g h16 [.AQ (some h2.size) 5 (AQ eY (z4.set (156 : Int).toNat x15)), _] F := E
  refine JX X H fun D t H => ?_
  refine Bs 3 id (AX 1 [] 70 1 2 A H fun D t H => ?_)
  refine AN 1 [(71, .bool (p0.Kind == 0))] H fun D H => Ac 71 H M (fun B M H => ?_) fun B M H => ?_
  ·refine CE 3 ?_
   obtain ⟨x16, X, M⟩ := bind_some M
   obtain ⟨i2, er2, _, X, hq5⟩ := HH.Ra Df (by decide) A 0 (xs := (z4.set (156 : Int).toNat x15)) rfl X
   refine B0 1 [] 73 (.ptr (some (i2, (156 : Int).toNat * 1))) h16 H (fun D => .of (G1 (s := CF (some h2.size) ((z4.set (156 : Int).toNat x15).length)) (by kernel_rfl) X)) fun D t H => ?_
   obtain ⟨h17, X, E⟩ := HH.Yh Df A 0 rfl er2 hq5 (y := (48 : UInt8)) (o := 0) (new := [Ab 48]) rfl rfl (Nat.le_of_ble_eq_true rfl)
   have hl5 : ((z4.set (156 : Int).toNat x15).set (156 : Int).toNat (48 : UInt8)).length = z4.length := List.length_set.trans hl4
   have el : AP (some h2.size) (z4.set (156 : Int).toNat x15).length = AP (some h2.size) ((z4.set (156 : Int).toNat x15).set (156 : Int).toNat (48 : UInt8)).length := congrArg _ List.length_set.symm
   try rw [el] at H
   try rw [el] at E
   replace A : HH g h17 [.AQ (some h2.size) 5 (AQ eY ((z4.set (156 : Int).toNat x15).set (156 : Int).toNat (48 : UInt8))), _] F := E
   refine JX X H fun D t H => ?_
   refine at_nil ?_
   exact .inl ⟨_, rfl, BB M, hl5, H.ls, A⟩
  exact EJ (.inl ⟨_, rfl, BB M, hl4, H.ls, A⟩)
 clear O
 clear A
 intro e D h18 hQ
 rcases hQ with ⟨x13, rfl, rfl, hl3, H, A⟩ | hF
 ·show AW _ _ _ _ _ _ _
  refine AH 3 ?_
  obtain ⟨o6, hv3, M⟩ := bind_some M
  refine B0 1 [] 75 (.slice (some (h2.size, o6)) (x13.length - o6)) h18 H (fun D => .of (Rg (s := CF (some h2.size) x13.length) (t := ⟨some (h2.size, o6), x13.length - o6⟩) (k := .i64) (k' := .i64) (lo := some (257 : Int)) (hi := none) (by kernel_rfl) (HH.vw A 0 rfl hv3 (by kernel_rfl)))) fun D t H => ?_
  obtain ⟨h19, hc, E⟩ := HH.Wi A 0 rfl hv3 ([117, 115, 116, 97, 114, 0, 48, 48] : UV)
  have hl6 : (putAt x13 o6 ([117, 115, 116, 97, 114, 0, 48, 48] : UV)).length = z4.length := (Cs (KP hv3).2.2).trans hl3
  have el : AP (some h2.size) x13.length = AP (some h2.size) (putAt x13 o6 ([117, 115, 116, 97, 114, 0, 48, 48] : UV)).length := congrArg _ (Cs (KP hv3).2.2).symm
  try rw [el] at H
  replace A : HH g h19 [.AQ (some h2.size) 5 (AQ eY (putAt x13 o6 ([117, 115, 116, 97, 114, 0, 48, 48] : UV))), _] F := E
  refine Fu (Ai ((min ([117, 115, 116, 97, 114, 0, 48, 48] : UV).length (x13.length - o6) : Nat) : Int)) h19 H (fun D => .of (Uz (d := ⟨some (h2.size, o6), x13.length - o6⟩) (by kernel_rfl) hc)) fun D t H => ?_
  refine Bs 7 id (AO 1 [(77, AP (some h2.size) ((putAt x13 o6 ([117, 115, 116, 97, 114, 0, 48, 48] : UV)).length))] H fun D H => Ae 78 (.str (putAt x13 o6 ([117, 115, 116, 97, 114, 0, 48, 48] : UV))) h19 H (fun D => .of (Kt (xs := putAt x13 o6 ([117, 115, 116, 97, 114, 0, 48, 48] : UV)) A 0 rfl (by kernel_rfl))) fun D t H => ?_)
  obtain ⟨⟨x17, x18⟩, X, M⟩ := bind_some M
  obtain ⟨v1, h20, R, rfl, E⟩ := P2 (av := [.str (putAt x13 o6 ([117, 115, 116, 97, 114, 0, 48, 48] : UV))]) X (A.cut 0)
  replace A := A.Dx E
  refine BM 79 R H fun D t H => ?_
  refine AN 4 [(2, .str x17), (3, Ai x18)] H fun D H => AZ ?_
  obtain ⟨rfl, rfl⟩ := B4 M
  refine ⟨.inl rfl, .tuple [.str x17, Ai x18], rH H, ?_⟩
  replace A := A.d0
  exact ⟨rfl, A⟩
 exact hF.elim
def K3 (p0 : List UInt8) : Option ((List UInt8)) :=
 (Gi (p0.length : Int)).bind fun x1 => Cl (SK ([0] : UV) x1) <| Cl (decide (p0.length + (Lib.repeatL ([0] : UV) x1.toNat).length ≤ 9223372036854775807)) <| some (p0 ++ (Lib.repeatL ([0] : UV) x1.toNat))
theorem Qr {p0 q0} (M : K3 p0 = some q0) (A : HH g h [] F) (hc : BP (cfg.still 99) av = [.str p0] := by kernel_rfl) : ∃ v Q, BZ cfg g h 99 av v Q ∧ v = .str q0 ∧ HH g Q [] F := by
 refine EE 9 [.tmp 2] hc ?_
 clear hc
 unfold K3 at M
 refine bg 9 [(0, .str p0)] fun D H => ?_
 refine AH 1 (B5 1 [] 7 H fun D H => ?_)
 obtain ⟨x1, X, M⟩ := bind_some M
 obtain ⟨v1, h1, R, rfl, E⟩ := JQ (av := [Ai (p0.length : Int)]) X (A.cut 0)
 replace A := A.Dx E
 refine BC 3 [(3, .str p0)] 6 R H fun D t H => ?_
 obtain ⟨B, M⟩ := Aq M
 refine Ae 7 (.str (Lib.repeatL ([0] : UV) x1.toNat)) h1 H (fun D => Steps.call (by kernel_rfl) (SL (C := cfg) (f := 115) (by kernel_rfl) (l := exts) rfl (by kernel_rfl) B)) fun D t H => ?_
 obtain ⟨B, M⟩ := Aq M
 refine Ae 8 (.str (p0 ++ (Lib.repeatL ([0] : UV) x1.toNat))) h1 H (fun D => .of (Mp (by kernel_rfl) B)) fun D t H => ?_
 refine AN 1 [(2, .str (p0 ++ (Lib.repeatL ([0] : UV) x1.toNat)))] H fun D H => AZ ?_
 obtain rfl := BB M
 exact ⟨.inl rfl, _, rH H, rfl, A⟩
def G3 (p0 : List (List UInt8)) (s : (List UInt8) × Int) : Option (((List UInt8) × Int) ⊕ (((List UInt8)))) :=
 match s with
 | (x1, x2) => Ao (decide (x2 < (p0.length : Int))) ((Ii p0 x2).bind fun x4 => Cl (Hs 1 (x1.length + x4.length)) <| some (.inl ((x1 ++ x4), i64.wrap (x2 + 1)))) (some (.inr x1))
def E0 (p0 : List (List UInt8)) : Option ((List UInt8)) :=
 (loop (G3 p0) (([] : UV), (0 : Int))).bind fun x3 => some x3
theorem H9 {p0 rp0 q0} (M : E0 p0 = some q0) (A : HH g h [.AQ rp0 9 (AQ eS p0)] F) (hc : BP (cfg.still 47) av = [AP rp0 p0.length] := by kernel_rfl) : ∃ v Q, BZ cfg g h 47 av v Q ∧ v = .str q0 ∧ HH g Q [.AQ rp0 9 (AQ eS p0)] F := by
 refine EE 18 [.tmp 2] hc ?_
 clear hc
 unfold E0 at M
 refine bg 18 [(0, AP rp0 p0.length)] fun D H => ?_
 refine AH 1 (B5 1 [] 1 H fun D H => AN 1 [(3, .slice none 0)] H fun D H => AS (AH 3 (AN 3 [(6, AP rp0 p0.length), (7, Ai (p0.length : Int)), (8, Ai 0)] H fun D H => Aa (id := 0) (by kernel_rfl) ?_)))
 replace A : HH g h [.AQ none 5 (AQ eY ([] : UV)), _] F := A.Hv 5
 obtain ⟨o1, O, M⟩ := bind_some M
 refine Bb (Q' := fun e N Q => (∃ x3, e = .exit 0 ∧ x3 = o1 ∧ ∃ r2, Has N 18 [(3, AP r2 x3.length)] ∧ HH g Q [.AQ r2 5 (AQ eY x3), .AQ rp0 9 (AQ eS p0)] F) ∨ False) ?_ ?_
 ·refine C2 (by kernel_rfl) (fun (s : (List UInt8) × Int) N Q => ∃ x1 x2, (x1, x2) = s ∧ ∃ r1, Has N 18 [(3, AP r1 x1.length), (6, AP rp0 p0.length), (7, Ai (p0.length : Int)), (8, Ai x2)] ∧ HH g Q [.AQ r1 5 (AQ eY x1), .AQ rp0 9 (AQ eS p0)] F) O ⟨_, _, rfl, none, H.ls, A⟩ ?_
  clear O M H A
  intro s q D h1 hI M
  obtain ⟨x1, x2, rfl, r1, H, A⟩ := hI
  unfold G3 at M
  refine AH 1 (AN 1 [(9, .bool (decide (x2 < (p0.length : Int))))] H fun D H => AS (Ac 9 H M (fun B M H => ?_) fun B M H => ?_))
  ·refine CT id (AS (Aa (id := 1) (by kernel_rfl) ?_))
   refine AH 3 ?_
   obtain ⟨x4, X, M⟩ := bind_some M
   obtain ⟨i1, er1, _, X, U⟩ := HH.Ra encS (by decide) A 1 (xs := p0) rfl X
   refine Ae 10 (.ptr (some (i1, x2.toNat * 1))) h1 H (fun D => .of (G1 (s := CF rp0 p0.length) (by kernel_rfl) X)) fun D t H => ?_
   refine Ae 11 _ _ H (fun D => .of (Ib (by kernel_rfl) (Lb encS (HH.row A 1 rfl er1) U (o := 0) rfl))) fun D t H => ?_
   refine RW 1 [(5, .str x4)] 4 H fun D H => AO 2 [(12, AP r1 x1.length), (13, .str x4)] H fun D H => ?_
   obtain ⟨B, M⟩ := Aq M
   obtain ⟨r3, h2, X, E⟩ := HH.FN Df (by decide) A 0 (xs := x1) (ys := x4) rfl (FF _ x4) (Df.BP _) rfl B
   replace A : HH g h2 [.AQ r3 5 (AQ eY (x1 ++ x4)), _] F := E
   refine Ae 14 _ _ H (fun D => .of (DU (s := CF r1 x1.length) (by kernel_rfl) X)) fun D t H => ?_
   refine Bv 1 [(3, AP r3 ((x1 ++ x4).length)), (6, AP rp0 p0.length), (7, Ai (p0.length : Int)), (8, Ai x2)] H fun D H => ED 2 id (Bv 2 [(3, AP r3 ((x1 ++ x4).length)), (6, AP rp0 p0.length), (7, Ai (p0.length : Int)), (8, Ai (i64.wrap (x2 + 1)))] H fun D H => at_nil ?_)
   exact nx M ⟨_, _, rfl, _, H.ls, A⟩
  refine Bp (i := 0) (by kernel_rfl) ?_
  exact nr M fun e => .inl ⟨_, rfl, e, _, H.ls, A⟩
 clear O
 clear A
 intro e D G hQ
 rcases hQ with ⟨x3, rfl, rfl, r2, H, A⟩ | hF
 ·show AW _ _ _ _ _ _ _
  refine AH 3 (AO 1 [(16, AP r2 x3.length)] H fun D H => Ae 17 (.str x3) G H (fun D => .of (Kt (xs := x3) A 0 rfl (by kernel_rfl))) fun D t H => ?_)
  refine AN 1 [(2, .str x3)] H fun D H => AZ ?_
  obtain rfl := BB M
  refine ⟨.inl rfl, .str x3, rH H, ?_⟩
  replace A := A.k1 1
  exact ⟨rfl, A⟩
 exact hF.elim
def F6 (p0 : List AA) : Option ((List UInt8) × Int) :=
 (Ep p0).bind fun (x1, x2) => Ao ((x2 != 0) || (x1 == ([] : UV))) (some (([] : UV), x2)) ((Fz (⟨([80, 97, 120, 72, 101, 97, 100, 101, 114, 115] : UV), ([] : UV), (120 : Int), (420 : Int), (0 : Int), (0 : Int), (x1.length : Int), (0 : Int), ([] : UV), ([] : UV), (0 : Int), (0 : Int), (0 : Int)⟩ : AL)).bind fun (x3, x4) => (K3 x1).bind fun x5 => (E0 ([x3, x5] : List (List UInt8))).bind fun x6 => some (x6, x4))
theorem K4 {p0 rp0 q0 q1} (M : F6 p0 = some (q0, q1)) (A : HH g h [.AQ rp0 117 (AQ AJ p0)] F) (hc : BP (cfg.still 46) av = [AP rp0 p0.length] := by kernel_rfl) : ∃ v Q, BZ cfg g h 46 av v Q ∧ v = .tuple [.str q0, Ai q1] ∧ HH g Q [.AQ rp0 117 (AQ AJ p0)] F := by
 refine EE 32 [.tmp 2, .tmp 3] hc ?_
 clear hc
 unfold F6 at M
 refine bg 32 [(0, AP rp0 p0.length)] fun D H => ?_
 refine AH 2 (B5 2 [] 7 H fun D H => ?_)
 obtain ⟨⟨x1, x2⟩, X, M⟩ := bind_some M
 obtain ⟨v1, h1, R, rfl, E⟩ := Hf (av := [AP rp0 p0.length]) X (A.cut 1)
 replace A := A.g11 E
 refine BC 1 [] 9 R H fun D t H => ?_
 refine AN 5 [(4, .str x1), (5, Ai x2)] H fun D H => AS (AH 6 (AO 3 [(14, .bool (x2 != 0))] H fun D H => Bi 3 (fun N Q => h1 = Q ∧ Has N 32 [(4, .str x1), (5, Ai x2), (17, .bool ((x2 != 0) || (x1 == ([] : UV))))]) ?_ ?_))
 ·cases B : (x2 != 0 : Bool) with
  | true =>
   replace H := H.kn 14 B
   exact AO 3 [(17, .bool true)] H fun D H => A8 H B
  | false =>
   replace H := H.kn 14 B
   exact AO 3 [(17, .bool (x1 == ([] : UV)))] H fun D H => A8 H B
 intro t D Q hK
 obtain ⟨e, H⟩ := hK
 subst e
 refine Bq id (Ac 17 H M (fun B M H => ?_) fun B M H => ?_)
 ·refine AH 3 (AN 3 [(2, .str ([] : UV)), (3, Ai x2)] H fun D H => AZ ?_)
  obtain ⟨rfl, rfl⟩ := B4 M
  exact ⟨.inl rfl, _, rH H, rfl, A⟩
 refine B3 9 id ?_
 obtain ⟨⟨x3, x4⟩, X, M⟩ := bind_some M
 obtain ⟨v1, h2, R, rfl, E⟩ := JZ (av := [.agg [.str ([80, 97, 120, 72, 101, 97, 100, 101, 114, 115] : UV), .str ([] : UV), Ab 120, Ai 420, Ai 0, Ai 0, Ai (x1.length : Int), Ai 0, .str ([] : UV), .str ([] : UV), Ai 0, Ai 0, Ai 0]]) X (A.cut 0)
 replace A := A.Dx E
 refine BC 3 [] 23 R H fun D t H => ?_
 refine Bv 5 [(4, .str x1), (5, Ai x4), (6, .str x3)] H fun D H => Bs 8 id ?_
 obtain ⟨x5, X, M⟩ := bind_some M
 obtain ⟨v1, G, R, rfl, E⟩ := Qr (av := [.str x1]) X (A.cut 0)
 replace A := A.Dx E
 refine BC 2 [(26, .str x3)] 28 R H fun D t H => ?_
 obtain ⟨h4, e1, A⟩ := A.pL 9 [.str x3, .str x5]
 refine BU 29 (AP (some G.size) (([x3, x5] : List (List UInt8)).length)) e1 H fun D t H => ?_
 replace A : HH g h4 [.AQ (some G.size) 9 (AQ eS ([x3, x5] : List (List UInt8))), _] F := A
 obtain ⟨x6, X, M⟩ := bind_some M
 obtain ⟨v1, I, R, rfl, E⟩ := H9 (av := [AP (some G.size) (([x3, x5] : List (List UInt8)).length)]) X (A.cut 1)
 replace A := A.g11 E
 refine BM 30 R H fun D t H => ?_
 refine AN 3 [(2, .str x6), (3, Ai x4)] H fun D H => AZ ?_
 obtain ⟨rfl, rfl⟩ := B4 M
 refine ⟨.inl rfl, .tuple [.str x6, Ai x4], rH H, ?_⟩
 replace A := A.k1 1
 exact ⟨rfl, A⟩
def JR (p0 : AG) (p1 : Int) : Option (AL × Int) :=
 (GW p0 p1).bind fun x1 => Ao (x1 != 0) (some ((⟨([] : UV), ([] : UV), (0 : Int), (0 : Int), (0 : Int), (0 : Int), (0 : Int), (0 : Int), ([] : UV), ([] : UV), (0 : Int), (0 : Int), (0 : Int)⟩ : AL), x1)) ((HF p0 p1).bind fun (x2, x3) => some (x2, (0 : Int)))
theorem OL {p0 p1 q0 q1} (M : JR p0 p1 = some (q0, q1)) (A : HH g h [] F) (hc : BP (cfg.still 26) av = [.agg (AE p0), Ai p1] := by kernel_rfl) : ∃ v Q, BZ cfg g h 26 av v Q ∧ v = .tuple [.agg (AK q0), Ai q1] ∧ HH g Q [] F := by
 refine EE 23 [.cell 4 35, .tmp 5] hc ?_
 clear hc
 unfold JR at M
 refine bg 23 [(0, .agg (AE p0)), (1, Ai p1)] fun D H => ?_
 refine AH 3 ?_
 obtain ⟨h1, e1, A⟩ := A.pu (.cells none 2 (AE p0))
 refine BU 2 (.ptr (some (h.size, 0))) e1 H fun D t H => ?_
 obtain ⟨h2, e2, A⟩ := A.pu (.cells none 2 [.str ([] : UV), .str ([] : UV), Ab 0, Ai 0, Ai 0, Ai 0, Ai 0, Ai 0, .str ([] : UV), .str ([] : UV), Ai 0, Ai 0, Ai 0])
 refine BU 4 (.ptr (some (h1.size, 0))) e2 H fun D t H => ?_
 refine AN 1 [] H fun D H => AS (AH 4 (Ae 9 _ _ H (fun D => .of (BX (by kernel_rfl) (A.Ef 1 rfl (o := 0) (n := 14) ⟨Nat.le_of_ble_eq_true rfl, rfl⟩))) fun D t H => ?_))
 obtain ⟨x1, X, M⟩ := bind_some M
 obtain ⟨v1, G, R, rfl, E⟩ := Jv (av := [.agg (AE p0), Ai p1]) X (A.cut 0)
 replace A : HH g G [.obj h1.size (.cells none 2 [.str ([] : UV), .str ([] : UV), Ab (0 : Int), Ai (0 : Int), Ai (0 : Int), Ai (0 : Int), Ai (0 : Int), Ai (0 : Int), .str ([] : UV), .str ([] : UV), Ai (0 : Int), Ai (0 : Int), Ai (0 : Int)]), .obj h.size (.cells none 2 (AE p0))] F := A.Eg (n := 0) E
 refine BC 1 [] 11 R H fun D t H => ?_
 refine B5 1 [(6, Ai x1)] 2 H fun D H => AN 2 [(13, .bool (x1 != 0))] H fun D H => Ac 13 H M (fun B M H => ?_) fun B M H => ?_
 ·refine AH 4 ?_
  obtain ⟨h4, X, A⟩ := A.s0 0 [.str ([] : UV), .str ([] : UV), Ab 0, Ai 0, Ai 0, Ai 0, Ai 0, Ai 0, .str ([] : UV), .str ([] : UV), Ai 0, Ai 0, Ai 0] [_, _, _, _, _, _, _, _, _, _, _, _, _]
  refine Jp 2 [(15, Ai x1)] X H fun D t H => ?_
  refine AN 1 [(5, Ai x1)] H fun D H => AZ ?_
  obtain ⟨rfl, rfl⟩ := B4 M
  refine ⟨.inl rfl, .tuple [.agg [.str ([] : UV), .str ([] : UV), Ab 0, Ai 0, Ai 0, Ai 0, Ai 0, Ai 0, .str ([] : UV), .str ([] : UV), Ai 0, Ai 0, Ai 0], Ai x1], Dm (.cell (rT H) (Dn (by kernel_rfl) (by kernel_rfl) (A.la 0 0 13)) (.tmp (rT H) .nil)), ?_⟩
  replace A := A.d0
  exact ⟨rfl, A⟩
 refine B3 9 id (Ae 17 _ _ H (fun D => .of (BX (by kernel_rfl) (A.Ef 1 rfl (o := 0) (n := 14) ⟨Nat.le_of_ble_eq_true rfl, rfl⟩))) fun D t H => ?_)
 obtain ⟨⟨x2, x3⟩, X, M⟩ := bind_some M
 obtain ⟨v1, I, R, rqw3, rfl, E⟩ := Kq (av := [.agg (AE p0), Ai p1]) X (A.cut 0)
 replace A := A.VA E
 refine BC 1 [] 19 R H fun D t H => ?_
 obtain ⟨h6, e3, A⟩ := A.pu (.cells none 2 [.str ([] : UV), .str ([] : UV), Ab 0, Ai 0, Ai 0, Ai 0, Ai 0, Ai 0, .str ([] : UV), .str ([] : UV), Ai 0, Ai 0, Ai 0])
 refine K2 3 [(20, .agg (AK x2)), (21, AP rqw3 x3.length)] 7 (.ptr (some (I.size, 0))) e3 H fun D t H => ?_
 obtain ⟨h7, X, A⟩ := A.s0 0 (AK x2) [_, _, _, _, _, _, _, _, _, _, _, _, _]
 refine C9 X H fun D t H => ?_
 refine B5 1 [] 3 H fun D H => Ae 22 _ _ H (fun D => .of (BX (by kernel_rfl) (A.Ef 0 rfl (o := 0) (n := 13) ⟨Nat.le_of_ble_eq_true rfl, rfl⟩))) fun D t H => ?_
 obtain ⟨h8, X, A⟩ := A.s2 0 (AK x2) [_, _, _, _, _, _, _, _, _, _, _, _, _]
 refine C9 X H fun D t H => ?_
 refine AN 1 [(5, Ai 0)] H fun D H => AZ ?_
 obtain ⟨rfl, rfl⟩ := B4 M
 refine ⟨.inl rfl, .tuple [.agg (AK x2), Ai 0], Dm (.cell (rT H) (Dn (by kernel_rfl) (by kernel_rfl) (A.la 2 0 13)) (.tmp (rT H) .nil)), ?_⟩
 replace A := A.d0
 exact ⟨rfl, A⟩
def Cx (p0 : BS) (p1 : List UInt8) : Option ((List UInt8) × Int × BS) :=
 Ao (!p0.EH) (some (([] : UV), (10 : Int), p0)) (Ao (decide ((p1.length : Int) > p0.BQ)) (some (([] : UV), (12 : Int), p0)) (some (p1, (0 : Int), (⟨p0.EH, p0.AY, p0.Ar, i64.wrap (p0.BQ - (p1.length : Int))⟩ : BS))))
theorem GI {p0 p1 bp0 q0 q1 u0} (M : Cx p0 p1 = some (q0, q1, u0)) (A : HH g h [.obj bp0 (.cells none 2 (CO p0))] F) (hc : BP (cfg.still 18) av = [.ptr (some (bp0, 0)), .str p1] := by kernel_rfl) : ∃ v Q, BZ cfg g h 18 av v Q ∧ v = .tuple [.str q0, Ai q1] ∧ HH g Q [.obj bp0 (.cells none 2 (CO u0))] F := by
 refine EE 30 [.tmp 4, .tmp 5] hc ?_
 clear hc
 unfold Cx at M
 refine bg 30 [(0, .ptr (some (bp0, 0))), (1, .str p1)] fun D H => ?_
 refine AH 2 (AN 2 [] H fun D H => AS (Aa (id := 0) (by kernel_rfl) ?_))
 refine AH 6 (AX 3 [] 10 0 0 A H fun D t H => ?_)
 refine AN 2 [(6, .bool (!p0.EH))] H fun D H => Ac 6 H M (fun B M H => ?_) fun B M H => ?_
 ·refine AH 2 (AN 2 [(4, .str ([] : UV)), (5, Ai 10)] H fun D H => AZ ?_)
  obtain ⟨rfl, rfl, rfl⟩ := EG M
  exact ⟨.inl rfl, _, rH H, rfl, A⟩
 refine AH 8 (AX 5 [(14, Ai (p1.length : Int))] 18 0 3 A H fun D t H => ?_)
 refine AN 2 [(12, .bool (decide ((p1.length : Int) > p0.BQ)))] H fun D H => Ac 12 H M (fun B M H => ?_) fun B M H => ?_
 ·refine AH 2 (AN 2 [(4, .str ([] : UV)), (5, Ai 12)] H fun D H => AZ ?_)
  obtain ⟨rfl, rfl, rfl⟩ := EG M
  exact ⟨.inl rfl, _, rH H, rfl, A⟩
 refine B3 10 id (AX 3 [(20, .ptr (some (bp0, 0)))] 23 0 3 A H fun D t H => ?_)
 obtain ⟨h1, X, A⟩ := A.s0 3 [Ai (i64.wrap (p0.BQ - (p1.length : Int)))] [_, _, _, _]
 refine Bu 5 [] X H fun D t H => ?_
 refine Bs 3 id (AN 3 [(4, .str p1), (5, Ai 0)] H fun D H => AZ ?_)
 obtain ⟨rfl, rfl, rfl⟩ := EG M
 exact ⟨.inl rfl, _, rH H, rfl, A⟩
def HC (p0 : Int) : Option (Bool) :=
 some ((decide (p0 ≥ 0)) && (decide (p0 ≤ 1099511627776)))
theorem Ks {p0 q0} (M : HC p0 = some q0) (A : HH g h [] F) (hc : BP (cfg.still 113) av = [Ai p0] := by kernel_rfl) : ∃ v Q, BZ cfg g h 113 av v Q ∧ v = .bool q0 ∧ HH g Q [] F := by
 refine EE 9 [.tmp 2] hc ?_
 clear hc
 unfold HC at M
 refine bg 9 [(0, Ai p0)] fun D H => ?_
 refine AH 1 (B5 1 [] 7 H fun D H => AO 3 [(5, .bool (decide (p0 ≥ 0)))] H fun D H => Bi 3 (fun N Q => h = Q ∧ Has N 9 [(8, .bool ((decide (p0 ≥ 0)) && (decide (p0 ≤ 1099511627776))))]) ?_ ?_)
 ·cases B : (decide (p0 ≥ 0) : Bool) with
  | true =>
   replace H := H.kn 5 B
   exact AO 3 [(8, .bool (decide (p0 ≤ 1099511627776)))] H fun D H => A8 H B
  | false =>
   replace H := H.kn 5 B
   exact AO 3 [(8, .bool false)] H fun D H => A8 H B
 intro t D Q hK
 obtain ⟨e, H⟩ := hK
 subst e
 refine AN 1 [(2, .bool ((decide (p0 ≥ 0)) && (decide (p0 ≤ 1099511627776))))] H fun D H => AZ ?_
 obtain rfl := BB M
 exact ⟨.inl rfl, _, rH H, rfl, A⟩
def Et (p0 : Int) : Option (Int × Int) :=
 (HC p0).bind fun x1 => Ao (!x1) (some ((0 : Int), (6 : Int))) ((Gi p0).bind fun x2 => some (x2, (0 : Int)))
theorem Jc {p0 q0 q1} (M : Et p0 = some (q0, q1)) (A : HH g h [] F) (hc : BP (cfg.still 57) av = [Ai p0] := by kernel_rfl) : ∃ v Q, BZ cfg g h 57 av v Q ∧ v = .tuple [Ai q0, Ai q1] ∧ HH g Q [] F := by
 refine EE 9 [.tmp 2, .tmp 3] hc ?_
 clear hc
 unfold Et at M
 refine bg 9 [(0, Ai p0)] fun D H => ?_
 refine AH 2 (AN 2 [] H fun D H => AS (AH 3 ?_))
 obtain ⟨x1, X, M⟩ := bind_some M
 obtain ⟨v1, h1, R, rfl, E⟩ := Ks (av := [Ai p0]) X (A.cut 0)
 replace A := A.Dx E
 refine BC 1 [] 5 R H fun D t H => ?_
 refine AN 1 [(6, .bool (!x1))] H fun D H => Ac 6 H M (fun B M H => ?_) fun B M H => ?_
 ·refine AH 2 (AN 2 [(2, Ai 0), (3, Ai 6)] H fun D H => AZ ?_)
  obtain ⟨rfl, rfl⟩ := B4 M
  exact ⟨.inl rfl, _, rH H, rfl, A⟩
 refine B3 4 id ?_
 obtain ⟨x2, X, M⟩ := bind_some M
 obtain ⟨v1, h2, R, rfl, E⟩ := JQ (av := [Ai p0]) X (A.cut 0)
 replace A := A.Dx E
 refine BC 1 [] 8 R H fun D t H => ?_
 refine AN 2 [(2, Ai x2), (3, Ai 0)] H fun D H => AZ ?_
 obtain ⟨rfl, rfl⟩ := B4 M
 exact ⟨.inl rfl, _, rH H, rfl, A⟩
def Dh (p0 : List UInt8) : Option ((List UInt8)) :=
 Cl (decide (p0.length ≤ 4294967280)) <| some ((Lib.cut p0 ([0] : UV)).1)
theorem EB {p0 q0} (M : Dh p0 = some q0) (A : HH g h [] F) (hc : BP (cfg.still 78) av = [.str p0] := by kernel_rfl) : ∃ v Q, BZ cfg g h 78 av v Q ∧ v = .str q0 ∧ HH g Q [] F := by
 refine EE 13 [.tmp 2] hc ?_
 clear hc
 unfold Dh at M
 refine bg 13 [(0, .str p0)] fun D H => ?_
 refine AH 1 (B5 1 [] 9 H fun D H => ?_)
 obtain ⟨B, M⟩ := Aq M
 refine B0 1 [] 8 (.tuple [.str ((Lib.cut p0 ([0] : UV)).1), .str ((Lib.cut p0 ([0] : UV)).2.1), .bool ((Lib.cut p0 ([0] : UV)).2.2)]) h H (fun D => Steps.call (by kernel_rfl) (VW (C := cfg) (f := 139) (a := 0) (by kernel_rfl) (l := exts) rfl (by kernel_rfl) B)) fun D t H => ?_
 refine B5 7 [(3, .str ((Lib.cut p0 ([0] : UV)).1))] 2 H fun D H => AN 2 [(2, .str ((Lib.cut p0 ([0] : UV)).1))] H fun D H => AZ ?_
 obtain rfl := BB M
 exact ⟨.inl rfl, _, rH H, rfl, A⟩
end
end Go.Av.L
