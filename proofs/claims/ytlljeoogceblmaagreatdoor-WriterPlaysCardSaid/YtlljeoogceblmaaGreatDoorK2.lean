/-
 A part.
-/
import Derived.Test.YtlljeoogceblmaaGreatDoorKCfg
import Derived.Test.YtlljeoogceblmaaGreatDoorK0
import Derived.Test.YtlljeoogceblmaaGreatDoorK1
namespace Go.Av.L
open Go.Av Go.Lib
open IntKind (i64 u64)
set_option maxRecDepth 10000
set_option linter.unusedVariables false
set_option linter.unusedSimpArgs false
variable {g : Gd} {h : AD} {F : List Ck} {av : List AB}
noncomputable section
def Fu (p0 : AN) (p1 : AS) : Option (AN) :=
 some (⟨p1.Name, p0.Ax, p0.Kind, p0.Mode, p0.Bm, p0.B3, p0.DE, p0.Time, p0.Aj, p0.Al, p0.Ap, p0.Ay, p0.Form⟩ : AN)
theorem Kz {p0 p1 bp0 bp1 u0} (M : Fu p0 p1 = some u0) (A : HH g h [.obj bp0 (.cells none 2 (AJ p0)), .obj bp1 (.cells none 2 (AE p1))] F) (hc : BB (cfg.still 127) av = [.ptr (some (bp0, 0)), .ptr (some (bp1, 0))] := by kernel_rfl) : ∃ v Q, BE cfg g h 127 av v Q ∧ v = .tuple [] ∧ HH g Q [.obj bp0 (.cells none 2 (AJ u0)), .obj bp1 (.cells none 2 (AE p1))] F := by
 refine Dp 8 [] hc ?_
 clear hc
 unfold Fu at M
 refine bg 8 [(0, .ptr (some (bp0, 0))), (1, .ptr (some (bp1, 0)))] fun D H => ?_
 refine BY 6 (AV 2 [(3, .ptr (some (bp0, 0)))] 5 1 0 A H fun D t H => ?_)
 obtain ⟨h1, X, A⟩ := A.s0 0 [.str p1.Name] [_, _, _, _, _, _, _, _, _, _, _, _, _]
 refine ER 2 [] X H fun D t H => ?_
 refine at_nil ?_
 obtain rfl := Ah M
 refine ⟨.inr rfl, .tuple [], rH H, ?_⟩
 exact ⟨rfl, A⟩
def CA (p0 : List UInt8) (p1 : List UInt8) (p2_10 : AS) (p3 : AN) (p4 : List AA) : Option (AN × (List AA)) :=
 (Fu p3 p2_10).bind fun x1 => (BL x1).bind fun x2 => Af (x2 == 0) (some (x1, p4)) (BW (Ou 32 (p4.length + ([(⟨p0, p1⟩ : AA)] : List AA).length)) <| some (p3, (p4 ++ ([(⟨p0, p1⟩ : AA)] : List AA))))
theorem He {p0 p1 p2_10 p3 p4 bp2_10 bp3 bp4 rp4_0 u1 u3} (M : CA p0 p1 p2_10 p3 p4 = some (u1, u3)) (A : HH g h [.obj bp2_10 (.cells none 2 (AE p2_10)), .obj bp3 (.cells none 2 (AJ p3)), .obj bp4 (.cells none 2 [AR rp4_0 p4.length]), .Ag rp4_0 117 (Ag AI p4)] F) (hc : BB (cfg.still 120) av = [.str p0, .str p1, .func (.func 127) [] [.ptr (some (bp2_10, 0))], .ptr (some (bp3, 0)), .ptr (some (bp4, 0))] := by kernel_rfl) : ∃ v Q, BE cfg g h 120 av v Q ∧ ∃ (r'3 : Option Nat), v = .tuple [] ∧ HH g Q [.obj bp2_10 (.cells none 2 (AE p2_10)), .obj bp3 (.cells none 2 (AJ u1)), .obj bp4 (.cells none 2 [AR r'3 u3.length]), .Ag r'3 117 (Ag AI u3)] F := by
 refine Dp 22 [] hc ?_
 clear hc
 unfold CA at M
 refine bg 22 [(0, .str p0), (1, .str p1), (2, .func (.func 127) [] [.ptr (some (bp2_10, 0))]), (3, .ptr (some (bp3, 0))), (4, .ptr (some (bp4, 0)))] fun D H => ?_
 refine AG 3 (Ac 9 _ _ H (fun D => .of (BH (by kernel_rfl) (A.EX 1 rfl (o := 0) (n := 13) ⟨Nat.le_of_ble_eq_true rfl, rfl⟩))) fun D t H => ?_)
 obtain ⟨h1, e1, A⟩ := A.pu (.cells none 2 [.str ([] : UV), .str ([] : UV), Ab 0, Ai 0, Ai 0, Ai 0, Ai 0, Ai 0, .str ([] : UV), .str ([] : UV), Ai 0, Ai 0, Ai 0])
 refine BI 8 (.ptr (some (h.size, 0))) e1 H fun D t H => ?_
 obtain ⟨h2, X, A⟩ := A.s0 0 (AJ p3) [_, _, _, _, _, _, _, _, _, _, _, _, _]
 refine CU X H fun D t H => ?_
 refine BZ id (AQ (AG 2 ?_))
 obtain ⟨x1, X, M⟩ := bind_some M
 obtain ⟨v1, h3, R, rfl, E⟩ := Kz (av := [.ptr (some (h.size, 0)), .ptr (some (bp2_10, 0))]) X (A.cut 2)
 replace A := A.g22 E
 refine Eu 1 [] R H fun D t H => ?_
 refine CT 3 id (Ac 12 _ _ H (fun D => .of (BH (by kernel_rfl) (A.EX 0 rfl (o := 0) (n := 13) ⟨Nat.le_of_ble_eq_true rfl, rfl⟩))) fun D t H => ?_)
 obtain ⟨x2, X, M⟩ := bind_some M
 obtain ⟨v1, h4, R, rfl, E⟩ := Cj (av := [.agg (AJ x1)]) X (A.cut 0)
 replace A := A.Ee E
 refine A9 13 R H fun D t H => ?_
 refine AM 1 [(14, .bool (x2 == 0))] H fun D H => Ae 14 H M (fun B M H => ?_) fun B M H => ?_
 ·refine AG 2 (Ac 15 _ _ H (fun D => .of (BH (by kernel_rfl) (A.EX 0 rfl (o := 0) (n := 13) ⟨Nat.le_of_ble_eq_true rfl, rfl⟩))) fun D t H => ?_)
  obtain ⟨h5, X, A⟩ := A.s2 0 (AJ x1) [_, _, _, _, _, _, _, _, _, _, _, _, _]
  refine CU X H fun D t H => ?_
  refine BZ id (AX ?_)
  obtain ⟨rfl, rfl⟩ := Cx M
  refine ⟨.inl rfl, .tuple [], rH H, ?_⟩
  replace A := A.k4 1 2 3 4
  exact ⟨rp4_0, rfl, A⟩
 refine FM 7 id (NR 16 3 0 A H fun D t H => ?_)
 refine AF 3 [(19, .agg [.str p0, .str p1])] H fun D H => ?_
 obtain ⟨h6, e2, A⟩ := A.pL 117 [.str p0, .str p1]
 refine BI 20 (AR (some h4.size) (([(⟨p0, p1⟩ : AA)] : List AA).length)) e2 H fun D t H => ?_
 obtain ⟨B, M⟩ := AP M
 obtain ⟨r1, h7, X, E⟩ := HH.Js AY (by decide) A 5 (xs := p4) (ys := ([(⟨p0, p1⟩ : AA)] : List AA)) rfl (Du A 0 rfl (n := ([(⟨p0, p1⟩ : AA)] : List AA).length) (z := 2) rfl (by decide)) rfl rfl B
 replace A : HH g h7 [.Ag (some h4.size) 117 ([.str p0, .str p1]), _, _, _, _, .Ag r1 117 (Ag AI (p4 ++ ([(⟨p0, p1⟩ : AA)] : List AA)))] F := E
 replace A := A.k5 1 2 3 4 5
 refine Ac 21 _ _ H (fun D => .of (Ge (s := DW rp4_0 p4.length) (by kernel_rfl) X)) fun D t H => ?_
 obtain ⟨h8, X, E⟩ := A.st 3 rfl (o := 0) (new := [AR r1 ((p4 ++ ([(⟨p0, p1⟩ : AA)] : List AA)).length)]) (ds := [AR r1 ((p4 ++ ([(⟨p0, p1⟩ : AA)] : List AA)).length)]) (Nat.le_of_ble_eq_true rfl) rfl rfl
 replace A : HH g h8 [_, _, _, .obj bp4 (.cells none 2 [AR r1 ((p4 ++ ([(⟨p0, p1⟩ : AA)] : List AA)).length)]), _] F := E
 refine KZ X H fun D t H => ?_
 refine at_nil ?_
 obtain ⟨rfl, rfl⟩ := Cx M
 refine ⟨.inr rfl, .tuple [], rH H, ?_⟩
 replace A := A.k4 1 2 3 4
 exact ⟨r1, rfl, A⟩
def Fg (p0 : AN) (p1 : Int) : Option (AN) :=
 some (⟨p0.Name, p0.Ax, p0.Kind, p0.Mode, p0.Bm, p0.B3, p1, p0.Time, p0.Aj, p0.Al, p0.Ap, p0.Ay, p0.Form⟩ : AN)
theorem K1 {p0 p1 bp0 bp1 u0} (M : Fg p0 p1 = some u0) (A : HH g h [.obj bp0 (.cells none 2 (AJ p0)), .obj bp1 (.cells none 2 [Ai p1])] F) (hc : BB (cfg.still 128) av = [.ptr (some (bp0, 0)), .ptr (some (bp1, 0))] := by kernel_rfl) : ∃ v Q, BE cfg g h 128 av v Q ∧ v = .tuple [] ∧ HH g Q [.obj bp0 (.cells none 2 (AJ u0)), .obj bp1 (.cells none 2 [Ai p1])] F := by
 refine Dp 7 [] hc ?_
 clear hc
 unfold Fg at M
 refine bg 7 [(0, .ptr (some (bp0, 0))), (1, .ptr (some (bp1, 0)))] fun D H => ?_
 refine BY 5 (AV 1 [(3, .ptr (some (bp0, 0)))] 4 1 0 A H fun D t H => ?_)
 obtain ⟨h1, X, A⟩ := A.s0 6 [Ai p1] [_, _, _, _, _, _, _, _, _, _, _, _, _]
 refine ER 2 [] X H fun D t H => ?_
 refine at_nil ?_
 obtain rfl := Ah M
 refine ⟨.inr rfl, .tuple [], rH H, ?_⟩
 exact ⟨rfl, A⟩
def CB (p0 : List UInt8) (p1 : List UInt8) (p2_10 : Int) (p3 : AN) (p4 : List AA) : Option (AN × (List AA)) :=
 (Fg p3 p2_10).bind fun x1 => (BL x1).bind fun x2 => Af (x2 == 0) (some (x1, p4)) (BW (Ou 32 (p4.length + ([(⟨p0, p1⟩ : AA)] : List AA).length)) <| some (p3, (p4 ++ ([(⟨p0, p1⟩ : AA)] : List AA))))
theorem Hv {p0 p1 p2_10 p3 p4 bp2_10 bp3 bp4 rp4_0 u1 u3} (M : CB p0 p1 p2_10 p3 p4 = some (u1, u3)) (A : HH g h [.obj bp2_10 (.cells none 2 [Ai p2_10]), .obj bp3 (.cells none 2 (AJ p3)), .obj bp4 (.cells none 2 [AR rp4_0 p4.length]), .Ag rp4_0 117 (Ag AI p4)] F) (hc : BB (cfg.still 120) av = [.str p0, .str p1, .func (.func 128) [] [.ptr (some (bp2_10, 0))], .ptr (some (bp3, 0)), .ptr (some (bp4, 0))] := by kernel_rfl) : ∃ v Q, BE cfg g h 120 av v Q ∧ ∃ (r'3 : Option Nat), v = .tuple [] ∧ HH g Q [.obj bp2_10 (.cells none 2 [Ai p2_10]), .obj bp3 (.cells none 2 (AJ u1)), .obj bp4 (.cells none 2 [AR r'3 u3.length]), .Ag r'3 117 (Ag AI u3)] F := by
 refine Dp 22 [] hc ?_
 clear hc
 unfold CB at M
 refine bg 22 [(0, .str p0), (1, .str p1), (2, .func (.func 128) [] [.ptr (some (bp2_10, 0))]), (3, .ptr (some (bp3, 0))), (4, .ptr (some (bp4, 0)))] fun D H => ?_
 refine AG 3 (Ac 9 _ _ H (fun D => .of (BH (by kernel_rfl) (A.EX 1 rfl (o := 0) (n := 13) ⟨Nat.le_of_ble_eq_true rfl, rfl⟩))) fun D t H => ?_)
 obtain ⟨h1, e1, A⟩ := A.pu (.cells none 2 [.str ([] : UV), .str ([] : UV), Ab 0, Ai 0, Ai 0, Ai 0, Ai 0, Ai 0, .str ([] : UV), .str ([] : UV), Ai 0, Ai 0, Ai 0])
 refine BI 8 (.ptr (some (h.size, 0))) e1 H fun D t H => ?_
 obtain ⟨h2, X, A⟩ := A.s0 0 (AJ p3) [_, _, _, _, _, _, _, _, _, _, _, _, _]
 refine CU X H fun D t H => ?_
 refine BZ id (AQ (AG 2 ?_))
 obtain ⟨x1, X, M⟩ := bind_some M
 obtain ⟨v1, h3, R, rfl, E⟩ := K1 (av := [.ptr (some (h.size, 0)), .ptr (some (bp2_10, 0))]) X (A.cut 2)
 replace A := A.g22 E
 refine Eu 1 [] R H fun D t H => ?_
 refine CT 3 id (Ac 12 _ _ H (fun D => .of (BH (by kernel_rfl) (A.EX 0 rfl (o := 0) (n := 13) ⟨Nat.le_of_ble_eq_true rfl, rfl⟩))) fun D t H => ?_)
 obtain ⟨x2, X, M⟩ := bind_some M
 obtain ⟨v1, h4, R, rfl, E⟩ := Cj (av := [.agg (AJ x1)]) X (A.cut 0)
 replace A := A.Ee E
 refine A9 13 R H fun D t H => ?_
 refine AM 1 [(14, .bool (x2 == 0))] H fun D H => Ae 14 H M (fun B M H => ?_) fun B M H => ?_
 ·refine AG 2 (Ac 15 _ _ H (fun D => .of (BH (by kernel_rfl) (A.EX 0 rfl (o := 0) (n := 13) ⟨Nat.le_of_ble_eq_true rfl, rfl⟩))) fun D t H => ?_)
  obtain ⟨h5, X, A⟩ := A.s2 0 (AJ x1) [_, _, _, _, _, _, _, _, _, _, _, _, _]
  refine CU X H fun D t H => ?_
  refine BZ id (AX ?_)
  obtain ⟨rfl, rfl⟩ := Cx M
  refine ⟨.inl rfl, .tuple [], rH H, ?_⟩
  replace A := A.k4 1 2 3 4
  exact ⟨rp4_0, rfl, A⟩
 refine FM 7 id (NR 16 3 0 A H fun D t H => ?_)
 refine AF 3 [(19, .agg [.str p0, .str p1])] H fun D H => ?_
 obtain ⟨h6, e2, A⟩ := A.pL 117 [.str p0, .str p1]
 refine BI 20 (AR (some h4.size) (([(⟨p0, p1⟩ : AA)] : List AA).length)) e2 H fun D t H => ?_
 obtain ⟨B, M⟩ := AP M
 obtain ⟨r1, h7, X, E⟩ := HH.Js AY (by decide) A 5 (xs := p4) (ys := ([(⟨p0, p1⟩ : AA)] : List AA)) rfl (Du A 0 rfl (n := ([(⟨p0, p1⟩ : AA)] : List AA).length) (z := 2) rfl (by decide)) rfl rfl B
 replace A : HH g h7 [.Ag (some h4.size) 117 ([.str p0, .str p1]), _, _, _, _, .Ag r1 117 (Ag AI (p4 ++ ([(⟨p0, p1⟩ : AA)] : List AA)))] F := E
 replace A := A.k5 1 2 3 4 5
 refine Ac 21 _ _ H (fun D => .of (Ge (s := DW rp4_0 p4.length) (by kernel_rfl) X)) fun D t H => ?_
 obtain ⟨h8, X, E⟩ := A.st 3 rfl (o := 0) (new := [AR r1 ((p4 ++ ([(⟨p0, p1⟩ : AA)] : List AA)).length)]) (ds := [AR r1 ((p4 ++ ([(⟨p0, p1⟩ : AA)] : List AA)).length)]) (Nat.le_of_ble_eq_true rfl) rfl rfl
 replace A : HH g h8 [_, _, _, .obj bp4 (.cells none 2 [AR r1 ((p4 ++ ([(⟨p0, p1⟩ : AA)] : List AA)).length)]), _] F := E
 refine KZ X H fun D t H => ?_
 refine at_nil ?_
 obtain ⟨rfl, rfl⟩ := Cx M
 refine ⟨.inr rfl, .tuple [], rH H, ?_⟩
 replace A := A.k4 1 2 3 4
 exact ⟨r1, rfl, A⟩
def Fs (p0 : AN) (p1 : AS) : Option (AN) :=
 some (⟨p0.Name, p0.Ax, p0.Kind, p0.Mode, p1.Bm, p0.B3, p0.DE, p0.Time, p0.Aj, p0.Al, p0.Ap, p0.Ay, p0.Form⟩ : AN)
theorem Ky {p0 p1 bp0 bp1 u0} (M : Fs p0 p1 = some u0) (A : HH g h [.obj bp0 (.cells none 2 (AJ p0)), .obj bp1 (.cells none 2 (AE p1))] F) (hc : BB (cfg.still 129) av = [.ptr (some (bp0, 0)), .ptr (some (bp1, 0))] := by kernel_rfl) : ∃ v Q, BE cfg g h 129 av v Q ∧ v = .tuple [] ∧ HH g Q [.obj bp0 (.cells none 2 (AJ u0)), .obj bp1 (.cells none 2 (AE p1))] F := by
 refine Dp 8 [] hc ?_
 clear hc
 unfold Fs at M
 refine bg 8 [(0, .ptr (some (bp0, 0))), (1, .ptr (some (bp1, 0)))] fun D H => ?_
 refine BY 6 (AV 2 [(3, .ptr (some (bp0, 0)))] 5 1 4 A H fun D t H => ?_)
 obtain ⟨h1, X, A⟩ := A.s0 4 [Ai p1.Bm] [_, _, _, _, _, _, _, _, _, _, _, _, _]
 refine ER 2 [] X H fun D t H => ?_
 refine at_nil ?_
 obtain rfl := Ah M
 refine ⟨.inr rfl, .tuple [], rH H, ?_⟩
 exact ⟨rfl, A⟩
def CC (p0 : List UInt8) (p1 : List UInt8) (p2_10 : AS) (p3 : AN) (p4 : List AA) : Option (AN × (List AA)) :=
 (Fs p3 p2_10).bind fun x1 => (BL x1).bind fun x2 => Af (x2 == 0) (some (x1, p4)) (BW (Ou 32 (p4.length + ([(⟨p0, p1⟩ : AA)] : List AA).length)) <| some (p3, (p4 ++ ([(⟨p0, p1⟩ : AA)] : List AA))))
theorem Hz {p0 p1 p2_10 p3 p4 bp2_10 bp3 bp4 rp4_0 u1 u3} (M : CC p0 p1 p2_10 p3 p4 = some (u1, u3)) (A : HH g h [.obj bp2_10 (.cells none 2 (AE p2_10)), .obj bp3 (.cells none 2 (AJ p3)), .obj bp4 (.cells none 2 [AR rp4_0 p4.length]), .Ag rp4_0 117 (Ag AI p4)] F) (hc : BB (cfg.still 120) av = [.str p0, .str p1, .func (.func 129) [] [.ptr (some (bp2_10, 0))], .ptr (some (bp3, 0)), .ptr (some (bp4, 0))] := by kernel_rfl) : ∃ v Q, BE cfg g h 120 av v Q ∧ ∃ (r'3 : Option Nat), v = .tuple [] ∧ HH g Q [.obj bp2_10 (.cells none 2 (AE p2_10)), .obj bp3 (.cells none 2 (AJ u1)), .obj bp4 (.cells none 2 [AR r'3 u3.length]), .Ag r'3 117 (Ag AI u3)] F := by
 refine Dp 22 [] hc ?_
 clear hc
 unfold CC at M
 refine bg 22 [(0, .str p0), (1, .str p1), (2, .func (.func 129) [] [.ptr (some (bp2_10, 0))]), (3, .ptr (some (bp3, 0))), (4, .ptr (some (bp4, 0)))] fun D H => ?_
 refine AG 3 (Ac 9 _ _ H (fun D => .of (BH (by kernel_rfl) (A.EX 1 rfl (o := 0) (n := 13) ⟨Nat.le_of_ble_eq_true rfl, rfl⟩))) fun D t H => ?_)
 obtain ⟨h1, e1, A⟩ := A.pu (.cells none 2 [.str ([] : UV), .str ([] : UV), Ab 0, Ai 0, Ai 0, Ai 0, Ai 0, Ai 0, .str ([] : UV), .str ([] : UV), Ai 0, Ai 0, Ai 0])
 refine BI 8 (.ptr (some (h.size, 0))) e1 H fun D t H => ?_
 obtain ⟨h2, X, A⟩ := A.s0 0 (AJ p3) [_, _, _, _, _, _, _, _, _, _, _, _, _]
 refine CU X H fun D t H => ?_
 refine BZ id (AQ (AG 2 ?_))
 obtain ⟨x1, X, M⟩ := bind_some M
 obtain ⟨v1, h3, R, rfl, E⟩ := Ky (av := [.ptr (some (h.size, 0)), .ptr (some (bp2_10, 0))]) X (A.cut 2)
 replace A := A.g22 E
 refine Eu 1 [] R H fun D t H => ?_
 refine CT 3 id (Ac 12 _ _ H (fun D => .of (BH (by kernel_rfl) (A.EX 0 rfl (o := 0) (n := 13) ⟨Nat.le_of_ble_eq_true rfl, rfl⟩))) fun D t H => ?_)
 obtain ⟨x2, X, M⟩ := bind_some M
 obtain ⟨v1, h4, R, rfl, E⟩ := Cj (av := [.agg (AJ x1)]) X (A.cut 0)
 replace A := A.Ee E
 refine A9 13 R H fun D t H => ?_
 refine AM 1 [(14, .bool (x2 == 0))] H fun D H => Ae 14 H M (fun B M H => ?_) fun B M H => ?_
 ·refine AG 2 (Ac 15 _ _ H (fun D => .of (BH (by kernel_rfl) (A.EX 0 rfl (o := 0) (n := 13) ⟨Nat.le_of_ble_eq_true rfl, rfl⟩))) fun D t H => ?_)
  obtain ⟨h5, X, A⟩ := A.s2 0 (AJ x1) [_, _, _, _, _, _, _, _, _, _, _, _, _]
  refine CU X H fun D t H => ?_
  refine BZ id (AX ?_)
  obtain ⟨rfl, rfl⟩ := Cx M
  refine ⟨.inl rfl, .tuple [], rH H, ?_⟩
  replace A := A.k4 1 2 3 4
  exact ⟨rp4_0, rfl, A⟩
 refine FM 7 id (NR 16 3 0 A H fun D t H => ?_)
 refine AF 3 [(19, .agg [.str p0, .str p1])] H fun D H => ?_
 obtain ⟨h6, e2, A⟩ := A.pL 117 [.str p0, .str p1]
 refine BI 20 (AR (some h4.size) (([(⟨p0, p1⟩ : AA)] : List AA).length)) e2 H fun D t H => ?_
 obtain ⟨B, M⟩ := AP M
 obtain ⟨r1, h7, X, E⟩ := HH.Js AY (by decide) A 5 (xs := p4) (ys := ([(⟨p0, p1⟩ : AA)] : List AA)) rfl (Du A 0 rfl (n := ([(⟨p0, p1⟩ : AA)] : List AA).length) (z := 2) rfl (by decide)) rfl rfl B
 replace A : HH g h7 [.Ag (some h4.size) 117 ([.str p0, .str p1]), _, _, _, _, .Ag r1 117 (Ag AI (p4 ++ ([(⟨p0, p1⟩ : AA)] : List AA)))] F := E
 replace A := A.k5 1 2 3 4 5
 refine Ac 21 _ _ H (fun D => .of (Ge (s := DW rp4_0 p4.length) (by kernel_rfl) X)) fun D t H => ?_
 obtain ⟨h8, X, E⟩ := A.st 3 rfl (o := 0) (new := [AR r1 ((p4 ++ ([(⟨p0, p1⟩ : AA)] : List AA)).length)]) (ds := [AR r1 ((p4 ++ ([(⟨p0, p1⟩ : AA)] : List AA)).length)]) (Nat.le_of_ble_eq_true rfl) rfl rfl
 replace A : HH g h8 [_, _, _, .obj bp4 (.cells none 2 [AR r1 ((p4 ++ ([(⟨p0, p1⟩ : AA)] : List AA)).length)]), _] F := E
 refine KZ X H fun D t H => ?_
 refine at_nil ?_
 obtain ⟨rfl, rfl⟩ := Cx M
 refine ⟨.inr rfl, .tuple [], rH H, ?_⟩
 replace A := A.k4 1 2 3 4
 exact ⟨r1, rfl, A⟩
def Ft (p0 : AN) (p1 : AS) : Option (AN) :=
 some (⟨p0.Name, p0.Ax, p0.Kind, p0.Mode, p0.Bm, p0.B3, p0.DE, p0.Time, p1.Aj, p0.Al, p0.Ap, p0.Ay, p0.Form⟩ : AN)
theorem K0 {p0 p1 bp0 bp1 u0} (M : Ft p0 p1 = some u0) (A : HH g h [.obj bp0 (.cells none 2 (AJ p0)), .obj bp1 (.cells none 2 (AE p1))] F) (hc : BB (cfg.still 130) av = [.ptr (some (bp0, 0)), .ptr (some (bp1, 0))] := by kernel_rfl) : ∃ v Q, BE cfg g h 130 av v Q ∧ v = .tuple [] ∧ HH g Q [.obj bp0 (.cells none 2 (AJ u0)), .obj bp1 (.cells none 2 (AE p1))] F := by
 refine Dp 8 [] hc ?_
 clear hc
 unfold Ft at M
 refine bg 8 [(0, .ptr (some (bp0, 0))), (1, .ptr (some (bp1, 0)))] fun D H => ?_
 refine BY 6 (AV 2 [(3, .ptr (some (bp0, 0)))] 5 1 6 A H fun D t H => ?_)
 obtain ⟨h1, X, A⟩ := A.s0 8 [.str p1.Aj] [_, _, _, _, _, _, _, _, _, _, _, _, _]
 refine ER 2 [] X H fun D t H => ?_
 refine at_nil ?_
 obtain rfl := Ah M
 refine ⟨.inr rfl, .tuple [], rH H, ?_⟩
 exact ⟨rfl, A⟩
def B9 (p0 : List UInt8) (p1 : List UInt8) (p2_10 : AS) (p3 : AN) (p4 : List AA) : Option (AN × (List AA)) :=
 (Ft p3 p2_10).bind fun x1 => (BL x1).bind fun x2 => Af (x2 == 0) (some (x1, p4)) (BW (Ou 32 (p4.length + ([(⟨p0, p1⟩ : AA)] : List AA).length)) <| some (p3, (p4 ++ ([(⟨p0, p1⟩ : AA)] : List AA))))
theorem Hl {p0 p1 p2_10 p3 p4 bp2_10 bp3 bp4 rp4_0 u1 u3} (M : B9 p0 p1 p2_10 p3 p4 = some (u1, u3)) (A : HH g h [.obj bp2_10 (.cells none 2 (AE p2_10)), .obj bp3 (.cells none 2 (AJ p3)), .obj bp4 (.cells none 2 [AR rp4_0 p4.length]), .Ag rp4_0 117 (Ag AI p4)] F) (hc : BB (cfg.still 120) av = [.str p0, .str p1, .func (.func 130) [] [.ptr (some (bp2_10, 0))], .ptr (some (bp3, 0)), .ptr (some (bp4, 0))] := by kernel_rfl) : ∃ v Q, BE cfg g h 120 av v Q ∧ ∃ (r'3 : Option Nat), v = .tuple [] ∧ HH g Q [.obj bp2_10 (.cells none 2 (AE p2_10)), .obj bp3 (.cells none 2 (AJ u1)), .obj bp4 (.cells none 2 [AR r'3 u3.length]), .Ag r'3 117 (Ag AI u3)] F := by
 refine Dp 22 [] hc ?_
 clear hc
 unfold B9 at M
 refine bg 22 [(0, .str p0), (1, .str p1), (2, .func (.func 130) [] [.ptr (some (bp2_10, 0))]), (3, .ptr (some (bp3, 0))), (4, .ptr (some (bp4, 0)))] fun D H => ?_
 refine AG 3 (Ac 9 _ _ H (fun D => .of (BH (by kernel_rfl) (A.EX 1 rfl (o := 0) (n := 13) ⟨Nat.le_of_ble_eq_true rfl, rfl⟩))) fun D t H => ?_)
 obtain ⟨h1, e1, A⟩ := A.pu (.cells none 2 [.str ([] : UV), .str ([] : UV), Ab 0, Ai 0, Ai 0, Ai 0, Ai 0, Ai 0, .str ([] : UV), .str ([] : UV), Ai 0, Ai 0, Ai 0])
 refine BI 8 (.ptr (some (h.size, 0))) e1 H fun D t H => ?_
 obtain ⟨h2, X, A⟩ := A.s0 0 (AJ p3) [_, _, _, _, _, _, _, _, _, _, _, _, _]
 refine CU X H fun D t H => ?_
 refine BZ id (AQ (AG 2 ?_))
 obtain ⟨x1, X, M⟩ := bind_some M
 obtain ⟨v1, h3, R, rfl, E⟩ := K0 (av := [.ptr (some (h.size, 0)), .ptr (some (bp2_10, 0))]) X (A.cut 2)
 replace A := A.g22 E
 refine Eu 1 [] R H fun D t H => ?_
 refine CT 3 id (Ac 12 _ _ H (fun D => .of (BH (by kernel_rfl) (A.EX 0 rfl (o := 0) (n := 13) ⟨Nat.le_of_ble_eq_true rfl, rfl⟩))) fun D t H => ?_)
 obtain ⟨x2, X, M⟩ := bind_some M
 obtain ⟨v1, h4, R, rfl, E⟩ := Cj (av := [.agg (AJ x1)]) X (A.cut 0)
 replace A := A.Ee E
 refine A9 13 R H fun D t H => ?_
 refine AM 1 [(14, .bool (x2 == 0))] H fun D H => Ae 14 H M (fun B M H => ?_) fun B M H => ?_
 ·refine AG 2 (Ac 15 _ _ H (fun D => .of (BH (by kernel_rfl) (A.EX 0 rfl (o := 0) (n := 13) ⟨Nat.le_of_ble_eq_true rfl, rfl⟩))) fun D t H => ?_)
  obtain ⟨h5, X, A⟩ := A.s2 0 (AJ x1) [_, _, _, _, _, _, _, _, _, _, _, _, _]
  refine CU X H fun D t H => ?_
  refine BZ id (AX ?_)
  obtain ⟨rfl, rfl⟩ := Cx M
  refine ⟨.inl rfl, .tuple [], rH H, ?_⟩
  replace A := A.k4 1 2 3 4
  exact ⟨rp4_0, rfl, A⟩
 refine FM 7 id (NR 16 3 0 A H fun D t H => ?_)
 refine AF 3 [(19, .agg [.str p0, .str p1])] H fun D H => ?_
 obtain ⟨h6, e2, A⟩ := A.pL 117 [.str p0, .str p1]
 refine BI 20 (AR (some h4.size) (([(⟨p0, p1⟩ : AA)] : List AA).length)) e2 H fun D t H => ?_
 obtain ⟨B, M⟩ := AP M
 obtain ⟨r1, h7, X, E⟩ := HH.Js AY (by decide) A 5 (xs := p4) (ys := ([(⟨p0, p1⟩ : AA)] : List AA)) rfl (Du A 0 rfl (n := ([(⟨p0, p1⟩ : AA)] : List AA).length) (z := 2) rfl (by decide)) rfl rfl B
 replace A : HH g h7 [.Ag (some h4.size) 117 ([.str p0, .str p1]), _, _, _, _, .Ag r1 117 (Ag AI (p4 ++ ([(⟨p0, p1⟩ : AA)] : List AA)))] F := E
 replace A := A.k5 1 2 3 4 5
 refine Ac 21 _ _ H (fun D => .of (Ge (s := DW rp4_0 p4.length) (by kernel_rfl) X)) fun D t H => ?_
 obtain ⟨h8, X, E⟩ := A.st 3 rfl (o := 0) (new := [AR r1 ((p4 ++ ([(⟨p0, p1⟩ : AA)] : List AA)).length)]) (ds := [AR r1 ((p4 ++ ([(⟨p0, p1⟩ : AA)] : List AA)).length)]) (Nat.le_of_ble_eq_true rfl) rfl rfl
 replace A : HH g h8 [_, _, _, .obj bp4 (.cells none 2 [AR r1 ((p4 ++ ([(⟨p0, p1⟩ : AA)] : List AA)).length)]), _] F := E
 refine KZ X H fun D t H => ?_
 refine at_nil ?_
 obtain ⟨rfl, rfl⟩ := Cx M
 refine ⟨.inr rfl, .tuple [], rH H, ?_⟩
 replace A := A.k4 1 2 3 4
 exact ⟨r1, rfl, A⟩
def FJ (p0 : AS) (p1 : Int) : Option (AN × (List AA)) :=
 BW (decide (-9223372036854775808 ≤ p0.B3 ∧ p0.B3 ≤ 9223372036854775807)) <| (Cf ([103, 105, 100] : UV) (Lib.itoa p0.B3) p0 (⟨([] : UV), ([] : UV), p0.Kind, p0.Mode, (0 : Int), (0 : Int), (0 : Int), (0 : Int), ([] : UV), ([] : UV), p0.Ap, p0.Ay, (2 : Int)⟩ : AN) ([] : List AA)).bind fun (x1, x2) => (B5 ([103, 110, 97, 109, 101] : UV) p0.Al p0 x1 x2).bind fun (x3, x4) => (B7 ([108, 105, 110, 107, 112, 97, 116, 104] : UV) p0.Ax p0 x3 x4).bind fun (x5, x6) => (EE p0.Time).bind fun (x7, x8) => (Bd ([109, 116, 105, 109, 101] : UV) x7 p0 x5 x6).bind fun (x9, x10) => (CA ([112, 97, 116, 104] : UV) p0.Name p0 x9 x10).bind fun (x11, x12) => BW (decide (-9223372036854775808 ≤ p1 ∧ p1 ≤ 9223372036854775807)) <| (CB ([115, 105, 122, 101] : UV) (Lib.itoa p1) p1 x11 x12).bind fun (x13, x14) => BW (decide (-9223372036854775808 ≤ p0.Bm ∧ p0.Bm ≤ 9223372036854775807)) <| (CC ([117, 105, 100] : UV) (Lib.itoa p0.Bm) p0 x13 x14).bind fun (x15, x16) => (B9 ([117, 110, 97, 109, 101] : UV) p0.Aj p0 x15 x16).bind fun (x17, x18) => some (x17, x18)
theorem LG {p0 p1 q0 q1} (M : FJ p0 p1 = some (q0, q1)) (A : HH g h [] F) (hc : BB (cfg.still 66) av = [.agg (AE p0), Ai p1] := by kernel_rfl) : ∃ v Q, BE cfg g h 66 av v Q ∧ ∃ (Dp : Option Nat), v = .tuple [.agg (AJ q0), AR Dp q1.length] ∧ HH g Q [.Ag Dp 117 (Ag AI q1)] F := by
 refine Dp 70 [.cell 4 35, .tmp 5] hc ?_
 clear hc
 unfold FJ at M
 refine bg 70 [(0, .agg (AE p0)), (1, Ai p1)] fun D H => ?_
 refine AG 4 ?_
 obtain ⟨h1, e1, A⟩ := A.pu (.cells none 2 (AE p0))
 refine BI 2 (.ptr (some (h.size, 0))) e1 H fun D t H => ?_
 obtain ⟨h2, e2, A⟩ := A.pu (.cells none 2 [Ai p1])
 refine BI 3 (.ptr (some (h1.size, 0))) e2 H fun D t H => ?_
 obtain ⟨h3, e3, A⟩ := A.pu (.cells none 2 [.str ([] : UV), .str ([] : UV), Ab 0, Ai 0, Ai 0, Ai 0, Ai 0, Ai 0, .str ([] : UV), .str ([] : UV), Ai 0, Ai 0, Ai 0])
 refine BI 4 (.ptr (some (h2.size, 0))) e3 H fun D t H => ?_
 refine Bg 1 [] 11 H fun D H => AV 1 [] 12 2 2 A H fun D t H => ?_
 refine AV 1 [] 14 2 3 A H fun D t H => ?_
 refine AV 1 [] 16 2 8 A H fun D t H => ?_
 refine AV 1 [] 18 2 9 A H fun D t H => ?_
 obtain ⟨h4, e4, A⟩ := A.pu (.cells none 2 [.str ([] : UV), .str ([] : UV), Ab 0, Ai 0, Ai 0, Ai 0, Ai 0, Ai 0, .str ([] : UV), .str ([] : UV), Ai 0, Ai 0, Ai 0])
 refine MC 1 [(19, .agg [.str ([] : UV), .str ([] : UV), Ab p0.Kind, Ai p0.Mode, Ai (0 : Int), Ai (0 : Int), Ai (0 : Int), Ai (0 : Int), .str ([] : UV), .str ([] : UV), Ai p0.Ap, Ai p0.Ay, Ai (2 : Int)])] 6 (.ptr (some (h3.size, 0))) e4 H fun D t H => ?_
 obtain ⟨h5, X, E⟩ := A.st 0 rfl (o := 0) (new := [.str ([] : UV), .str ([] : UV), Ab p0.Kind, Ai p0.Mode, Ai 0, Ai 0, Ai 0, Ai 0, .str ([] : UV), .str ([] : UV), Ai p0.Ap, Ai p0.Ay, Ai 2]) (ds := [.str ([] : UV), .str ([] : UV), Ab p0.Kind, Ai p0.Mode, Ai 0, Ai 0, Ai 0, Ai 0, .str ([] : UV), .str ([] : UV), Ai p0.Ap, Ai p0.Ay, Ai 2]) (Nat.le_of_ble_eq_true rfl) rfl rfl
 replace A : HH g h5 [.obj h3.size (.cells none 2 [.str ([] : UV), .str ([] : UV), Ab p0.Kind, Ai p0.Mode, Ai 0, Ai 0, Ai 0, Ai 0, .str ([] : UV), .str ([] : UV), Ai p0.Ap, Ai p0.Ay, Ai 2]), .obj h2.size (.cells none 2 [.str ([] : UV), .str ([] : UV), Ab 0, Ai 0, Ai 0, Ai 0, Ai 0, Ai 0, .str ([] : UV), .str ([] : UV), Ai 0, Ai 0, Ai 0]), .obj h1.size (.cells none 2 [Ai p1]), .obj h.size (.cells none 2 (AE p0))] F := E
 refine CU X H fun D t H => ?_
 refine CT 1 id ?_
 obtain ⟨h6, e5, A⟩ := A.pu (.cells none 2 [.slice none 0])
 refine BI 7 (.ptr (some (h5.size, 0))) e5 H fun D t H => ?_
 refine CT 2 id (Bg 2 [(8, .func (.func 120) [] [.ptr (some (h3.size, 0)), .ptr (some (h5.size, 0))])] 6 H fun D H => AV 2 [(21, .func (.func 120) [] [.ptr (some (h3.size, 0)), .ptr (some (h5.size, 0))])] 23 4 5 A H fun D t H => ?_)
 obtain ⟨B, M⟩ := AP M
 refine Ac 24 (.str (Lib.itoa p0.B3)) h6 H (fun D => Steps.call (by kernel_rfl) (Hg (C := cfg) (f := 121) (by kernel_rfl) (l := exts) rfl (by kernel_rfl) B)) fun D t H => ?_
 replace A : HH g h6 [.Ag none 117 (Ag AI ([] : List AA)), .obj h5.size (.cells none 2 [AR none (([] : List AA).length)]), _, _, _, _] F := A.XI 117
 replace A := A.k6 5 2 1 0 3 4
 obtain ⟨⟨x1, x2⟩, X, M⟩ := bind_some M
 obtain ⟨v1, h7, R, r1, rfl, E⟩ := Ir (av := [.str ([103, 105, 100] : UV), .str (Lib.itoa p0.B3), .func (.func 122) [] [.ptr (some (h.size, 0))], .ptr (some (h3.size, 0)), .ptr (some (h5.size, 0))]) X (A.cut 4)
 replace A := A.YA E
 refine Eu 1 [] R H fun D t H => ?_
 refine CT 5 id (AV 2 [(27, .func (.func 120) [] [.ptr (some (h3.size, 0)), .ptr (some (h5.size, 0))])] 29 0 7 A H fun D t H => ?_)
 obtain ⟨⟨x3, x4⟩, X, M⟩ := bind_some M
 obtain ⟨v1, h8, R, r2, rfl, E⟩ := H6 (av := [.str ([103, 110, 97, 109, 101] : UV), .str p0.Al, .func (.func 123) [] [.ptr (some (h.size, 0))], .ptr (some (h3.size, 0)), .ptr (some (h5.size, 0))]) X (A.cut 4)
 replace A := A.YA E
 refine Eu 1 [] R H fun D t H => ?_
 refine CT 5 id (AV 2 [(32, .func (.func 120) [] [.ptr (some (h3.size, 0)), .ptr (some (h5.size, 0))])] 34 0 1 A H fun D t H => ?_)
 obtain ⟨⟨x5, x6⟩, X, M⟩ := bind_some M
 obtain ⟨v1, h9, R, r3, rfl, E⟩ := Ho (av := [.str ([108, 105, 110, 107, 112, 97, 116, 104] : UV), .str p0.Ax, .func (.func 124) [] [.ptr (some (h.size, 0))], .ptr (some (h3.size, 0)), .ptr (some (h5.size, 0))]) X (A.cut 4)
 replace A := A.YA E
 refine Eu 1 [] R H fun D t H => ?_
 refine CT 8 id (BC 1 [] 39 _ _ H (fun D => .of (BH (by kernel_rfl) (A.EX 0 rfl (o := 10) (n := 2) ⟨Nat.le_of_ble_eq_true rfl, rfl⟩))) fun D t H => ?_)
 obtain ⟨⟨x7, x8⟩, X, M⟩ := bind_some M
 obtain ⟨v1, h10, R, rfl, E⟩ := O0 (av := [.agg [Ai p0.Time.Ci, Ai p0.Time.BQ]]) X (A.cut 0)
 replace A := A.Ee E
 refine A9 40 R H fun D t H => ?_
 refine Bg 5 [(9, .str x7)] 4 H fun D H => ?_
 obtain ⟨⟨x9, x10⟩, X, M⟩ := bind_some M
 obtain ⟨v1, h11, R, r4, rfl, E⟩ := H0 (av := [.str ([109, 116, 105, 109, 101] : UV), .str x7, .func (.func 126) [] [.ptr (some (h.size, 0))], .ptr (some (h3.size, 0)), .ptr (some (h5.size, 0))]) X (A.cut 4)
 replace A := A.YA E
 refine Eu 3 [] R H fun D t H => ?_
 refine CT 5 id (AV 2 [(47, .func (.func 120) [] [.ptr (some (h3.size, 0)), .ptr (some (h5.size, 0))])] 49 0 0 A H fun D t H => ?_)
 obtain ⟨⟨x11, x12⟩, X, M⟩ := bind_some M
 obtain ⟨v1, h12, R, r5, rfl, E⟩ := He (av := [.str ([112, 97, 116, 104] : UV), .str p0.Name, .func (.func 127) [] [.ptr (some (h.size, 0))], .ptr (some (h3.size, 0)), .ptr (some (h5.size, 0))]) X (A.cut 4)
 replace A := A.YA E
 refine Eu 1 [] R H fun D t H => ?_
 refine CT 5 id (AV 1 [(52, .func (.func 120) [] [.ptr (some (h3.size, 0)), .ptr (some (h5.size, 0))])] 53 5 0 A H fun D t H => ?_)
 obtain ⟨B, M⟩ := AP M
 refine Ac 54 (.str (Lib.itoa p1)) h12 H (fun D => Steps.call (by kernel_rfl) (Hg (C := cfg) (f := 121) (by kernel_rfl) (l := exts) rfl (by kernel_rfl) B)) fun D t H => ?_
 replace A := A.k6 5 1 2 3 0 4
 obtain ⟨⟨x13, x14⟩, X, M⟩ := bind_some M
 obtain ⟨v1, h13, R, r6, rfl, E⟩ := Hv (av := [.str ([115, 105, 122, 101] : UV), .str (Lib.itoa p1), .func (.func 128) [] [.ptr (some (h1.size, 0))], .ptr (some (h3.size, 0)), .ptr (some (h5.size, 0))]) X (A.cut 4)
 replace A := A.YA E
 refine Eu 1 [] R H fun D t H => ?_
 refine CT 6 id (AV 2 [(57, .func (.func 120) [] [.ptr (some (h3.size, 0)), .ptr (some (h5.size, 0))])] 59 4 4 A H fun D t H => ?_)
 obtain ⟨B, M⟩ := AP M
 refine Ac 60 (.str (Lib.itoa p0.Bm)) h13 H (fun D => Steps.call (by kernel_rfl) (Hg (C := cfg) (f := 121) (by kernel_rfl) (l := exts) rfl (by kernel_rfl) B)) fun D t H => ?_
 replace A := A.k6 4 1 2 3 0 5
 obtain ⟨⟨x15, x16⟩, X, M⟩ := bind_some M
 obtain ⟨v1, h14, R, r7, rfl, E⟩ := Hz (av := [.str ([117, 105, 100] : UV), .str (Lib.itoa p0.Bm), .func (.func 129) [] [.ptr (some (h.size, 0))], .ptr (some (h3.size, 0)), .ptr (some (h5.size, 0))]) X (A.cut 4)
 replace A := A.YA E
 refine Eu 1 [] R H fun D t H => ?_
 refine CT 5 id (AV 2 [(63, .func (.func 120) [] [.ptr (some (h3.size, 0)), .ptr (some (h5.size, 0))])] 65 0 6 A H fun D t H => ?_)
 obtain ⟨⟨x17, x18⟩, X, M⟩ := bind_some M
 obtain ⟨v1, h15, R, r8, rfl, E⟩ := Hl (av := [.str ([117, 110, 97, 109, 101] : UV), .str p0.Aj, .func (.func 130) [] [.ptr (some (h.size, 0))], .ptr (some (h3.size, 0)), .ptr (some (h5.size, 0))]) X (A.cut 4)
 replace A := A.YA E
 refine Eu 1 [] R H fun D t H => ?_
 refine BZ id (AQ (PR 13 4 [(0, []), (1, []), (2, [1]), (3, [])] ?_))
 refine BJ 68 (.agg (AJ x17)) h15 [(0, h3.size)] (g.BN) H (fun D => .of (BH (by kernel_rfl) (A.la 1 0 13))) (fun D H => ?_)
 refine BJ 69 (AR r8 x18.length) h15 [(1, h5.size), (0, h3.size)] (g.BN) H (fun D => .of (Fo (by kernel_rfl) (A.l1 2 0))) (fun D H => ?_)
 replace A := A.k6 5 0 1 2 3 4
 have E := A.GN 1 (pr := [h5.size]) (.cons 2 rfl (by simp [Ck.ids]) .nil)
 obtain ⟨h16, X, E⟩ := E.st 0 rfl (o := 0) (new := (AJ x17)) (ds := (AJ x17)) (Nat.le_of_ble_eq_true rfl) rfl rfl
 replace A := A.aY E
 refine YC (.tuple []) h16 [(1, h5.size), (0, h3.size)] (h5.size :: g.BN) H (fun D => .of (UB (by kernel_rfl) (P8 X rfl))) (fun D H => ?_)
 refine AM 1 [(5, AR r8 x18.length)] H fun D H => AX ?_
 obtain ⟨rfl, rfl⟩ := Cx M
 refine ⟨.inl rfl, .tuple [.agg (AJ x17), AR r8 x18.length], Cu (.cell (rT H) (Cb (by kernel_rfl) (by kernel_rfl) (A.la 0 0 13)) (.tmp (rT H) .nil)), ?_⟩
 replace A := A.k1 4
 exact ⟨r8, rfl, A⟩
def E6 (p0 : AS) (p1 : Int) : Option ((List AA) × Int) :=
 (Ep p0 p1).bind fun x1 => Af (x1 != 0) (some (([] : List AA), x1)) ((FJ p0 p1).bind fun (x2, x3) => BW (Ou 32 (x3.length + p0.Extra.length)) <| BW (MD ((x3 ++ p0.Extra).map fun x => ((x.Key, x.Value) : It))) <| BW (decide ((x3 ++ p0.Extra).length ≤ 1099511627776)) <| some (((FV ((x3 ++ p0.Extra).map fun x => ((x.Key, x.Value) : It))).map fun p => (⟨p.1, p.2⟩ : AA)), (0 : Int)))
theorem Nc {p0 p1 q0 q1} (M : E6 p0 p1 = some (q0, q1)) (A : HH g h [] F) (hc : BB (cfg.still 27) av = [.agg (AE p0), Ai p1] := by kernel_rfl) : ∃ v Q, BE cfg g h 27 av v Q ∧ ∃ (rq0 : Option Nat), v = .tuple [AR rq0 q0.length, Ai q1] ∧ HH g Q [.Ag rq0 117 (Ag AI q0)] F := by
 refine Dp 28 [.tmp 4, .tmp 5] hc ?_
 clear hc
 unfold E6 at M
 refine bg 28 [(0, .agg (AE p0)), (1, Ai p1)] fun D H => ?_
 refine AG 3 ?_
 obtain ⟨h1, e1, A⟩ := A.pu (.cells none 2 (AE p0))
 refine BI 2 (.ptr (some (h.size, 0))) e1 H fun D t H => ?_
 refine AM 2 [] H fun D H => AQ (AG 4 (Ac 9 _ _ H (fun D => .of (BH (by kernel_rfl) (A.EX 0 rfl (o := 0) (n := 14) ⟨Nat.le_of_ble_eq_true rfl, rfl⟩))) fun D t H => ?_))
 obtain ⟨x1, X, M⟩ := bind_some M
 obtain ⟨v1, h2, R, rfl, E⟩ := J0 (av := [.agg (AE p0), Ai p1]) X (A.cut 0)
 replace A : HH g h2 [.obj h.size (.cells none 2 (AE p0))] F := A.GM (n := 0) E
 refine A6 1 [] 11 R H fun D t H => ?_
 refine Bg 1 [(6, Ai x1)] 2 H fun D H => AM 2 [(13, .bool (x1 != 0))] H fun D H => Ae 13 H M (fun B M H => ?_) fun B M H => ?_
 ·refine AG 3 (AM 3 [(4, .slice none 0), (5, Ai x1)] H fun D H => AX ?_)
  obtain ⟨rfl, rfl⟩ := Cx M
  refine ⟨.inl rfl, .tuple [.slice none 0, Ai x1], rH H, ?_⟩
  replace A : HH g h2 [.Ag none 117 (Ag AI ([] : List AA)), _] F := A.XI 117
  replace A := A.d1
  exact ⟨none, rfl, A⟩
 refine Cr 9 id (Ac 16 _ _ H (fun D => .of (BH (by kernel_rfl) (A.EX 0 rfl (o := 0) (n := 14) ⟨Nat.le_of_ble_eq_true rfl, rfl⟩))) fun D t H => ?_)
 obtain ⟨⟨x2, x3⟩, X, M⟩ := bind_some M
 obtain ⟨v1, h3, R, rqw3, rfl, E⟩ := LG (av := [.agg (AE p0), Ai p1]) X (A.cut 0)
 replace A := A.Xr E
 refine A6 1 [] 18 R H fun D t H => ?_
 obtain ⟨h4, e2, A⟩ := A.pu (.cells none 2 [.str ([] : UV), .str ([] : UV), Ab 0, Ai 0, Ai 0, Ai 0, Ai 0, Ai 0, .str ([] : UV), .str ([] : UV), Ai 0, Ai 0, Ai 0])
 refine MC 3 [(19, .agg (AJ x2)), (20, AR rqw3 x3.length)] 7 (.ptr (some (h3.size, 0))) e2 H fun D t H => ?_
 obtain ⟨h5, X, A⟩ := A.s0 0 (AJ x2) [_, _, _, _, _, _, _, _, _, _, _, _, _]
 refine CU X H fun D t H => ?_
 refine Bg 1 [(8, AR rqw3 x3.length)] 5 H fun D H => AV 2 [(21, AR rqw3 x3.length)] 23 2 12 A H fun D t H => ?_
 obtain ⟨B, M⟩ := AP M
 obtain ⟨r1, h6, X, E⟩ := HH.Js AY (by decide) A 1 (xs := x3) (ys := p0.Extra) rfl (Vt AY _ p0.Extra) (AY.BB _) rfl B
 replace A : HH g h6 [_, .Ag r1 117 (Ag AI (x3 ++ p0.Extra)), _] F := E
 refine Ac 24 _ _ H (fun D => .of (Ge (s := DW rqw3 x3.length) (by kernel_rfl) X)) fun D t H => ?_
 refine BF 1 [(8, AR r1 ((x3 ++ p0.Extra).length))] H fun D H => CT 2 id ?_
 replace A := A.k3 1 0 2
 have E := A.cut 1
 obtain ⟨B, M⟩ := AP M
 obtain ⟨hb2, M⟩ := AP M
 obtain ⟨h7, R, E⟩ := HH.ZP (C := cfg) (f := 67) (c := 68) (t := 117) (e := AI) (xs := (x3 ++ p0.Extra)) (fw := fun x => ((x.Key, x.Value) : It)) (bw := fun p => (⟨p.1, p.2⟩ : AA)) (fun _ => rfl) (fun _ => rfl) E (by kernel_rfl) (l := exts) rfl (by kernel_rfl) B hb2
 have hl1 : (((FV ((x3 ++ p0.Extra).map fun x => ((x.Key, x.Value) : It))).map fun p => (⟨p.1, p.2⟩ : AA))).length = (x3 ++ p0.Extra).length := PX _ _ _
 have el : AR r1 (x3 ++ p0.Extra).length = AR r1 (((FV ((x3 ++ p0.Extra).map fun x => ((x.Key, x.Value) : It))).map fun p => (⟨p.1, p.2⟩ : AA))).length := congrArg _ (PX _ _ _).symm
 rw [el] at R
 try rw [el] at H
 replace A : HH g h7 [.Ag r1 117 (Ag AI ((FV ((x3 ++ p0.Extra).map fun x => ((x.Key, x.Value) : It))).map fun p => (⟨p.1, p.2⟩ : AA))), _, _] F := A.GM (n := 1) E
 refine Eu 1 [] R H fun D t H => ?_
 refine CT 3 id (AM 3 [(4, AR r1 (((FV ((x3 ++ p0.Extra).map fun x => ((x.Key, x.Value) : It))).map fun p => (⟨p.1, p.2⟩ : AA)).length)), (5, Ai 0)] H fun D H => AX ?_)
 obtain ⟨rfl, rfl⟩ := Cx M
 refine ⟨.inl rfl, .tuple [AR r1 (((FV ((x3 ++ p0.Extra).map fun x => ((x.Key, x.Value) : It))).map fun p => (⟨p.1, p.2⟩ : AA)).length), Ai 0], rH H, ?_⟩
 replace A := A.d1
 exact ⟨r1, rfl, A⟩
def E3 (p0 : AA) : Option (Bool) :=
 (Af (!(p0.Key == ([] : UV))) ((BV p0.Key (61 : Int)).bind fun x2 => some (decide (x2 < 0))) (some false) : Option (Bool)).bind fun x1 => some x1
theorem Na {p0 q0} (M : E3 p0 = some q0) (A : HH g h [] F) (hc : BB (cfg.still 161) av = [.agg [.str p0.Key, .str p0.Value]] := by kernel_rfl) : ∃ v Q, BE cfg g h 161 av v Q ∧ v = .bool q0 ∧ HH g Q [] F := by
 refine Dp 12 [.tmp 2] hc ?_
 clear hc
 unfold E3 at M
 refine bg 12 [(0, .agg [.str p0.Key, .str p0.Value])] fun D H => ?_
 refine AG 2 ?_
 obtain ⟨h1, e1, A⟩ := A.pu (.cells none 2 [.str p0.Key, .str p0.Value])
 refine BI 1 (.ptr (some (h.size, 0))) e1 H fun D t H => ?_
 refine Bg 1 [] 10 H fun D H => AV 1 [] 4 0 0 A H fun D t H => ?_
 refine AF 2 [(6, .bool (!(p0.Key == ([] : UV))))] H fun D H => ?_
 obtain ⟨x1, O, M⟩ := bind_some M
 refine An 5 (fun N Q => Has N 12 [(11, .bool x1)] ∧ HH g Q [.obj h.size (.cells none 2 [.str p0.Key, .str p0.Value])] F) ?_ ?_
 ·rcases A0 O with ⟨B, M⟩ | ⟨B, M⟩
  ·replace H := H.kn 6 B
   refine AV 1 [] 8 0 0 A H fun D t H => ?_
   obtain ⟨x2, X, M⟩ := bind_some M
   obtain ⟨v1, h3, R, rfl, E⟩ := EK (av := [.str p0.Key, Ab 61]) X (A.cut 0)
   replace A : HH g h3 [.obj h.size (.cells none 2 [.str p0.Key, .str p0.Value])] F := A.GM (n := 0) E
   refine A9 9 R H fun D t H => ?_
   refine AF 2 [(11, .bool (decide (x2 < 0)))] H fun D H => ?_
   obtain rfl := Ah M
   exact at_nil ⟨H.ls, A⟩
  replace H := H.kn 6 B
  refine AF 5 [(11, .bool false)] H fun D H => ?_
  obtain rfl := Ah M
  exact at_nil ⟨H.ls, A⟩
 clear A
 intro t D h2 hK
 obtain ⟨H, A⟩ := hK
 refine AM 1 [(2, .bool x1)] H fun D H => AX ?_
 obtain rfl := Ah M
 refine ⟨.inl rfl, .bool x1, rH H, ?_⟩
 replace A := A.d0
 exact ⟨rfl, A⟩
def Es (p0 : AA) : Option (Int) :=
 BW (decide (-9223372036854775808 ≤ i64.wrap ((i64.wrap ((p0.Key.length : Int) + (p0.Value.length : Int))) + 3) ∧ i64.wrap ((i64.wrap ((p0.Key.length : Int) + (p0.Value.length : Int))) + 3) ≤ 9223372036854775807)) <| BW (decide (-9223372036854775808 ≤ i64.wrap ((i64.wrap ((i64.wrap ((p0.Key.length : Int) + (p0.Value.length : Int))) + 3)) + ((Lib.itoa (i64.wrap ((i64.wrap ((p0.Key.length : Int) + (p0.Value.length : Int))) + 3))).length : Int)) ∧ i64.wrap ((i64.wrap ((i64.wrap ((p0.Key.length : Int) + (p0.Value.length : Int))) + 3)) + ((Lib.itoa (i64.wrap ((i64.wrap ((p0.Key.length : Int) + (p0.Value.length : Int))) + 3))).length : Int)) ≤ 9223372036854775807)) <| some (i64.wrap ((i64.wrap ((i64.wrap ((p0.Key.length : Int) + (p0.Value.length : Int))) + 3)) + ((Lib.itoa (i64.wrap ((i64.wrap ((i64.wrap ((p0.Key.length : Int) + (p0.Value.length : Int))) + 3)) + ((Lib.itoa (i64.wrap ((i64.wrap ((p0.Key.length : Int) + (p0.Value.length : Int))) + 3))).length : Int)))).length : Int)))
theorem KR {p0 q0} (M : Es p0 = some q0) (A : HH g h [] F) (hc : BB (cfg.still 162) av = [.agg [.str p0.Key, .str p0.Value]] := by kernel_rfl) : ∃ v Q, BE cfg g h 162 av v Q ∧ v = Ai q0 ∧ HH g Q [] F := by
 refine Dp 23 [.tmp 2] hc ?_
 clear hc
 unfold Es at M
 refine bg 23 [(0, .agg [.str p0.Key, .str p0.Value])] fun D H => ?_
 refine AG 2 ?_
 obtain ⟨h1, e1, A⟩ := A.pu (.cells none 2 [.str p0.Key, .str p0.Value])
 refine BI 1 (.ptr (some (h.size, 0))) e1 H fun D t H => ?_
 refine Bg 1 [] 9 H fun D H => AV 1 [] 6 0 0 A H fun D t H => ?_
 refine AV 2 [(7, Ai (p0.Key.length : Int))] 9 0 1 A H fun D t H => ?_
 refine Bg 4 [(3, Ai (i64.wrap ((i64.wrap ((p0.Key.length : Int) + (p0.Value.length : Int))) + 3)))] 6 H fun D H => ?_
 obtain ⟨B, M⟩ := AP M
 refine BC 2 [(13, Ai (i64.wrap ((i64.wrap ((p0.Key.length : Int) + (p0.Value.length : Int))) + 3)))] 15 (.str (Lib.itoa (i64.wrap ((i64.wrap ((p0.Key.length : Int) + (p0.Value.length : Int))) + 3)))) h1 H (fun D => Steps.call (by kernel_rfl) (Hg (C := cfg) (f := 121) (by kernel_rfl) (l := exts) rfl (by kernel_rfl) B)) fun D t H => ?_
 refine Bg 3 [(4, Ai (i64.wrap ((i64.wrap ((i64.wrap ((p0.Key.length : Int) + (p0.Value.length : Int))) + 3)) + ((Lib.itoa (i64.wrap ((i64.wrap ((p0.Key.length : Int) + (p0.Value.length : Int))) + 3))).length : Int))))] 6 H fun D H => ?_
 obtain ⟨B, M⟩ := AP M
 refine BC 2 [(18, Ai (i64.wrap ((i64.wrap ((p0.Key.length : Int) + (p0.Value.length : Int))) + 3)))] 20 (.str (Lib.itoa (i64.wrap ((i64.wrap ((i64.wrap ((p0.Key.length : Int) + (p0.Value.length : Int))) + 3)) + ((Lib.itoa (i64.wrap ((i64.wrap ((p0.Key.length : Int) + (p0.Value.length : Int))) + 3))).length : Int))))) h1 H (fun D => Steps.call (by kernel_rfl) (Hg (C := cfg) (f := 121) (by kernel_rfl) (l := exts) rfl (by kernel_rfl) B)) fun D t H => ?_
 refine AM 3 [(2, Ai (i64.wrap ((i64.wrap ((i64.wrap ((p0.Key.length : Int) + (p0.Value.length : Int))) + 3)) + ((Lib.itoa (i64.wrap ((i64.wrap ((i64.wrap ((p0.Key.length : Int) + (p0.Value.length : Int))) + 3)) + ((Lib.itoa (i64.wrap ((i64.wrap ((p0.Key.length : Int) + (p0.Value.length : Int))) + 3))).length : Int)))).length : Int))))] H fun D H => AX ?_
 obtain rfl := Ah M
 refine ⟨.inl rfl, Ai (i64.wrap ((i64.wrap ((i64.wrap ((p0.Key.length : Int) + (p0.Value.length : Int))) + 3)) + ((Lib.itoa (i64.wrap ((i64.wrap ((i64.wrap ((p0.Key.length : Int) + (p0.Value.length : Int))) + 3)) + ((Lib.itoa (i64.wrap ((i64.wrap ((p0.Key.length : Int) + (p0.Value.length : Int))) + 3))).length : Int)))).length : Int))), rH H, ?_⟩
 replace A := A.d0
 exact ⟨rfl, A⟩
def Ek (p0 : Int) : Option ((List UInt8)) :=
 Af (decide (p0 < 10)) ((GB ([48, 49, 50, 51, 52, 53, 54, 55, 56, 57, 97, 98, 99, 100, 101, 102, 103, 104, 105, 106, 107, 108, 109, 110, 111, 112, 113, 114, 115, 116, 117, 118, 119, 120, 121, 122] : UV) (some p0) (some (i64.wrap (p0 + 1)))).bind fun x1 => some x1) ((GB ([48, 48, 48, 49, 48, 50, 48, 51, 48, 52, 48, 53, 48, 54, 48, 55, 48, 56, 48, 57, 49, 48, 49, 49, 49, 50, 49, 51, 49, 52, 49, 53, 49, 54, 49, 55, 49, 56, 49, 57, 50, 48, 50, 49, 50, 50, 50, 51, 50, 52, 50, 53, 50, 54, 50, 55, 50, 56, 50, 57, 51, 48, 51, 49, 51, 50, 51, 51, 51, 52, 51, 53, 51, 54, 51, 55, 51, 56, 51, 57, 52, 48, 52, 49, 52, 50, 52, 51, 52, 52, 52, 53, 52, 54, 52, 55, 52, 56, 52, 57, 53, 48, 53, 49, 53, 50, 53, 51, 53, 52, 53, 53, 53, 54, 53, 55, 53, 56, 53, 57, 54, 48, 54, 49, 54, 50, 54, 51, 54, 52, 54, 53, 54, 54, 54, 55, 54, 56, 54, 57, 55, 48, 55, 49, 55, 50, 55, 51, 55, 52, 55, 53, 55, 54, 55, 55, 55, 56, 55, 57, 56, 48, 56, 49, 56, 50, 56, 51, 56, 52, 56, 53, 56, 54, 56, 55, 56, 56, 56, 57, 57, 48, 57, 49, 57, 50, 57, 51, 57, 52, 57, 53, 57, 54, 57, 55, 57, 56, 57, 57] : UV) (some (i64.wrap (p0 * 2))) (some (i64.wrap ((i64.wrap (p0 * 2)) + 2)))).bind fun x2 => some x2)
theorem Mi {p0 q0} (M : Ek p0 = some q0) (A : HH g h [] F) (hc : BB (cfg.still 245) av = [Ai p0] := by kernel_rfl) : ∃ v Q, BE cfg g h 245 av v Q ∧ v = .str q0 ∧ HH g Q [] F := by
 refine Dp 15 [.tmp 2] hc ?_
 clear hc
 unfold Ek at M
 refine bg 15 [(0, Ai p0)] fun D H => ?_
 refine AG 1 (AM 1 [] H fun D H => AQ (AG 2 (AM 2 [(4, .bool (decide (p0 < 10)))] H fun D H => Ae 4 H M (fun B M H => ?_) fun B M H => ?_)))
 ·refine AG 5 ?_
  obtain ⟨x1, X, M⟩ := bind_some M
  refine BC 3 [] 8 (.str x1) h H (fun D => .of (EZ (k := .i64) (k' := .i64) (lo := (some p0)) (hi := (some (i64.wrap (p0 + 1)))) (by kernel_rfl) X)) fun D t H => ?_
  refine AM 1 [(2, .str x1)] H fun D H => AX ?_
  obtain rfl := Ah M
  exact ⟨.inl rfl, _, rH H, rfl, A⟩
 refine Cr 7 id ?_
 obtain ⟨x2, X, M⟩ := bind_some M
 refine BC 5 [] 14 (.str x2) h H (fun D => .of (EZ (k := .i64) (k' := .i64) (lo := (some (i64.wrap (p0 * 2)))) (hi := (some (i64.wrap ((i64.wrap (p0 * 2)) + 2)))) (by kernel_rfl) X)) fun D t H => ?_
 refine AM 1 [(2, .str x2)] H fun D H => AX ?_
 obtain rfl := Ah M
 exact ⟨.inl rfl, _, rH H, rfl, A⟩
def C2 (p0 : List UInt8) (p1 : Int) (p2 : Int) : Option ((List UInt8)) :=
 Af (p2 == 10) (Af (decide (p1 < 100)) ((Ek (i64.wrap p1)).bind fun x1 => BW (Ou 1 (p0.length + x1.length)) <| some (p0 ++ x1)) (BW (decide (1 ≤ p1 ∧ p1 < 18446744073709551616)) <| (Ue 24 ((Lib.nDigits p1.toNat : Nat) : Int)).bind fun x2 => BW (Pq x2 p1 && decide (x2 ≤ (List.replicate 24 (0 : UInt8)).length)) <| (Ue 24 ((Lib.nDigits p1.toNat : Nat) : Int)).bind fun x3 => BW (decide (x3 ≤ (I5 x2 p1.toNat ++ (List.replicate 24 (0 : UInt8)).drop x2).length)) <| BW (Ou 1 (p0.length + ((I5 x2 p1.toNat ++ (List.replicate 24 (0 : UInt8)).drop x2).take x3).length)) <| some (p0 ++ ((I5 x2 p1.toNat ++ (List.replicate 24 (0 : UInt8)).drop x2).take x3)))) (none)
theorem Hu {p0 p1 p2 rp0 u0} (M : C2 p0 p1 p2 = some u0) (A : HH g h [.Ag rp0 5 (Ag eY p0)] F) (hc : BB (cfg.still 242) av = [AR rp0 p0.length, Au p1, Ai p2] := by kernel_rfl) : ∃ v Q, BE cfg g h 242 av v Q ∧ ∃ (r'0 : Option Nat), v = AR r'0 u0.length ∧ HH g Q [.Ag r'0 5 (Ag eY u0)] F := by
 refine Dp 36 [.tmp 6] hc ?_
 clear hc
 unfold C2 at M
 refine bg 36 [(0, AR rp0 p0.length), (1, Au p1), (2, Ai p2)] fun D H => ?_
 refine AG 1 (AM 1 [] H fun D H => AQ (AG 2 (AM 2 [(10, .bool (p2 == 10))] H fun D H => Ae 10 H M (fun B M H => ?_) fun B M H => ?_)))
 ·refine AQ (AG 2 (AM 2 [(12, .bool (decide (p1 < 100)))] H fun D H => Ae 12 H M (fun B M H => ?_) fun B M H => ?_))
  ·refine AG 6 ?_
   obtain ⟨x1, X, M⟩ := bind_some M
   obtain ⟨v1, h1, R, rfl, E⟩ := Mi (av := [Ai (i64.wrap p1)]) X (A.cut 0)
   replace A := A.Ee E
   refine A6 3 [(13, AR rp0 p0.length)] 16 R H fun D t H => ?_
   obtain ⟨B, M⟩ := AP M
   obtain ⟨r1, h2, X, E⟩ := HH.Js I3 (by decide) A 0 (xs := p0) (ys := x1) rfl (Sw _ x1) (I3.BB _) rfl B
   replace A : HH g h2 [.Ag r1 5 (Ag eY (p0 ++ x1))] F := E
   refine Ac 17 _ _ H (fun D => .of (Ge (s := DW rp0 p0.length) (by kernel_rfl) X)) fun D t H => ?_
   refine AM 1 [(6, AR r1 ((p0 ++ x1).length))] H fun D H => AX ?_
   obtain rfl := Ah M
   exact ⟨.inl rfl, _, rH H, _, rfl, A⟩
  refine Cr 1 id ?_
  obtain ⟨h3, e1, A⟩ := A.pu (.cells none 2 (aj 24 (AB.int .u8) aT ++ []))
  refine BI 7 (.ptr (some (h.size, 0))) e1 H fun D t H => ?_
  refine CT 3 id ?_
  obtain ⟨B, M⟩ := AP M
  refine BC 1 [] 19 (Ai ((Lib.nDigits p1.toNat : Nat) : Int)) h3 H (fun D => Steps.call (by kernel_rfl) (Xf (C := cfg) (f := 246) (by kernel_rfl) (l := exts) rfl (by kernel_rfl) B)) fun D t H => ?_
  refine Bg 1 [(8, Ai ((Lib.nDigits p1.toNat : Nat) : Int))] 4 H fun D H => ?_
  replace A : HH g h3 [.obj h.size (.cells none 2 (Ag eY (List.replicate 24 (0 : UInt8)))), _] F := A
  obtain ⟨x2, X, M⟩ := bind_some M
  refine BC 1 [] 21 (.slice (some (h.size, 0)) x2) h3 H (fun D => .of (WX (a := (h.size, 0)) (n := 24) (z := 1) (t := ⟨some (h.size, 0), x2⟩) (k := .i64) (k' := .i64) (lo := none) (hi := some ((Lib.nDigits p1.toNat : Nat) : Int)) (by kernel_rfl) (HH.ZG A 0 rfl X))) fun D t H => ?_
  have E := A.cut 1
  obtain ⟨B, M⟩ := AP M
  obtain ⟨h4, R, E⟩ := HH.fmt (C := cfg) (f := 247) (x := x2) (u := p1) (xs := (List.replicate 24 (0 : UInt8))) E (by kernel_rfl) (l := exts) rfl (by kernel_rfl) B
  replace A := A.g11 E
  refine Eu 1 [] R H fun D t H => ?_
  refine CT 5 id ?_
  obtain ⟨x3, X, M⟩ := bind_some M
  refine BC 2 [(24, AR rp0 p0.length)] 26 (.slice (some (h.size, 0)) x3) h4 H (fun D => .of (WX (a := (h.size, 0)) (n := 24) (z := 1) (t := ⟨some (h.size, 0), x3⟩) (k := .i64) (k' := .i64) (lo := none) (hi := some ((Lib.nDigits p1.toNat : Nat) : Int)) (by kernel_rfl) (HH.ZG A 0 rfl X))) fun D t H => ?_
  obtain ⟨hl1, M⟩ := AP M
  have el : AB.slice (some (h.size, 0)) x3 = AB.slice (some (h.size, 0)) ((I5 x2 p1.toNat ++ (List.replicate 24 (0 : UInt8)).drop x2).take x3).length := by rw [List.length_take, Nat.min_eq_left (of_decide_eq_true hl1)]
  rw [el] at H
  obtain ⟨B, M⟩ := AP M
  obtain ⟨r2, h5, X, E⟩ := HH.Js I3 (by decide) A 1 (xs := p0) (ys := ((I5 x2 p1.toNat ++ (List.replicate 24 (0 : UInt8)).drop x2).take x3)) rfl (HH.YX A 0 (xs := (I5 x2 p1.toNat ++ (List.replicate 24 (0 : UInt8)).drop x2)) rfl (of_decide_eq_true hl1)) (I3.BB _) rfl B
  replace A : HH g h5 [_, .Ag r2 5 (Ag eY (p0 ++ ((I5 x2 p1.toNat ++ (List.replicate 24 (0 : UInt8)).drop x2).take x3)))] F := E
  refine Ac 27 _ _ H (fun D => .of (Ge (s := DW rp0 p0.length) (by kernel_rfl) X)) fun D t H => ?_
  refine AM 1 [(6, AR r2 ((p0 ++ ((I5 x2 p1.toNat ++ (List.replicate 24 (0 : UInt8)).drop x2).take x3)).length))] H fun D H => AX ?_
  obtain rfl := Ah M
  refine ⟨.inl rfl, AR r2 ((p0 ++ ((I5 x2 p1.toNat ++ (List.replicate 24 (0 : UInt8)).drop x2).take x3)).length), rH H, ?_⟩
  replace A := A.k1 1
  exact ⟨r2, rfl, A⟩
 refine Cr 8 id ?_
 cases M
def Cp (p0 : List UInt8) (p1 : Int) (p2 : Int) : Option ((List UInt8)) :=
 (Af (decide (p1 < 0)) (BW (Ou 1 (p0.length + ([(45 : UInt8)] : UV).length)) <| some ((p0 ++ ([(45 : UInt8)] : UV)), u64.wrap (0 - (u64.wrap p1)))) (some (p0, u64.wrap p1)) : Option (((List UInt8) × Int))).bind fun (x1, x2) => (C2 x1 x2 p2).bind fun x4 => some x4
theorem HZ {p0 p1 p2 rp0 u0} (M : Cp p0 p1 p2 = some u0) (A : HH g h [.Ag rp0 5 (Ag eY p0)] F) (hc : BB (cfg.still 206) av = [AR rp0 p0.length, Ai p1, Ai p2] := by kernel_rfl) : ∃ v Q, BE cfg g h 206 av v Q ∧ ∃ (r'0 : Option Nat), v = AR r'0 u0.length ∧ HH g Q [.Ag r'0 5 (Ag eY u0)] F := by
 refine Dp 21 [.tmp 6] hc ?_
 clear hc
 unfold Cp at M
 refine bg 21 [(0, AR rp0 p0.length), (1, Ai p1), (2, Ai p2)] fun D H => ?_
 refine AG 1 (Bg 1 [] 3 H fun D H => AM 3 [(7, Au (u64.wrap p1))] H fun D H => AQ ?_)
 obtain ⟨o1, O, M⟩ := bind_some M
 refine Az (Q' := fun e N Q => (∃ x1 x2, e = .normal ∧ (x1, x2) = o1 ∧ ∃ r1, Has N 21 [(0, AR r1 x1.length), (2, Ai p2), (7, Au x2)] ∧ HH g Q [.Ag r1 5 (Ag eY x1)] F) ∨ False) ?_ ?_
 ·replace M := O
  clear O
  refine AG 2 (AM 2 [(11, .bool (decide (p1 < 0)))] H fun D H => Ae 11 H M (fun B M H => ?_) fun B M H => ?_)
  ·refine AG 4 (AF 1 [(12, AR rp0 p0.length)] H fun D H => ?_)
   obtain ⟨h1, e1, A⟩ := A.pL 5 [Ab 45]
   refine BI 13 (AR (some h.size) (([(45 : UInt8)] : UV).length)) e1 H fun D t H => ?_
   obtain ⟨B, M⟩ := AP M
   obtain ⟨r2, h2, X, E⟩ := HH.Js I3 (by decide) A 1 (xs := p0) (ys := ([(45 : UInt8)] : UV)) rfl (Du A 0 rfl (n := ([(45 : UInt8)] : UV).length) (z := 1) rfl (by decide)) rfl rfl B
   replace A : HH g h2 [.Ag (some h.size) 5 ([Ab 45]), .Ag r2 5 (Ag eY (p0 ++ ([(45 : UInt8)] : UV)))] F := E
   replace A := A.k1 1
   refine Ac 14 _ _ H (fun D => .of (Ge (s := DW rp0 p0.length) (by kernel_rfl) X)) fun D t H => ?_
   refine BF 1 [(0, AR r2 ((p0 ++ ([(45 : UInt8)] : UV)).length)), (2, Ai p2), (7, Au (u64.wrap p1))] H fun D H => G6 3 id (BF 3 [(0, AR r2 ((p0 ++ ([(45 : UInt8)] : UV)).length)), (2, Ai p2), (7, Au (u64.wrap (0 - (u64.wrap p1))))] H fun D H => at_nil ?_)
   exact .inl ⟨_, _, rfl, Ah M, _, H.ls, A⟩
  exact GU (.inl ⟨_, _, rfl, Ah M, rp0, H.ls, A⟩)
 clear O
 clear A
 intro e D h3 hQ
 rcases hQ with ⟨x1, x2, rfl, rfl, r1, H, A⟩ | hF
 ·show AW _ _ _ _ _ _ _
  refine AG 5 ?_
  obtain ⟨x4, X, M⟩ := bind_some M
  obtain ⟨v1, h4, R, r3, rfl, E⟩ := Hu (av := [AR r1 x1.length, Au x2, Ai p2]) X (A.cut 1)
  replace A := A.g11 E
  refine A6 3 [] 20 R H fun D t H => ?_
  refine AM 1 [(6, AR r3 x4.length)] H fun D H => AX ?_
  obtain rfl := Ah M
  exact ⟨.inl rfl, _, rH H, _, rfl, A⟩
 exact hF.elim
def CO (p0 : List UInt8) (p1 : Int) (p2 : Int) : Option ((List UInt8)) :=
 (Cp p0 p1 p2).bind fun x2 => some x2
theorem IE {p0 p1 p2 rp0 u0} (M : CO p0 p1 p2 = some u0) (A : HH g h [.Ag rp0 5 (Ag eY p0)] F) (hc : BB (cfg.still 163) av = [AR rp0 p0.length, Ai p1, Ai p2] := by kernel_rfl) : ∃ v Q, BE cfg g h 163 av v Q ∧ ∃ (r'0 : Option Nat), v = AR r'0 u0.length ∧ HH g Q [.Ag r'0 5 (Ag eY u0)] F := by
 refine Dp 11 [.tmp 6] hc ?_
 clear hc
 unfold CO at M
 refine bg 11 [(0, AR rp0 p0.length), (1, Ai p1), (2, Ai p2)] fun D H => ?_
 refine AG 1 (Bg 1 [] 5 H fun D H => ?_)
 obtain ⟨x2, X, M⟩ := bind_some M
 obtain ⟨v1, h1, R, r1, rfl, E⟩ := HZ (av := [AR rp0 p0.length, Ai p1, Ai p2]) X (A.cut 1)
 replace A := A.g11 E
 refine A6 3 [] 10 R H fun D t H => ?_
 refine AM 1 [(6, AR r1 x2.length)] H fun D H => AX ?_
 obtain rfl := Ah M
 exact ⟨.inl rfl, _, rH H, _, rfl, A⟩
def DI (p0 : List AA) (s : Int × Int) : Option ((Int × Int) ⊕ ((Int) ⊕ ((List UInt8) × Int))) :=
 match s with
 | (x1, x2) => Af (decide (x2 < (p0.length : Int))) ((HJ p0 x2).bind fun x6 => (E3 x6).bind fun x7 => Af (!x7) (some (.inr (.inr (([] : UV), (2 : Int))))) ((Es x6).bind fun x8 => some (.inl (mn (i64.wrap (x1 + x8)) (65537 : Int), i64.wrap (x2 + 1))))) (some (.inr (.inl x1)))
def DO (p0 : List AA) (s : (List UInt8) × Int) : Option (((List UInt8) × Int) ⊕ (((List UInt8)))) :=
 match s with
 | (x9, x10) => Af (decide (x10 < (p0.length : Int))) ((HJ p0 x10).bind fun x12 => (Es x12).bind fun x13 => (CO x9 x13 (10 : Int)).bind fun x15 => BW (decide (([32] : UV).length + x12.Key.length ≤ 9223372036854775807)) <| BW (decide ((([32] : UV) ++ x12.Key).length + ([61] : UV).length ≤ 9223372036854775807)) <| BW (decide (((([32] : UV) ++ x12.Key) ++ ([61] : UV)).length + x12.Value.length ≤ 9223372036854775807)) <| BW (decide ((((([32] : UV) ++ x12.Key) ++ ([61] : UV)) ++ x12.Value).length + ([10] : UV).length ≤ 9223372036854775807)) <| BW (Ou 1 (x15.length + ((((([32] : UV) ++ x12.Key) ++ ([61] : UV)) ++ x12.Value) ++ ([10] : UV)).length)) <| some (.inl ((x15 ++ ((((([32] : UV) ++ x12.Key) ++ ([61] : UV)) ++ x12.Value) ++ ([10] : UV))), i64.wrap (x10 + 1)))) (some (.inr x9))
def EF (p0 : List AA) : Option ((List UInt8) × Int) :=
 Af (decide ((p0.length : Int) > 256)) (some (([] : UV), (8 : Int))) ((loop (DI p0) ((0 : Int), (0 : Int))).bind fun o1 => (match o1 with | .inl x3 => Af (decide (x3 > 65536)) (some (([] : UV), (12 : Int))) ((loop (DO p0) (([] : UV), (0 : Int))).bind fun x11 => some (x11, (0 : Int))) | .inr (x4, x5) => some (x4, x5)))
theorem LY {p0 rp0 q0 q1} (M : EF p0 = some (q0, q1)) (A : HH g h [.Ag rp0 117 (Ag AI p0)] F) (hc : BB (cfg.still 98) av = [AR rp0 p0.length] := by kernel_rfl) : ∃ v Q, BE cfg g h 98 av v Q ∧ v = .tuple [.str q0, Ai q1] ∧ HH g Q [.Ag rp0 117 (Ag AI p0)] F := by
 refine Dp 53 [.tmp 2, .tmp 3] hc ?_
 clear hc
 unfold EF at M
 refine bg 53 [(0, AR rp0 p0.length)] fun D H => ?_
 refine AG 2 (AM 2 [] H fun D H => AQ (AG 3 (AM 3 [(12, .bool (decide ((p0.length : Int) > 256)))] H fun D H => Ae 12 H M (fun B M H => ?_) fun B M H => ?_)))
 ·refine AG 2 (AM 2 [(2, .str ([] : UV)), (3, Ai 8)] H fun D H => AX ?_)
  obtain ⟨rfl, rfl⟩ := Cx M
  exact ⟨.inl rfl, _, rH H, rfl, A⟩
 refine Cr 1 id (AM 1 [(4, Ai 0)] H fun D H => AQ (AG 3 (AM 3 [(13, AR rp0 p0.length), (14, Ai (p0.length : Int)), (15, Ai 0)] H fun D H => Ak (id := 0) (by kernel_rfl) ?_)))
 obtain ⟨o1, O, M⟩ := bind_some M
 refine Az (Q' := fun e N Q => (∃ x3, e = .exit 0 ∧ .inl x3 = o1 ∧ Has N 53 [(0, AR rp0 p0.length), (4, Ai x3)] ∧ HH g Q [.Ag rp0 117 (Ag AI p0)] F) ∨ (∃ x4 x5, e = .ret ∧ .inr (x4, x5) = o1 ∧ Has N 53 [(2, .str x4), (3, Ai x5)] ∧ HH g Q [.Ag rp0 117 (Ag AI p0)] F) ∨ False) ?_ ?_
 ·refine Bi (by kernel_rfl) (fun (s : Int × Int) N Q => ∃ x1 x2, (x1, x2) = s ∧ Has N 53 [(0, AR rp0 p0.length), (4, Ai x1), (13, AR rp0 p0.length), (14, Ai (p0.length : Int)), (15, Ai x2)] ∧ HH g Q [.Ag rp0 117 (Ag AI p0)] F) O ⟨_, _, rfl, H.ls, A⟩ ?_
  clear O M H A
  intro s q D h1 hI M
  obtain ⟨x1, x2, rfl, H, A⟩ := hI
  unfold DI at M
  refine AG 1 (AM 1 [(16, .bool (decide (x2 < (p0.length : Int))))] H fun D H => AQ (Ae 16 H M (fun B M H => ?_) fun B M H => ?_))
  ·refine B0 id (AQ (Ak (id := 1) (by kernel_rfl) ?_))
   refine AG 4 ?_
   obtain ⟨x6, X, M⟩ := bind_some M
   obtain ⟨i1, er1, _, X, hq1⟩ := HH.SD AY (by decide) A 0 (xs := p0) rfl X
   refine Ac 17 (.ptr (some (i1, x2.toNat * 2))) h1 H (fun D => .of (HM (s := DW rp0 p0.length) (by kernel_rfl) X)) fun D t H => ?_
   refine Ac 18 _ _ H (fun D => .of (BH (by kernel_rfl) (Kh AY (HH.row A 0 rfl er1) hq1 0 2 (Nat.le_of_ble_eq_true rfl)))) fun D t H => ?_
   obtain ⟨h2, e1, A⟩ := A.pu (.cells none 2 [.str ([] : UV), .str ([] : UV)])
   refine BI 6 (.ptr (some (h1.size, 0))) e1 H fun D t H => ?_
   obtain ⟨h3, X, A⟩ := A.s0 0 [.str x6.Key, .str x6.Value] [_, _]
   refine CU X H fun D t H => ?_
   refine BZ id (AQ (AG 3 (Ac 19 _ _ H (fun D => .of (BH (by kernel_rfl) (A.EX 0 rfl (o := 0) (n := 2) ⟨Nat.le_of_ble_eq_true rfl, rfl⟩))) fun D t H => ?_)))
   obtain ⟨x7, X, M⟩ := bind_some M
   obtain ⟨v1, h4, R, rfl, E⟩ := Na (av := [.agg [.str x6.Key, .str x6.Value]]) X (A.cut 0)
   replace A := A.Ee E
   refine A9 20 R H fun D t H => ?_
   refine AM 1 [(21, .bool (!x7))] H fun D H => Ae 21 H M (fun B M H => ?_) fun B M H => ?_
   ·refine AG 2 (AM 2 [(2, .str ([] : UV)), (3, Ai 2)] H fun D H => AX ?_)
    replace A := A.k1 1
    exact nr M fun e => Or.inr (.inl ⟨_, _, rfl, e, H.ls, A⟩)
   refine FM 6 id (BC 1 [(22, Ai x1)] 23 _ _ H (fun D => .of (BH (by kernel_rfl) (A.EX 0 rfl (o := 0) (n := 2) ⟨Nat.le_of_ble_eq_true rfl, rfl⟩))) fun D t H => ?_)
   obtain ⟨x8, X, M⟩ := bind_some M
   obtain ⟨v1, h5, R, rfl, E⟩ := KR (av := [.agg [.str x6.Key, .str x6.Value]]) X (A.cut 0)
   replace A := A.Ee E
   refine A9 24 R H fun D t H => ?_
   refine BF 3 [(0, AR rp0 p0.length), (4, Ai (mn (i64.wrap (x1 + x8)) (65537 : Int))), (13, AR rp0 p0.length), (14, Ai (p0.length : Int)), (15, Ai x2)] H fun D H => G6 2 id (BF 2 [(0, AR rp0 p0.length), (4, Ai (mn (i64.wrap (x1 + x8)) (65537 : Int))), (13, AR rp0 p0.length), (14, Ai (p0.length : Int)), (15, Ai (i64.wrap (x2 + 1)))] H fun D H => at_nil ?_)
   replace A := A.k1 1
   exact nx M ⟨_, _, rfl, H.ls, A⟩
  refine Bk (i := 0) (by kernel_rfl) ?_
  exact nr M fun e => .inl ⟨_, rfl, e, H.ls, A⟩
 clear O
 clear A
 intro e D h6 hQ
 rcases hQ with ⟨x3, rfl, rfl, H, A⟩ | ⟨x4, x5, rfl, rfl, H, A⟩ | hF
 ·show AW _ _ _ _ _ _ _
  refine AQ (AG 2 (AM 2 [(29, .bool (decide (x3 > 65536)))] H fun D H => Ae 29 H M (fun B M H => ?_) fun B M H => ?_))
  ·refine AG 2 (AM 2 [(2, .str ([] : UV)), (3, Ai 12)] H fun D H => AX ?_)
   obtain ⟨rfl, rfl⟩ := Cx M
   exact ⟨.inl rfl, _, rH H, rfl, A⟩
  refine Cr 1 id (AM 1 [(7, .slice none 0)] H fun D H => AQ (AG 3 (AM 3 [(30, AR rp0 p0.length), (31, Ai (p0.length : Int)), (32, Ai 0)] H fun D H => Ak (id := 2) (by kernel_rfl) ?_)))
  replace A : HH g h6 [.Ag none 5 (Ag eY ([] : UV)), _] F := A.XI 5
  obtain ⟨o2, O, M⟩ := bind_some M
  refine Az (Q' := fun e N Q => (∃ x11, e = .exit 2 ∧ x11 = o2 ∧ ∃ r2, Has N 53 [(7, AR r2 x11.length)] ∧ HH g Q [.Ag r2 5 (Ag eY x11), .Ag rp0 117 (Ag AI p0)] F) ∨ False) ?_ ?_
  ·refine Bi (by kernel_rfl) (fun (s : (List UInt8) × Int) N Q => ∃ x9 x10, (x9, x10) = s ∧ ∃ r1, Has N 53 [(7, AR r1 x9.length), (30, AR rp0 p0.length), (31, Ai (p0.length : Int)), (32, Ai x10)] ∧ HH g Q [.Ag r1 5 (Ag eY x9), .Ag rp0 117 (Ag AI p0)] F) O ⟨_, _, rfl, none, H.ls, A⟩ ?_
   clear O M H A
   intro s q D h7 hI M
   obtain ⟨x9, x10, rfl, r1, H, A⟩ := hI
   unfold DO at M
   refine AG 1 (AM 1 [(33, .bool (decide (x10 < (p0.length : Int))))] H fun D H => AQ (Ae 33 H M (fun B M H => ?_) fun B M H => ?_))
   ·refine B0 id (AQ (Ak (id := 3) (by kernel_rfl) ?_))
    refine AG 4 ?_
    obtain ⟨x12, X, M⟩ := bind_some M
    obtain ⟨i2, er2, _, X, hq2⟩ := HH.SD AY (by decide) A 1 (xs := p0) rfl X
    refine Ac 34 (.ptr (some (i2, x10.toNat * 2))) h7 H (fun D => .of (HM (s := DW rp0 p0.length) (by kernel_rfl) X)) fun D t H => ?_
    refine Ac 35 _ _ H (fun D => .of (BH (by kernel_rfl) (Kh AY (HH.row A 1 rfl er2) hq2 0 2 (Nat.le_of_ble_eq_true rfl)))) fun D t H => ?_
    obtain ⟨h8, e2, A⟩ := A.pu (.cells none 2 [.str ([] : UV), .str ([] : UV)])
    refine BI 9 (.ptr (some (h7.size, 0))) e2 H fun D t H => ?_
    obtain ⟨h9, X, A⟩ := A.s0 0 [.str x12.Key, .str x12.Value] [_, _]
    refine CU X H fun D t H => ?_
    refine CT 5 id (BC 1 [(36, AR r1 x9.length)] 37 _ _ H (fun D => .of (BH (by kernel_rfl) (A.EX 0 rfl (o := 0) (n := 2) ⟨Nat.le_of_ble_eq_true rfl, rfl⟩))) fun D t H => ?_)
    obtain ⟨x13, X, M⟩ := bind_some M
    obtain ⟨v1, h10, R, rfl, E⟩ := KR (av := [.agg [.str x12.Key, .str x12.Value]]) X (A.cut 0)
    replace A := A.Ee E
    refine A9 38 R H fun D t H => ?_
    replace A := A.k3 1 0 2
    obtain ⟨x15, X, M⟩ := bind_some M
    obtain ⟨v1, h11, R, r3, rfl, E⟩ := IE (av := [AR r1 x9.length, Ai x13, Ai 10]) X (A.cut 1)
    replace A := A.g11 E
    refine A9 39 R H fun D t H => ?_
    refine BF 1 [(7, AR r3 x15.length), (9, .ptr (some (h7.size, 0))), (30, AR rp0 p0.length), (31, Ai (p0.length : Int)), (32, Ai x10)] H fun D H => G6 11 id (AV 2 [(40, AR r3 x15.length)] 42 1 0 A H fun D t H => ?_)
    obtain ⟨B, M⟩ := AP M
    refine Ac 43 (.str (([32] : UV) ++ x12.Key)) h11 H (fun D => .of (B8 (by kernel_rfl) B)) fun D t H => ?_
    obtain ⟨B, M⟩ := AP M
    refine Ac 44 (.str ((([32] : UV) ++ x12.Key) ++ ([61] : UV))) h11 H (fun D => .of (B8 (by kernel_rfl) B)) fun D t H => ?_
    refine AV 1 [] 46 1 1 A H fun D t H => ?_
    obtain ⟨B, M⟩ := AP M
    refine Ac 47 (.str (((([32] : UV) ++ x12.Key) ++ ([61] : UV)) ++ x12.Value)) h11 H (fun D => .of (B8 (by kernel_rfl) B)) fun D t H => ?_
    obtain ⟨B, M⟩ := AP M
    refine Ac 48 (.str ((((([32] : UV) ++ x12.Key) ++ ([61] : UV)) ++ x12.Value) ++ ([10] : UV))) h11 H (fun D => .of (B8 (by kernel_rfl) B)) fun D t H => ?_
    obtain ⟨B, M⟩ := AP M
    obtain ⟨r4, h12, X, E⟩ := HH.Js I3 (by decide) A 0 (xs := x15) (ys := (((([32] : UV) ++ x12.Key) ++ ([61] : UV)) ++ x12.Value) ++ ([10] : UV)) rfl (Sw _ ((((([32] : UV) ++ x12.Key) ++ ([61] : UV)) ++ x12.Value) ++ ([10] : UV))) (I3.BB _) rfl B
    replace A : HH g h12 [.Ag r4 5 (Ag eY (x15 ++ ((((([32] : UV) ++ x12.Key) ++ ([61] : UV)) ++ x12.Value) ++ ([10] : UV)))), _, _] F := E
    refine Ac 49 _ _ H (fun D => .of (Ge (s := DW r3 x15.length) (by kernel_rfl) X)) fun D t H => ?_
    refine BF 1 [(7, AR r4 ((x15 ++ ((((([32] : UV) ++ x12.Key) ++ ([61] : UV)) ++ x12.Value) ++ ([10] : UV))).length)), (30, AR rp0 p0.length), (31, Ai (p0.length : Int)), (32, Ai x10)] H fun D H => G6 2 id (BF 2 [(7, AR r4 ((x15 ++ ((((([32] : UV) ++ x12.Key) ++ ([61] : UV)) ++ x12.Value) ++ ([10] : UV))).length)), (30, AR rp0 p0.length), (31, Ai (p0.length : Int)), (32, Ai (i64.wrap (x10 + 1)))] H fun D H => at_nil ?_)
    replace A := A.k2 0 2
    exact nx M ⟨_, _, rfl, _, H.ls, A⟩
   refine Bk (i := 2) (by kernel_rfl) ?_
   exact nr M fun e => .inl ⟨_, rfl, e, _, H.ls, A⟩
  clear O
  clear A
  intro e D h13 hQ
  rcases hQ with ⟨x11, rfl, rfl, r2, H, A⟩ | hF
  ·show AW _ _ _ _ _ _ _
   refine AG 4 (AF 1 [(51, AR r2 x11.length)] H fun D H => Ac 52 (.str x11) h13 H (fun D => .of (PJ (xs := x11) A 0 rfl (by kernel_rfl))) fun D t H => ?_)
   refine AM 2 [(2, .str x11), (3, Ai 0)] H fun D H => AX ?_
   obtain ⟨rfl, rfl⟩ := Cx M
   refine ⟨.inl rfl, .tuple [.str x11, Ai 0], rH H, ?_⟩
   replace A := A.k1 1
   exact ⟨rfl, A⟩
  exact hF.elim
 ·obtain ⟨rfl, rfl⟩ := Cx M
  exact ⟨.inl rfl, _, rH H, rfl, A⟩
 exact hF.elim
def Hw (p0 : List UInt8) : Option ((List UInt8)) :=
 (Fy (p0.length : Int)).bind fun x1 => BW (OW ([0] : UV) x1) <| BW (decide (p0.length + (Lib.repeatL ([0] : UV) x1.toNat).length ≤ 9223372036854775807)) <| some (p0 ++ (Lib.repeatL ([0] : UV) x1.toNat))
theorem Rb {p0 q0} (M : Hw p0 = some q0) (A : HH g h [] F) (hc : BB (cfg.still 99) av = [.str p0] := by kernel_rfl) : ∃ v Q, BE cfg g h 99 av v Q ∧ v = .str q0 ∧ HH g Q [] F := by
 refine Dp 9 [.tmp 2] hc ?_
 clear hc
 unfold Hw at M
 refine bg 9 [(0, .str p0)] fun D H => ?_
 refine AG 1 (Bg 1 [] 7 H fun D H => ?_)
 obtain ⟨x1, X, M⟩ := bind_some M
 obtain ⟨v1, h1, R, rfl, E⟩ := MA (av := [Ai (p0.length : Int)]) X (A.cut 0)
 replace A := A.Ee E
 refine A6 3 [(3, .str p0)] 6 R H fun D t H => ?_
 obtain ⟨B, M⟩ := AP M
 refine Ac 7 (.str (Lib.repeatL ([0] : UV) x1.toNat)) h1 H (fun D => Steps.call (by kernel_rfl) (TN (C := cfg) (f := 115) (by kernel_rfl) (l := exts) rfl (by kernel_rfl) B)) fun D t H => ?_
 obtain ⟨B, M⟩ := AP M
 refine Ac 8 (.str (p0 ++ (Lib.repeatL ([0] : UV) x1.toNat))) h1 H (fun D => .of (B8 (by kernel_rfl) B)) fun D t H => ?_
 refine AM 1 [(2, .str (p0 ++ (Lib.repeatL ([0] : UV) x1.toNat)))] H fun D H => AX ?_
 obtain rfl := Ah M
 exact ⟨.inl rfl, _, rH H, rfl, A⟩
def DL (p0 : Ar) (p1 : List UInt8) : Option ((List UInt8) × Int × Ar) :=
 Af (!p0.EL) (some (([] : UV), (10 : Int), p0)) (Af (decide ((p1.length : Int) > p0.IC)) (some (([] : UV), (12 : Int), p0)) (some (p1, (0 : Int), (⟨p0.EL, p0.Ed, p0.DF, i64.wrap (p0.IC - (p1.length : Int))⟩ : Ar))))
theorem GW {p0 p1 bp0 q0 q1 u0} (M : DL p0 p1 = some (q0, q1, u0)) (A : HH g h [.obj bp0 (.cells none 2 (A2 p0))] F) (hc : BB (cfg.still 18) av = [.ptr (some (bp0, 0)), .str p1] := by kernel_rfl) : ∃ v Q, BE cfg g h 18 av v Q ∧ v = .tuple [.str q0, Ai q1] ∧ HH g Q [.obj bp0 (.cells none 2 (A2 u0))] F := by
 refine Dp 30 [.tmp 4, .tmp 5] hc ?_
 clear hc
 unfold DL at M
 refine bg 30 [(0, .ptr (some (bp0, 0))), (1, .str p1)] fun D H => ?_
 refine AG 2 (AM 2 [] H fun D H => AQ (Ak (id := 0) (by kernel_rfl) ?_))
 refine AG 6 (AV 3 [] 10 0 0 A H fun D t H => ?_)
 refine AM 2 [(6, .bool (!p0.EL))] H fun D H => Ae 6 H M (fun B M H => ?_) fun B M H => ?_
 ·refine AG 2 (AM 2 [(4, .str ([] : UV)), (5, Ai 10)] H fun D H => AX ?_)
  obtain ⟨rfl, rfl, rfl⟩ := Jl M
  exact ⟨.inl rfl, _, rH H, rfl, A⟩
 refine AG 8 (AV 5 [(14, Ai (p1.length : Int))] 18 0 3 A H fun D t H => ?_)
 refine AM 2 [(12, .bool (decide ((p1.length : Int) > p0.IC)))] H fun D H => Ae 12 H M (fun B M H => ?_) fun B M H => ?_
 ·refine AG 2 (AM 2 [(4, .str ([] : UV)), (5, Ai 12)] H fun D H => AX ?_)
  obtain ⟨rfl, rfl, rfl⟩ := Jl M
  exact ⟨.inl rfl, _, rH H, rfl, A⟩
 refine Cr 10 id (AV 3 [(20, .ptr (some (bp0, 0)))] 23 0 3 A H fun D t H => ?_)
 obtain ⟨h1, X, A⟩ := A.s0 3 [Ai (i64.wrap (p0.IC - (p1.length : Int)))] [_, _, _, _]
 refine ER 5 [] X H fun D t H => ?_
 refine CT 3 id (AM 3 [(4, .str p1), (5, Ai 0)] H fun D H => AX ?_)
 obtain ⟨rfl, rfl, rfl⟩ := Jl M
 exact ⟨.inl rfl, _, rH H, rfl, A⟩
end
end Go.Av.L
