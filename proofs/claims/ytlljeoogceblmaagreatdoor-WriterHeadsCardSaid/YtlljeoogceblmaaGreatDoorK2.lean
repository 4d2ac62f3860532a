/-
 A part.
-/
import Derived.Test.YtlljeoogceblmaaGreatDoorKCfg
import Derived.Test.YtlljeoogceblmaaGreatDoorK0
import Derived.Test.YtlljeoogceblmaaGreatDoorK1
namespace Go.Av.L
open Go.Av Go.Lib
open IntKind (i64 u64)
set_option maxRecDepth 10000
set_option linter.unusedVariables false
set_option linter.unusedSimpArgs false
variable {g : Gd} {h : AD} {F : List Ck} {av : List AB}
noncomputable section
def Fp (p0 : AK) (p1 : AR) : Option (AK) :=
 some (⟨p1.Name, p0.Az, p0.Kind, p0.Mode, p0.Br, p0.CH, p0.Eu, p0.Time, p0.Ah, p0.Aj, p0.An, p0.A2, p0.Form⟩ : AK)
theorem K9 {p0 p1 bp0 bp1 u0} (M : Fp p0 p1 = some u0) (A : HH g h [.obj bp0 (.cells none 2 (AI p0)), .obj bp1 (.cells none 2 (AE p1))] F) (hc : A9 (cfg.still 127) av = [.ptr (some (bp0, 0)), .ptr (some (bp1, 0))] := by kernel_rfl) : ∃ v Q, BB cfg g h 127 av v Q ∧ v = .tuple [] ∧ HH g Q [.obj bp0 (.cells none 2 (AI u0)), .obj bp1 (.cells none 2 (AE p1))] F := by
 refine Dj 8 [] hc ?_
 clear hc
 unfold Fp at M
 refine bg 8 [(0, .ptr (some (bp0, 0))), (1, .ptr (some (bp1, 0)))] fun D H => ?_
 refine BO 6 (AV 2 [(3, .ptr (some (bp0, 0)))] 5 1 0 A H fun D t H => ?_)
 obtain ⟨h1, X, A⟩ := A.s0 0 [.str p1.Name] [_, _, _, _, _, _, _, _, _, _, _, _, _]
 refine CO 2 [] X H fun D t H => ?_
 refine at_nil ?_
 obtain rfl := Ad M
 refine ⟨.inr rfl, .tuple [], rH H, ?_⟩
 exact ⟨rfl, A⟩
def CF (p0 : List UInt8) (p1 : List UInt8) (p2_10 : AR) (p3 : AK) (p4 : List AA) : Option (AK × (List AA)) :=
 (Fp p3 p2_10).bind fun x1 => (BG x1).bind fun x2 => Aa (x2 == 0) (some (x1, p4)) (BS (Ov 32 (p4.length + ([(⟨p0, p1⟩ : AA)] : List AA).length)) <| some (p3, (p4 ++ ([(⟨p0, p1⟩ : AA)] : List AA))))
theorem Hv {p0 p1 p2_10 p3 p4 bp2_10 bp3 bp4 rp4_0 u1 u3} (M : CF p0 p1 p2_10 p3 p4 = some (u1, u3)) (A : HH g h [.obj bp2_10 (.cells none 2 (AE p2_10)), .obj bp3 (.cells none 2 (AI p3)), .obj bp4 (.cells none 2 [AP rp4_0 p4.length]), .Ag rp4_0 117 (Ag AJ p4)] F) (hc : A9 (cfg.still 120) av = [.str p0, .str p1, .func (.func 127) [] [.ptr (some (bp2_10, 0))], .ptr (some (bp3, 0)), .ptr (some (bp4, 0))] := by kernel_rfl) : ∃ v Q, BB cfg g h 120 av v Q ∧ ∃ (r'3 : Option Nat), v = .tuple [] ∧ HH g Q [.obj bp2_10 (.cells none 2 (AE p2_10)), .obj bp3 (.cells none 2 (AI u1)), .obj bp4 (.cells none 2 [AP r'3 u3.length]), .Ag r'3 117 (Ag AJ u3)] F := by
 refine Dj 22 [] hc ?_
 clear hc
 unfold CF at M
 refine bg 22 [(0, .str p0), (1, .str p1), (2, .func (.func 127) [] [.ptr (some (bp2_10, 0))]), (3, .ptr (some (bp3, 0))), (4, .ptr (some (bp4, 0)))] fun D H => ?_
 refine AF 3 (AZ 9 _ _ H (fun D => .of (BD (by kernel_rfl) (A.ET 1 rfl (o := 0) (n := 13) ⟨Nat.le_of_ble_eq_true rfl, rfl⟩))) fun D t H => ?_)
 obtain ⟨h1, e1, A⟩ := A.pu (.cells none 2 [.str ([] : UV), .str ([] : UV), Ab 0, Ai 0, Ai 0, Ai 0, Ai 0, Ai 0, .str ([] : UV), .str ([] : UV), Ai 0, Ai 0, Ai 0])
 refine BF 8 (.ptr (some (h.size, 0))) e1 H fun D t H => ?_
 obtain ⟨h2, X, A⟩ := A.s0 0 (AI p3) [_, _, _, _, _, _, _, _, _, _, _, _, _]
 refine DG X H fun D t H => ?_
 refine BK id (AN (AF 2 ?_))
 obtain ⟨x1, X, M⟩ := bind_some M
 obtain ⟨v1, h3, R, rfl, E⟩ := K9 (av := [.ptr (some (h.size, 0)), .ptr (some (bp2_10, 0))]) X (A.cut 2)
 replace A := A.g22 E
 refine Em 1 [] R H fun D t H => ?_
 refine CT 3 id (AZ 12 _ _ H (fun D => .of (BD (by kernel_rfl) (A.ET 0 rfl (o := 0) (n := 13) ⟨Nat.le_of_ble_eq_true rfl, rfl⟩))) fun D t H => ?_)
 obtain ⟨x2, X, M⟩ := bind_some M
 obtain ⟨v1, h4, R, rfl, E⟩ := Ct (av := [.agg (AI x1)]) X (A.cut 0)
 replace A := A.De E
 refine A0 13 R H fun D t H => ?_
 refine AL 1 [(14, .bool (x2 == 0))] H fun D H => AX 14 H M (fun B M H => ?_) fun B M H => ?_
 ·refine AF 2 (AZ 15 _ _ H (fun D => .of (BD (by kernel_rfl) (A.ET 0 rfl (o := 0) (n := 13) ⟨Nat.le_of_ble_eq_true rfl, rfl⟩))) fun D t H => ?_)
  obtain ⟨h5, X, A⟩ := A.s2 0 (AI x1) [_, _, _, _, _, _, _, _, _, _, _, _, _]
  refine DG X H fun D t H => ?_
  refine BK id (AQ ?_)
  obtain ⟨rfl, rfl⟩ := Bn M
  refine ⟨.inl rfl, .tuple [], rH H, ?_⟩
  replace A := A.k4 1 2 3 4
  exact ⟨rp4_0, rfl, A⟩
 refine FL 7 id (NO 16 3 0 A H fun D t H => ?_)
 refine AG 3 [(19, .agg [.str p0, .str p1])] H fun D H => ?_
 obtain ⟨h6, e2, A⟩ := A.pL 117 [.str p0, .str p1]
 refine BF 20 (AP (some h4.size) (([(⟨p0, p1⟩ : AA)] : List AA).length)) e2 H fun D t H => ?_
 obtain ⟨B, M⟩ := AO M
 obtain ⟨r1, h7, X, E⟩ := HH.Ju AS (by decide) A 5 (xs := p4) (ys := ([(⟨p0, p1⟩ : AA)] : List AA)) rfl (Dr A 0 rfl (n := ([(⟨p0, p1⟩ : AA)] : List AA).length) (z := 2) rfl (by decide)) rfl rfl B
 replace A : HH g h7 [.Ag (some h4.size) 117 ([.str p0, .str p1]), _, _, _, _, .Ag r1 117 (Ag AJ (p4 ++ ([(⟨p0, p1⟩ : AA)] : List AA)))] F := E
 replace A := A.k5 1 2 3 4 5
 refine AZ 21 _ _ H (fun D => .of (GY (s := DT rp4_0 p4.length) (by kernel_rfl) X)) fun D t H => ?_
 obtain ⟨h8, X, E⟩ := A.st 3 rfl (o := 0) (new := [AP r1 ((p4 ++ ([(⟨p0, p1⟩ : AA)] : List AA)).length)]) (ds := [AP r1 ((p4 ++ ([(⟨p0, p1⟩ : AA)] : List AA)).length)]) (Nat.le_of_ble_eq_true rfl) rfl rfl
 replace A : HH g h8 [_, _, _, .obj bp4 (.cells none 2 [AP r1 ((p4 ++ ([(⟨p0, p1⟩ : AA)] : List AA)).length)]), _] F := E
 refine KY X H fun D t H => ?_
 refine at_nil ?_
 obtain ⟨rfl, rfl⟩ := Bn M
 refine ⟨.inr rfl, .tuple [], rH H, ?_⟩
 replace A := A.k4 1 2 3 4
 exact ⟨r1, rfl, A⟩
def Fx (p0 : AK) (p1 : Int) : Option (AK) :=
 some (⟨p0.Name, p0.Az, p0.Kind, p0.Mode, p0.Br, p0.CH, p1, p0.Time, p0.Ah, p0.Aj, p0.An, p0.A2, p0.Form⟩ : AK)
theorem LA {p0 p1 bp0 bp1 u0} (M : Fx p0 p1 = some u0) (A : HH g h [.obj bp0 (.cells none 2 (AI p0)), .obj bp1 (.cells none 2 [Ai p1])] F) (hc : A9 (cfg.still 128) av = [.ptr (some (bp0, 0)), .ptr (some (bp1, 0))] := by kernel_rfl) : ∃ v Q, BB cfg g h 128 av v Q ∧ v = .tuple [] ∧ HH g Q [.obj bp0 (.cells none 2 (AI u0)), .obj bp1 (.cells none 2 [Ai p1])] F := by
 refine Dj 7 [] hc ?_
 clear hc
 unfold Fx at M
 refine bg 7 [(0, .ptr (some (bp0, 0))), (1, .ptr (some (bp1, 0)))] fun D H => ?_
 refine BO 5 (AV 1 [(3, .ptr (some (bp0, 0)))] 4 1 0 A H fun D t H => ?_)
 obtain ⟨h1, X, A⟩ := A.s0 6 [Ai p1] [_, _, _, _, _, _, _, _, _, _, _, _, _]
 refine CO 2 [] X H fun D t H => ?_
 refine at_nil ?_
 obtain rfl := Ad M
 refine ⟨.inr rfl, .tuple [], rH H, ?_⟩
 exact ⟨rfl, A⟩
def CB (p0 : List UInt8) (p1 : List UInt8) (p2_10 : Int) (p3 : AK) (p4 : List AA) : Option (AK × (List AA)) :=
 (Fx p3 p2_10).bind fun x1 => (BG x1).bind fun x2 => Aa (x2 == 0) (some (x1, p4)) (BS (Ov 32 (p4.length + ([(⟨p0, p1⟩ : AA)] : List AA).length)) <| some (p3, (p4 ++ ([(⟨p0, p1⟩ : AA)] : List AA))))
theorem H2 {p0 p1 p2_10 p3 p4 bp2_10 bp3 bp4 rp4_0 u1 u3} (M : CB p0 p1 p2_10 p3 p4 = some (u1, u3)) (A : HH g h [.obj bp2_10 (.cells none 2 [Ai p2_10]), .obj bp3 (.cells none 2 (AI p3)), .obj bp4 (.cells none 2 [AP rp4_0 p4.length]), .Ag rp4_0 117 (Ag AJ p4)] F) (hc : A9 (cfg.still 120) av = [.str p0, .str p1, .func (.func 128) [] [.ptr (some (bp2_10, 0))], .ptr (some (bp3, 0)), .ptr (some (bp4, 0))] := by kernel_rfl) : ∃ v Q, BB cfg g h 120 av v Q ∧ ∃ (r'3 : Option Nat), v = .tuple [] ∧ HH g Q [.obj bp2_10 (.cells none 2 [Ai p2_10]), .obj bp3 (.cells none 2 (AI u1)), .obj bp4 (.cells none 2 [AP r'3 u3.length]), .Ag r'3 117 (Ag AJ u3)] F := by
 refine Dj 22 [] hc ?_
 clear hc
 unfold CB at M
 refine bg 22 [(0, .str p0), (1, .str p1), (2, .func (.func 128) [] [.ptr (some (bp2_10, 0))]), (3, .ptr (some (bp3, 0))), (4, .ptr (some (bp4, 0)))] fun D H => ?_
 refine AF 3 (AZ 9 _ _ H (fun D => .of (BD (by kernel_rfl) (A.ET 1 rfl (o := 0) (n := 13) ⟨Nat.le_of_ble_eq_true rfl, rfl⟩))) fun D t H => ?_)
 obtain ⟨h1, e1, A⟩ := A.pu (.cells none 2 [.str ([] : UV), .str ([] : UV), Ab 0, Ai 0, Ai 0, Ai 0, Ai 0, Ai 0, .str ([] : UV), .str ([] : UV), Ai 0, Ai 0, Ai 0])
 refine BF 8 (.ptr (some (h.size, 0))) e1 H fun D t H => ?_
 obtain ⟨h2, X, A⟩ := A.s0 0 (AI p3) [_, _, _, _, _, _, _, _, _, _, _, _, _]
 refine DG X H fun D t H => ?_
 refine BK id (AN (AF 2 ?_))
 obtain ⟨x1, X, M⟩ := bind_some M
 obtain ⟨v1, h3, R, rfl, E⟩ := LA (av := [.ptr (some (h.size, 0)), .ptr (some (bp2_10, 0))]) X (A.cut 2)
 replace A := A.g22 E
 refine Em 1 [] R H fun D t H => ?_
 refine CT 3 id (AZ 12 _ _ H (fun D => .of (BD (by kernel_rfl) (A.ET 0 rfl (o := 0) (n := 13) ⟨Nat.le_of_ble_eq_true rfl, rfl⟩))) fun D t H => ?_)
 obtain ⟨x2, X, M⟩ := bind_some M
 obtain ⟨v1, h4, R, rfl, E⟩ := Ct (av := [.agg (AI x1)]) X (A.cut 0)
 replace A := A.De E
 refine A0 13 R H fun D t H => ?_
 refine AL 1 [(14, .bool (x2 == 0))] H fun D H => AX 14 H M (fun B M H => ?_) fun B M H => ?_
 ·refine AF 2 (AZ 15 _ _ H (fun D => .of (BD (by kernel_rfl) (A.ET 0 rfl (o := 0) (n := 13) ⟨Nat.le_of_ble_eq_true rfl, rfl⟩))) fun D t H => ?_)
  obtain ⟨h5, X, A⟩ := A.s2 0 (AI x1) [_, _, _, _, _, _, _, _, _, _, _, _, _]
  refine DG X H fun D t H => ?_
  refine BK id (AQ ?_)
  obtain ⟨rfl, rfl⟩ := Bn M
  refine ⟨.inl rfl, .tuple [], rH H, ?_⟩
  replace A := A.k4 1 2 3 4
  exact ⟨rp4_0, rfl, A⟩
 refine FL 7 id (NO 16 3 0 A H fun D t H => ?_)
 refine AG 3 [(19, .agg [.str p0, .str p1])] H fun D H => ?_
 obtain ⟨h6, e2, A⟩ := A.pL 117 [.str p0, .str p1]
 refine BF 20 (AP (some h4.size) (([(⟨p0, p1⟩ : AA)] : List AA).length)) e2 H fun D t H => ?_
 obtain ⟨B, M⟩ := AO M
 obtain ⟨r1, h7, X, E⟩ := HH.Ju AS (by decide) A 5 (xs := p4) (ys := ([(⟨p0, p1⟩ : AA)] : List AA)) rfl (Dr A 0 rfl (n := ([(⟨p0, p1⟩ : AA)] : List AA).length) (z := 2) rfl (by decide)) rfl rfl B
 replace A : HH g h7 [.Ag (some h4.size) 117 ([.str p0, .str p1]), _, _, _, _, .Ag r1 117 (Ag AJ (p4 ++ ([(⟨p0, p1⟩ : AA)] : List AA)))] F := E
 replace A := A.k5 1 2 3 4 5
 refine AZ 21 _ _ H (fun D => .of (GY (s := DT rp4_0 p4.length) (by kernel_rfl) X)) fun D t H => ?_
 obtain ⟨h8, X, E⟩ := A.st 3 rfl (o := 0) (new := [AP r1 ((p4 ++ ([(⟨p0, p1⟩ : AA)] : List AA)).length)]) (ds := [AP r1 ((p4 ++ ([(⟨p0, p1⟩ : AA)] : List AA)).length)]) (Nat.le_of_ble_eq_true rfl) rfl rfl
 replace A : HH g h8 [_, _, _, .obj bp4 (.cells none 2 [AP r1 ((p4 ++ ([(⟨p0, p1⟩ : AA)] : List AA)).length)]), _] F := E
 refine KY X H fun D t H => ?_
 refine at_nil ?_
 obtain ⟨rfl, rfl⟩ := Bn M
 refine ⟨.inr rfl, .tuple [], rH H, ?_⟩
 replace A := A.k4 1 2 3 4
 exact ⟨r1, rfl, A⟩
def Fq (p0 : AK) (p1 : AR) : Option (AK) :=
 some (⟨p0.Name, p0.Az, p0.Kind, p0.Mode, p1.Br, p0.CH, p0.Eu, p0.Time, p0.Ah, p0.Aj, p0.An, p0.A2, p0.Form⟩ : AK)
theorem LF {p0 p1 bp0 bp1 u0} (M : Fq p0 p1 = some u0) (A : HH g h [.obj bp0 (.cells none 2 (AI p0)), .obj bp1 (.cells none 2 (AE p1))] F) (hc : A9 (cfg.still 129) av = [.ptr (some (bp0, 0)), .ptr (some (bp1, 0))] := by kernel_rfl) : ∃ v Q, BB cfg g h 129 av v Q ∧ v = .tuple [] ∧ HH g Q [.obj bp0 (.cells none 2 (AI u0)), .obj bp1 (.cells none 2 (AE p1))] F := by
 refine Dj 8 [] hc ?_
 clear hc
 unfold Fq at M
 refine bg 8 [(0, .ptr (some (bp0, 0))), (1, .ptr (some (bp1, 0)))] fun D H => ?_
 refine BO 6 (AV 2 [(3, .ptr (some (bp0, 0)))] 5 1 4 A H fun D t H => ?_)
 obtain ⟨h1, X, A⟩ := A.s0 4 [Ai p1.Br] [_, _, _, _, _, _, _, _, _, _, _, _, _]
 refine CO 2 [] X H fun D t H => ?_
 refine at_nil ?_
 obtain rfl := Ad M
 refine ⟨.inr rfl, .tuple [], rH H, ?_⟩
 exact ⟨rfl, A⟩
def CA (p0 : List UInt8) (p1 : List UInt8) (p2_10 : AR) (p3 : AK) (p4 : List AA) : Option (AK × (List AA)) :=
 (Fq p3 p2_10).bind fun x1 => (BG x1).bind fun x2 => Aa (x2 == 0) (some (x1, p4)) (BS (Ov 32 (p4.length + ([(⟨p0, p1⟩ : AA)] : List AA).length)) <| some (p3, (p4 ++ ([(⟨p0, p1⟩ : AA)] : List AA))))
theorem H5 {p0 p1 p2_10 p3 p4 bp2_10 bp3 bp4 rp4_0 u1 u3} (M : CA p0 p1 p2_10 p3 p4 = some (u1, u3)) (A : HH g h [.obj bp2_10 (.cells none 2 (AE p2_10)), .obj bp3 (.cells none 2 (AI p3)), .obj bp4 (.cells none 2 [AP rp4_0 p4.length]), .Ag rp4_0 117 (Ag AJ p4)] F) (hc : A9 (cfg.still 120) av = [.str p0, .str p1, .func (.func 129) [] [.ptr (some (bp2_10, 0))], .ptr (some (bp3, 0)), .ptr (some (bp4, 0))] := by kernel_rfl) : ∃ v Q, BB cfg g h 120 av v Q ∧ ∃ (r'3 : Option Nat), v = .tuple [] ∧ HH g Q [.obj bp2_10 (.cells none 2 (AE p2_10)), .obj bp3 (.cells none 2 (AI u1)), .obj bp4 (.cells none 2 [AP r'3 u3.length]), .Ag r'3 117 (Ag AJ u3)] F := by
 refine Dj 22 [] hc ?_
 clear hc
 unfold CA at M
 refine bg 22 [(0, .str p0), (1, .str p1), (2, .func (.func 129) [] [.ptr (some (bp2_10, 0))]), (3, .ptr (some (bp3, 0))), (4, .ptr (some (bp4, 0)))] fun D H => ?_
 refine AF 3 (AZ 9 _ _ H (fun D => .of (BD (by kernel_rfl) (A.ET 1 rfl (o := 0) (n := 13) ⟨Nat.le_of_ble_eq_true rfl, rfl⟩))) fun D t H => ?_)
 obtain ⟨h1, e1, A⟩ := A.pu (.cells none 2 [.str ([] : UV), .str ([] : UV), Ab 0, Ai 0, Ai 0, Ai 0, Ai 0, Ai 0, .str ([] : UV), .str ([] : UV), Ai 0, Ai 0, Ai 0])
 refine BF 8 (.ptr (some (h.size, 0))) e1 H fun D t H => ?_
 obtain ⟨h2, X, A⟩ := A.s0 0 (AI p3) [_, _, _, _, _, _, _, _, _, _, _, _, _]
 refine DG X H fun D t H => ?_
 refine BK id (AN (AF 2 ?_))
 obtain ⟨x1, X, M⟩ := bind_some M
 obtain ⟨v1, h3, R, rfl, E⟩ := LF (av := [.ptr (some (h.size, 0)), .ptr (some (bp2_10, 0))]) X (A.cut 2)
 replace A := A.g22 E
 refine Em 1 [] R H fun D t H => ?_
 refine CT 3 id (AZ 12 _ _ H (fun D => .of (BD (by kernel_rfl) (A.ET 0 rfl (o := 0) (n := 13) ⟨Nat.le_of_ble_eq_true rfl, rfl⟩))) fun D t H => ?_)
 obtain ⟨x2, X, M⟩ := bind_some M
 obtain ⟨v1, h4, R, rfl, E⟩ := Ct (av := [.agg (AI x1)]) X (A.cut 0)
 replace A := A.De E
 refine A0 13 R H fun D t H => ?_
 refine AL 1 [(14, .bool (x2 == 0))] H fun D H => AX 14 H M (fun B M H => ?_) fun B M H => ?_
 ·refine AF 2 (AZ 15 _ _ H (fun D => .of (BD (by kernel_rfl) (A.ET 0 rfl (o := 0) (n := 13) ⟨Nat.le_of_ble_eq_true rfl, rfl⟩))) fun D t H => ?_)
  obtain ⟨h5, X, A⟩ := A.s2 0 (AI x1) [_, _, _, _, _, _, _, _, _, _, _, _, _]
  refine DG X H fun D t H => ?_
  refine BK id (AQ ?_)
  obtain ⟨rfl, rfl⟩ := Bn M
  refine ⟨.inl rfl, .tuple [], rH H, ?_⟩
  replace A := A.k4 1 2 3 4
  exact ⟨rp4_0, rfl, A⟩
 refine FL 7 id (NO 16 3 0 A H fun D t H => ?_)
 refine AG 3 [(19, .agg [.str p0, .str p1])] H fun D H => ?_
 obtain ⟨h6, e2, A⟩ := A.pL 117 [.str p0, .str p1]
 refine BF 20 (AP (some h4.size) (([(⟨p0, p1⟩ : AA)] : List AA).length)) e2 H fun D t H => ?_
 obtain ⟨B, M⟩ := AO M
 obtain ⟨r1, h7, X, E⟩ := HH.Ju AS (by decide) A 5 (xs := p4) (ys := ([(⟨p0, p1⟩ : AA)] : List AA)) rfl (Dr A 0 rfl (n := ([(⟨p0, p1⟩ : AA)] : List AA).length) (z := 2) rfl (by decide)) rfl rfl B
 replace A : HH g h7 [.Ag (some h4.size) 117 ([.str p0, .str p1]), _, _, _, _, .Ag r1 117 (Ag AJ (p4 ++ ([(⟨p0, p1⟩ : AA)] : List AA)))] F := E
 replace A := A.k5 1 2 3 4 5
 refine AZ 21 _ _ H (fun D => .of (GY (s := DT rp4_0 p4.length) (by kernel_rfl) X)) fun D t H => ?_
 obtain ⟨h8, X, E⟩ := A.st 3 rfl (o := 0) (new := [AP r1 ((p4 ++ ([(⟨p0, p1⟩ : AA)] : List AA)).length)]) (ds := [AP r1 ((p4 ++ ([(⟨p0, p1⟩ : AA)] : List AA)).length)]) (Nat.le_of_ble_eq_true rfl) rfl rfl
 replace A : HH g h8 [_, _, _, .obj bp4 (.cells none 2 [AP r1 ((p4 ++ ([(⟨p0, p1⟩ : AA)] : List AA)).length)]), _] F := E
 refine KY X H fun D t H => ?_
 refine at_nil ?_
 obtain ⟨rfl, rfl⟩ := Bn M
 refine ⟨.inr rfl, .tuple [], rH H, ?_⟩
 replace A := A.k4 1 2 3 4
 exact ⟨r1, rfl, A⟩
def Fu (p0 : AK) (p1 : AR) : Option (AK) :=
 some (⟨p0.Name, p0.Az, p0.Kind, p0.Mode, p0.Br, p0.CH, p0.Eu, p0.Time, p1.Ah, p0.Aj, p0.An, p0.A2, p0.Form⟩ : AK)
theorem LB {p0 p1 bp0 bp1 u0} (M : Fu p0 p1 = some u0) (A : HH g h [.obj bp0 (.cells none 2 (AI p0)), .obj bp1 (.cells none 2 (AE p1))] F) (hc : A9 (cfg.still 130) av = [.ptr (some (bp0, 0)), .ptr (some (bp1, 0))] := by kernel_rfl) : ∃ v Q, BB cfg g h 130 av v Q ∧ v = .tuple [] ∧ HH g Q [.obj bp0 (.cells none 2 (AI u0)), .obj bp1 (.cells none 2 (AE p1))] F := by
 refine Dj 8 [] hc ?_
 clear hc
 unfold Fu at M
 refine bg 8 [(0, .ptr (some (bp0, 0))), (1, .ptr (some (bp1, 0)))] fun D H => ?_
 refine BO 6 (AV 2 [(3, .ptr (some (bp0, 0)))] 5 1 6 A H fun D t H => ?_)
 obtain ⟨h1, X, A⟩ := A.s0 8 [.str p1.Ah] [_, _, _, _, _, _, _, _, _, _, _, _, _]
 refine CO 2 [] X H fun D t H => ?_
 refine at_nil ?_
 obtain rfl := Ad M
 refine ⟨.inr rfl, .tuple [], rH H, ?_⟩
 exact ⟨rfl, A⟩
def CG (p0 : List UInt8) (p1 : List UInt8) (p2_10 : AR) (p3 : AK) (p4 : List AA) : Option (AK × (List AA)) :=
 (Fu p3 p2_10).bind fun x1 => (BG x1).bind fun x2 => Aa (x2 == 0) (some (x1, p4)) (BS (Ov 32 (p4.length + ([(⟨p0, p1⟩ : AA)] : List AA).length)) <| some (p3, (p4 ++ ([(⟨p0, p1⟩ : AA)] : List AA))))
theorem Hw {p0 p1 p2_10 p3 p4 bp2_10 bp3 bp4 rp4_0 u1 u3} (M : CG p0 p1 p2_10 p3 p4 = some (u1, u3)) (A : HH g h [.obj bp2_10 (.cells none 2 (AE p2_10)), .obj bp3 (.cells none 2 (AI p3)), .obj bp4 (.cells none 2 [AP rp4_0 p4.length]), .Ag rp4_0 117 (Ag AJ p4)] F) (hc : A9 (cfg.still 120) av = [.str p0, .str p1, .func (.func 130) [] [.ptr (some (bp2_10, 0))], .ptr (some (bp3, 0)), .ptr (some (bp4, 0))] := by kernel_rfl) : ∃ v Q, BB cfg g h 120 av v Q ∧ ∃ (r'3 : Option Nat), v = .tuple [] ∧ HH g Q [.obj bp2_10 (.cells none 2 (AE p2_10)), .obj bp3 (.cells none 2 (AI u1)), .obj bp4 (.cells none 2 [AP r'3 u3.length]), .Ag r'3 117 (Ag AJ u3)] F := by
 refine Dj 22 [] hc ?_
 clear hc
 unfold CG at M
 refine bg 22 [(0, .str p0), (1, .str p1), (2, .func (.func 130) [] [.ptr (some (bp2_10, 0))]), (3, .ptr (some (bp3, 0))), (4, .ptr (some (bp4, 0)))] fun D H => ?_
 refine AF 3 (AZ 9 _ _ H (fun D => .of (BD (by kernel_rfl) (A.ET 1 rfl (o := 0) (n := 13) ⟨Nat.le_of_ble_eq_true rfl, rfl⟩))) fun D t H => ?_)
 obtain ⟨h1, e1, A⟩ := A.pu (.cells none 2 [.str ([] : UV), .str ([] : UV), Ab 0, Ai 0, Ai 0, Ai 0, Ai 0, Ai 0, .str ([] : UV), .str ([] : UV), Ai 0, Ai 0, Ai 0])
 refine BF 8 (.ptr (some (h.size, 0))) e1 H fun D t H => ?_
 obtain ⟨h2, X, A⟩ := A.s0 0 (AI p3) [_, _, _, _, _, _, _, _, _, _, _, _, _]
 refine DG X H fun D t H => ?_
 refine BK id (AN (AF 2 ?_))
 obtain ⟨x1, X, M⟩ := bind_some M
 obtain ⟨v1, h3, R, rfl, E⟩ := LB (av := [.ptr (some (h.size, 0)), .ptr (some (bp2_10, 0))]) X (A.cut 2)
 replace A := A.g22 E
 refine Em 1 [] R H fun D t H => ?_
 refine CT 3 id (AZ 12 _ _ H (fun D => .of (BD (by kernel_rfl) (A.ET 0 rfl (o := 0) (n := 13) ⟨Nat.le_of_ble_eq_true rfl, rfl⟩))) fun D t H => ?_)
 obtain ⟨x2, X, M⟩ := bind_some M
 obtain ⟨v1, h4, R, rfl, E⟩ := Ct (av := [.agg (AI x1)]) X (A.cut 0)
 replace A := A.De E
 refine A0 13 R H fun D t H => ?_
 refine AL 1 [(14, .bool (x2 == 0))] H fun D H => AX 14 H M (fun B M H => ?_) fun B M H => ?_
 ·refine AF 2 (AZ 15 _ _ H (fun D => .of (BD (by kernel_rfl) (A.ET 0 rfl (o := 0) (n := 13) ⟨Nat.le_of_ble_eq_true rfl, rfl⟩))) fun D t H => ?_)
  obtain ⟨h5, X, A⟩ := A.s2 0 (AI x1) [_, _, _, _, _, _, _, _, _, _, _, _, _]
  refine DG X H fun D t H => ?_
  refine BK id (AQ ?_)
  obtain ⟨rfl, rfl⟩ := Bn M
  refine ⟨.inl rfl, .tuple [], rH H, ?_⟩
  replace A := A.k4 1 2 3 4
  exact ⟨rp4_0, rfl, A⟩
 refine FL 7 id (NO 16 3 0 A H fun D t H => ?_)
 refine AG 3 [(19, .agg [.str p0, .str p1])] H fun D H => ?_
 obtain ⟨h6, e2, A⟩ := A.pL 117 [.str p0, .str p1]
 refine BF 20 (AP (some h4.size) (([(⟨p0, p1⟩ : AA)] : List AA).length)) e2 H fun D t H => ?_
 obtain ⟨B, M⟩ := AO M
 obtain ⟨r1, h7, X, E⟩ := HH.Ju AS (by decide) A 5 (xs := p4) (ys := ([(⟨p0, p1⟩ : AA)] : List AA)) rfl (Dr A 0 rfl (n := ([(⟨p0, p1⟩ : AA)] : List AA).length) (z := 2) rfl (by decide)) rfl rfl B
 replace A : HH g h7 [.Ag (some h4.size) 117 ([.str p0, .str p1]), _, _, _, _, .Ag r1 117 (Ag AJ (p4 ++ ([(⟨p0, p1⟩ : AA)] : List AA)))] F := E
 replace A := A.k5 1 2 3 4 5
 refine AZ 21 _ _ H (fun D => .of (GY (s := DT rp4_0 p4.length) (by kernel_rfl) X)) fun D t H => ?_
 obtain ⟨h8, X, E⟩ := A.st 3 rfl (o := 0) (new := [AP r1 ((p4 ++ ([(⟨p0, p1⟩ : AA)] : List AA)).length)]) (ds := [AP r1 ((p4 ++ ([(⟨p0, p1⟩ : AA)] : List AA)).length)]) (Nat.le_of_ble_eq_true rfl) rfl rfl
 replace A : HH g h8 [_, _, _, .obj bp4 (.cells none 2 [AP r1 ((p4 ++ ([(⟨p0, p1⟩ : AA)] : List AA)).length)]), _] F := E
 refine KY X H fun D t H => ?_
 refine at_nil ?_
 obtain ⟨rfl, rfl⟩ := Bn M
 refine ⟨.inr rfl, .tuple [], rH H, ?_⟩
 replace A := A.k4 1 2 3 4
 exact ⟨r1, rfl, A⟩
def FF (p0 : AR) (p1 : Int) : Option (AK × (List AA)) :=
 BS (decide (-9223372036854775808 ≤ p0.CH ∧ p0.CH ≤ 9223372036854775807)) <| (Ch ([103, 105, 100] : UV) (Lib.itoa p0.CH) p0 (⟨([] : UV), ([] : UV), p0.Kind, p0.Mode, (0 : Int), (0 : Int), (0 : Int), (0 : Int), ([] : UV), ([] : UV), p0.An, p0.A2, (2 : Int)⟩ : AK) ([] : List AA)).bind fun (x1, x2) => (CC ([103, 110, 97, 109, 101] : UV) p0.Aj p0 x1 x2).bind fun (x3, x4) => (CD ([108, 105, 110, 107, 112, 97, 116, 104] : UV) p0.Az p0 x3 x4).bind fun (x5, x6) => (EJ p0.Time).bind fun (x7, x8) => (Bh ([109, 116, 105, 109, 101] : UV) x7 p0 x5 x6).bind fun (x9, x10) => (CF ([112, 97, 116, 104] : UV) p0.Name p0 x9 x10).bind fun (x11, x12) => BS (decide (-9223372036854775808 ≤ p1 ∧ p1 ≤ 9223372036854775807)) <| (CB ([115, 105, 122, 101] : UV) (Lib.itoa p1) p1 x11 x12).bind fun (x13, x14) => BS (decide (-9223372036854775808 ≤ p0.Br ∧ p0.Br ≤ 9223372036854775807)) <| (CA ([117, 105, 100] : UV) (Lib.itoa p0.Br) p0 x13 x14).bind fun (x15, x16) => (CG ([117, 110, 97, 109, 101] : UV) p0.Ah p0 x15 x16).bind fun (x17, x18) => some (x17, x18)
theorem LS {p0 p1 q0 q1} (M : FF p0 p1 = some (q0, q1)) (A : HH g h [] F) (hc : A9 (cfg.still 66) av = [.agg (AE p0), Ai p1] := by kernel_rfl) : ∃ v Q, BB cfg g h 66 av v Q ∧ ∃ (Dj : Option Nat), v = .tuple [.agg (AI q0), AP Dj q1.length] ∧ HH g Q [.Ag Dj 117 (Ag AJ q1)] F := by
 refine Dj 70 [.cell 4 35, .tmp 5] hc ?_
 clear hc
 unfold FF at M
 refine bg 70 [(0, .agg (AE p0)), (1, Ai p1)] fun D H => ?_
 refine AF 4 ?_
 obtain ⟨h1, e1, A⟩ := A.pu (.cells none 2 (AE p0))
 refine BF 2 (.ptr (some (h.size, 0))) e1 H fun D t H => ?_
 obtain ⟨h2, e2, A⟩ := A.pu (.cells none 2 [Ai p1])
 refine BF 3 (.ptr (some (h1.size, 0))) e2 H fun D t H => ?_
 obtain ⟨h3, e3, A⟩ := A.pu (.cells none 2 [.str ([] : UV), .str ([] : UV), Ab 0, Ai 0, Ai 0, Ai 0, Ai 0, Ai 0, .str ([] : UV), .str ([] : UV), Ai 0, Ai 0, Ai 0])
 refine BF 4 (.ptr (some (h2.size, 0))) e3 H fun D t H => ?_
 refine Be 1 [] 11 H fun D H => AV 1 [] 12 2 2 A H fun D t H => ?_
 refine AV 1 [] 14 2 3 A H fun D t H => ?_
 refine AV 1 [] 16 2 8 A H fun D t H => ?_
 refine AV 1 [] 18 2 9 A H fun D t H => ?_
 obtain ⟨h4, e4, A⟩ := A.pu (.cells none 2 [.str ([] : UV), .str ([] : UV), Ab 0, Ai 0, Ai 0, Ai 0, Ai 0, Ai 0, .str ([] : UV), .str ([] : UV), Ai 0, Ai 0, Ai 0])
 refine Jg 1 [(19, .agg [.str ([] : UV), .str ([] : UV), Ab p0.Kind, Ai p0.Mode, Ai (0 : Int), Ai (0 : Int), Ai (0 : Int), Ai (0 : Int), .str ([] : UV), .str ([] : UV), Ai p0.An, Ai p0.A2, Ai (2 : Int)])] 6 (.ptr (some (h3.size, 0))) e4 H fun D t H => ?_
 obtain ⟨h5, X, E⟩ := A.st 0 rfl (o := 0) (new := [.str ([] : UV), .str ([] : UV), Ab p0.Kind, Ai p0.Mode, Ai 0, Ai 0, Ai 0, Ai 0, .str ([] : UV), .str ([] : UV), Ai p0.An, Ai p0.A2, Ai 2]) (ds := [.str ([] : UV), .str ([] : UV), Ab p0.Kind, Ai p0.Mode, Ai 0, Ai 0, Ai 0, Ai 0, .str ([] : UV), .str ([] : UV), Ai p0.An, Ai p0.A2, Ai 2]) (Nat.le_of_ble_eq_true rfl) rfl rfl
 replace A : HH g h5 [.obj h3.size (.cells none 2 [.str ([] : UV), .str ([] : UV), Ab p0.Kind, Ai p0.Mode, Ai 0, Ai 0, Ai 0, Ai 0, .str ([] : UV), .str ([] : UV), Ai p0.An, Ai p0.A2, Ai 2]), .obj h2.size (.cells none 2 [.str ([] : UV), .str ([] : UV), Ab 0, Ai 0, Ai 0, Ai 0, Ai 0, Ai 0, .str ([] : UV), .str ([] : UV), Ai 0, Ai 0, Ai 0]), .obj h1.size (.cells none 2 [Ai p1]), .obj h.size (.cells none 2 (AE p0))] F := E
 refine DG X H fun D t H => ?_
 refine CT 1 id ?_
 obtain ⟨h6, e5, A⟩ := A.pu (.cells none 2 [.slice none 0])
 refine BF 7 (.ptr (some (h5.size, 0))) e5 H fun D t H => ?_
 refine CT 2 id (Be 2 [(8, .func (.func 120) [] [.ptr (some (h3.size, 0)), .ptr (some (h5.size, 0))])] 6 H fun D H => AV 2 [(21, .func (.func 120) [] [.ptr (some (h3.size, 0)), .ptr (some (h5.size, 0))])] 23 4 5 A H fun D t H => ?_)
 obtain ⟨B, M⟩ := AO M
 refine AZ 24 (.str (Lib.itoa p0.CH)) h6 H (fun D => Steps.call (by kernel_rfl) (Hx (C := cfg) (f := 121) (by kernel_rfl) (l := exts) rfl (by kernel_rfl) B)) fun D t H => ?_
 replace A : HH g h6 [.Ag none 117 (Ag AJ ([] : List AA)), .obj h5.size (.cells none 2 [AP none (([] : List AA).length)]), _, _, _, _] F := A.Xk 117
 replace A := A.k6 5 2 1 0 3 4
 obtain ⟨⟨x1, x2⟩, X, M⟩ := bind_some M
 obtain ⟨v1, h7, R, r1, rfl, E⟩ := It (av := [.str ([103, 105, 100] : UV), .str (Lib.itoa p0.CH), .func (.func 122) [] [.ptr (some (h.size, 0))], .ptr (some (h3.size, 0)), .ptr (some (h5.size, 0))]) X (A.cut 4)
 replace A := A.YS E
 refine Em 1 [] R H fun D t H => ?_
 refine CT 5 id (AV 2 [(27, .func (.func 120) [] [.ptr (some (h3.size, 0)), .ptr (some (h5.size, 0))])] 29 0 7 A H fun D t H => ?_)
 obtain ⟨⟨x3, x4⟩, X, M⟩ := bind_some M
 obtain ⟨v1, h8, R, r2, rfl, E⟩ := Hn (av := [.str ([103, 110, 97, 109, 101] : UV), .str p0.Aj, .func (.func 123) [] [.ptr (some (h.size, 0))], .ptr (some (h3.size, 0)), .ptr (some (h5.size, 0))]) X (A.cut 4)
 replace A := A.YS E
 refine Em 1 [] R H fun D t H => ?_
 refine CT 5 id (AV 2 [(32, .func (.func 120) [] [.ptr (some (h3.size, 0)), .ptr (some (h5.size, 0))])] 34 0 1 A H fun D t H => ?_)
 obtain ⟨⟨x5, x6⟩, X, M⟩ := bind_some M
 obtain ⟨v1, h9, R, r3, rfl, E⟩ := H9 (av := [.str ([108, 105, 110, 107, 112, 97, 116, 104] : UV), .str p0.Az, .func (.func 124) [] [.ptr (some (h.size, 0))], .ptr (some (h3.size, 0)), .ptr (some (h5.size, 0))]) X (A.cut 4)
 replace A := A.YS E
 refine Em 1 [] R H fun D t H => ?_
 refine CT 8 id (Ax 1 [] 39 _ _ H (fun D => .of (BD (by kernel_rfl) (A.ET 0 rfl (o := 10) (n := 2) ⟨Nat.le_of_ble_eq_true rfl, rfl⟩))) fun D t H => ?_)
 obtain ⟨⟨x7, x8⟩, X, M⟩ := bind_some M
 obtain ⟨v1, h10, R, rfl, E⟩ := PD (av := [.agg [Ai p0.Time.Cn, Ai p0.Time.BV]]) X (A.cut 0)
 replace A := A.De E
 refine A0 40 R H fun D t H => ?_
 refine Be 5 [(9, .str x7)] 4 H fun D H => ?_
 obtain ⟨⟨x9, x10⟩, X, M⟩ := bind_some M
 obtain ⟨v1, h11, R, r4, rfl, E⟩ := Hq (av := [.str ([109, 116, 105, 109, 101] : UV), .str x7, .func (.func 126) [] [.ptr (some (h.size, 0))], .ptr (some (h3.size, 0)), .ptr (some (h5.size, 0))]) X (A.cut 4)
 replace A := A.YS E
 refine Em 3 [] R H fun D t H => ?_
 refine CT 5 id (AV 2 [(47, .func (.func 120) [] [.ptr (some (h3.size, 0)), .ptr (some (h5.size, 0))])] 49 0 0 A H fun D t H => ?_)
 obtain ⟨⟨x11, x12⟩, X, M⟩ := bind_some M
 obtain ⟨v1, h12, R, r5, rfl, E⟩ := Hv (av := [.str ([112, 97, 116, 104] : UV), .str p0.Name, .func (.func 127) [] [.ptr (some (h.size, 0))], .ptr (some (h3.size, 0)), .ptr (some (h5.size, 0))]) X (A.cut 4)
 replace A := A.YS E
 refine Em 1 [] R H fun D t H => ?_
 refine CT 5 id (AV 1 [(52, .func (.func 120) [] [.ptr (some (h3.size, 0)), .ptr (some (h5.size, 0))])] 53 5 0 A H fun D t H => ?_)
 obtain ⟨B, M⟩ := AO M
 refine AZ 54 (.str (Lib.itoa p1)) h12 H (fun D => Steps.call (by kernel_rfl) (Hx (C := cfg) (f := 121) (by kernel_rfl) (l := exts) rfl (by kernel_rfl) B)) fun D t H => ?_
 replace A := A.k6 5 1 2 3 0 4
 obtain ⟨⟨x13, x14⟩, X, M⟩ := bind_some M
 obtain ⟨v1, h13, R, r6, rfl, E⟩ := H2 (av := [.str ([115, 105, 122, 101] : UV), .str (Lib.itoa p1), .func (.func 128) [] [.ptr (some (h1.size, 0))], .ptr (some (h3.size, 0)), .ptr (some (h5.size, 0))]) X (A.cut 4)
 replace A := A.YS E
 refine Em 1 [] R H fun D t H => ?_
 refine CT 6 id (AV 2 [(57, .func (.func 120) [] [.ptr (some (h3.size, 0)), .ptr (some (h5.size, 0))])] 59 4 4 A H fun D t H => ?_)
 obtain ⟨B, M⟩ := AO M
 refine AZ 60 (.str (Lib.itoa p0.Br)) h13 H (fun D => Steps.call (by kernel_rfl) (Hx (C := cfg) (f := 121) (by kernel_rfl) (l := exts) rfl (by kernel_rfl) B)) fun D t H => ?_
 replace A := A.k6 4 1 2 3 0 5
 obtain ⟨⟨x15, x16⟩, X, M⟩ := bind_some M
 obtain ⟨v1, h14, R, r7, rfl, E⟩ := H5 (av := [.str ([117, 105, 100] : UV), .str (Lib.itoa p0.Br), .func (.func 129) [] [.ptr (some (h.size, 0))], .ptr (some (h3.size, 0)), .ptr (some (h5.size, 0))]) X (A.cut 4)
 replace A := A.YS E
 refine Em 1 [] R H fun D t H => ?_
 refine CT 5 id (AV 2 [(63, .func (.func 120) [] [.ptr (some (h3.size, 0)), .ptr (some (h5.size, 0))])] 65 0 6 A H fun D t H => ?_)
 obtain ⟨⟨x17, x18⟩, X, M⟩ := bind_some M
 obtain ⟨v1, h15, R, r8, rfl, E⟩ := Hw (av := [.str ([117, 110, 97, 109, 101] : UV), .str p0.Ah, .func (.func 130) [] [.ptr (some (h.size, 0))], .ptr (some (h3.size, 0)), .ptr (some (h5.size, 0))]) X (A.cut 4)
 replace A := A.YS E
 refine Em 1 [] R H fun D t H => ?_
 refine BK id (AN (UI 13 4 [(0, []), (1, []), (2, [1]), (3, [])] ?_))
 refine BN 68 (.agg (AI x17)) h15 [(0, h3.size)] (g.BP) H (fun D => .of (BD (by kernel_rfl) (A.la 1 0 13))) (fun D H => ?_)
 refine BN 69 (AP r8 x18.length) h15 [(1, h5.size), (0, h3.size)] (g.BP) H (fun D => .of (GN (by kernel_rfl) (A.l1 2 0))) (fun D H => ?_)
 replace A := A.k6 5 0 1 2 3 4
 have E := A.HD 1 (pr := [h5.size]) (.cons 2 rfl (by simp [Ck.ids]) .nil)
 obtain ⟨h16, X, E⟩ := E.st 0 rfl (o := 0) (new := (AI x17)) (ds := (AI x17)) (Nat.le_of_ble_eq_true rfl) rfl rfl
 replace A := A.bM E
 refine Zh (.tuple []) h16 [(1, h5.size), (0, h3.size)] (h5.size :: g.BP) H (fun D => .of (VM (by kernel_rfl) (Si X rfl))) (fun D H => ?_)
 refine AL 1 [(5, AP r8 x18.length)] H fun D H => AQ ?_
 obtain ⟨rfl, rfl⟩ := Bn M
 refine ⟨.inl rfl, .tuple [.agg (AI x17), AP r8 x18.length], DV (.cell (rT H) (C7 (by kernel_rfl) (by kernel_rfl) (A.la 0 0 13)) (.tmp (rT H) .nil)), ?_⟩
 replace A := A.k1 4
 exact ⟨r8, rfl, A⟩
def Ex (p0 : AR) (p1 : Int) : Option ((List AA) × Int) :=
 (Ei p0 p1).bind fun x1 => Aa (x1 != 0) (some (([] : List AA), x1)) ((FF p0 p1).bind fun (x2, x3) => BS (Ov 32 (x3.length + p0.Extra.length)) <| BS (L8 ((x3 ++ p0.Extra).map fun x => ((x.Key, x.Value) : Ik))) <| BS (decide ((x3 ++ p0.Extra).length ≤ 1099511627776)) <| some (((FZ ((x3 ++ p0.Extra).map fun x => ((x.Key, x.Value) : Ik))).map fun p => (⟨p.1, p.2⟩ : AA)), (0 : Int)))
theorem Nh {p0 p1 q0 q1} (M : Ex p0 p1 = some (q0, q1)) (A : HH g h [] F) (hc : A9 (cfg.still 27) av = [.agg (AE p0), Ai p1] := by kernel_rfl) : ∃ v Q, BB cfg g h 27 av v Q ∧ ∃ (rq0 : Option Nat), v = .tuple [AP rq0 q0.length, Ai q1] ∧ HH g Q [.Ag rq0 117 (Ag AJ q0)] F := by
 refine Dj 28 [.tmp 4, .tmp 5] hc ?_
 clear hc
 unfold Ex at M
 refine bg 28 [(0, .agg (AE p0)), (1, Ai p1)] fun D H => ?_
 refine AF 3 ?_
 obtain ⟨h1, e1, A⟩ := A.pu (.cells none 2 (AE p0))
 refine BF 2 (.ptr (some (h.size, 0))) e1 H fun D t H => ?_
 refine AL 2 [] H fun D H => AN (AF 4 (AZ 9 _ _ H (fun D => .of (BD (by kernel_rfl) (A.ET 0 rfl (o := 0) (n := 14) ⟨Nat.le_of_ble_eq_true rfl, rfl⟩))) fun D t H => ?_))
 obtain ⟨x1, X, M⟩ := bind_some M
 obtain ⟨v1, h2, R, rfl, E⟩ := Kk (av := [.agg (AE p0), Ai p1]) X (A.cut 0)
 replace A : HH g h2 [.obj h.size (.cells none 2 (AE p0))] F := A.GC (n := 0) E
 refine Aq 1 [] 11 R H fun D t H => ?_
 refine Be 1 [(6, Ai x1)] 2 H fun D H => AL 2 [(13, .bool (x1 != 0))] H fun D H => AX 13 H M (fun B M H => ?_) fun B M H => ?_
 ·refine AF 3 (AL 3 [(4, .slice none 0), (5, Ai x1)] H fun D H => AQ ?_)
  obtain ⟨rfl, rfl⟩ := Bn M
  refine ⟨.inl rfl, .tuple [.slice none 0, Ai x1], rH H, ?_⟩
  replace A : HH g h2 [.Ag none 117 (Ag AJ ([] : List AA)), _] F := A.Xk 117
  replace A := A.d1
  exact ⟨none, rfl, A⟩
 refine Bs 9 id (AZ 16 _ _ H (fun D => .of (BD (by kernel_rfl) (A.ET 0 rfl (o := 0) (n := 14) ⟨Nat.le_of_ble_eq_true rfl, rfl⟩))) fun D t H => ?_)
 obtain ⟨⟨x2, x3⟩, X, M⟩ := bind_some M
 obtain ⟨v1, h3, R, rqw3, rfl, E⟩ := LS (av := [.agg (AE p0), Ai p1]) X (A.cut 0)
 replace A := A.YV E
 refine Aq 1 [] 18 R H fun D t H => ?_
 obtain ⟨h4, e2, A⟩ := A.pu (.cells none 2 [.str ([] : UV), .str ([] : UV), Ab 0, Ai 0, Ai 0, Ai 0, Ai 0, Ai 0, .str ([] : UV), .str ([] : UV), Ai 0, Ai 0, Ai 0])
 refine Jg 3 [(19, .agg (AI x2)), (20, AP rqw3 x3.length)] 7 (.ptr (some (h3.size, 0))) e2 H fun D t H => ?_
 obtain ⟨h5, X, A⟩ := A.s0 0 (AI x2) [_, _, _, _, _, _, _, _, _, _, _, _, _]
 refine DG X H fun D t H => ?_
 refine Be 1 [(8, AP rqw3 x3.length)] 5 H fun D H => AV 2 [(21, AP rqw3 x3.length)] 23 2 12 A H fun D t H => ?_
 obtain ⟨B, M⟩ := AO M
 obtain ⟨r1, h6, X, E⟩ := HH.Ju AS (by decide) A 1 (xs := x3) (ys := p0.Extra) rfl (VU AS _ p0.Extra) (AS.A9 _) rfl B
 replace A : HH g h6 [_, .Ag r1 117 (Ag AJ (x3 ++ p0.Extra)), _] F := E
 refine AZ 24 _ _ H (fun D => .of (GY (s := DT rqw3 x3.length) (by kernel_rfl) X)) fun D t H => ?_
 refine A5 1 [(8, AP r1 ((x3 ++ p0.Extra).length))] H fun D H => CT 2 id ?_
 replace A := A.k3 1 0 2
 have E := A.cut 1
 obtain ⟨B, M⟩ := AO M
 obtain ⟨hb2, M⟩ := AO M
 obtain ⟨h7, R, E⟩ := HH.Z9 (C := cfg) (f := 67) (c := 68) (t := 117) (e := AJ) (xs := (x3 ++ p0.Extra)) (fw := fun x => ((x.Key, x.Value) : Ik)) (bw := fun p => (⟨p.1, p.2⟩ : AA)) (fun _ => rfl) (fun _ => rfl) E (by kernel_rfl) (l := exts) rfl (by kernel_rfl) B hb2
 have hl1 : (((FZ ((x3 ++ p0.Extra).map fun x => ((x.Key, x.Value) : Ik))).map fun p => (⟨p.1, p.2⟩ : AA))).length = (x3 ++ p0.Extra).length := Pv _ _ _
 have el : AP r1 (x3 ++ p0.Extra).length = AP r1 (((FZ ((x3 ++ p0.Extra).map fun x => ((x.Key, x.Value) : Ik))).map fun p => (⟨p.1, p.2⟩ : AA))).length := congrArg _ (Pv _ _ _).symm
 rw [el] at R
 try rw [el] at H
 replace A : HH g h7 [.Ag r1 117 (Ag AJ ((FZ ((x3 ++ p0.Extra).map fun x => ((x.Key, x.Value) : Ik))).map fun p => (⟨p.1, p.2⟩ : AA))), _, _] F := A.GC (n := 1) E
 refine Em 1 [] R H fun D t H => ?_
 refine CT 3 id (AL 3 [(4, AP r1 (((FZ ((x3 ++ p0.Extra).map fun x => ((x.Key, x.Value) : Ik))).map fun p => (⟨p.1, p.2⟩ : AA)).length)), (5, Ai 0)] H fun D H => AQ ?_)
 obtain ⟨rfl, rfl⟩ := Bn M
 refine ⟨.inl rfl, .tuple [AP r1 (((FZ ((x3 ++ p0.Extra).map fun x => ((x.Key, x.Value) : Ik))).map fun p => (⟨p.1, p.2⟩ : AA)).length), Ai 0], rH H, ?_⟩
 replace A := A.d1
 exact ⟨r1, rfl, A⟩
def Ey (p0 : AA) : Option (Bool) :=
 (Aa (!(p0.Key == ([] : UV))) ((BX p0.Key (61 : Int)).bind fun x2 => some (decide (x2 < 0))) (some false) : Option (Bool)).bind fun x1 => some x1
theorem NX {p0 q0} (M : Ey p0 = some q0) (A : HH g h [] F) (hc : A9 (cfg.still 161) av = [.agg [.str p0.Key, .str p0.Value]] := by kernel_rfl) : ∃ v Q, BB cfg g h 161 av v Q ∧ v = .bool q0 ∧ HH g Q [] F := by
 refine Dj 12 [.tmp 2] hc ?_
 clear hc
 unfold Ey at M
 refine bg 12 [(0, .agg [.str p0.Key, .str p0.Value])] fun D H => ?_
 refine AF 2 ?_
 obtain ⟨h1, e1, A⟩ := A.pu (.cells none 2 [.str p0.Key, .str p0.Value])
 refine BF 1 (.ptr (some (h.size, 0))) e1 H fun D t H => ?_
 refine Be 1 [] 10 H fun D H => AV 1 [] 4 0 0 A H fun D t H => ?_
 refine AG 2 [(6, .bool (!(p0.Key == ([] : UV))))] H fun D H => ?_
 obtain ⟨x1, O, M⟩ := bind_some M
 refine Al 5 (fun N Q => Has N 12 [(11, .bool x1)] ∧ HH g Q [.obj h.size (.cells none 2 [.str p0.Key, .str p0.Value])] F) ?_ ?_
 ·rcases Ar O with ⟨B, M⟩ | ⟨B, M⟩
  ·replace H := H.kn 6 B
   refine AV 1 [] 8 0 0 A H fun D t H => ?_
   obtain ⟨x2, X, M⟩ := bind_some M
   obtain ⟨v1, h3, R, rfl, E⟩ := EE (av := [.str p0.Key, Ab 61]) X (A.cut 0)
   replace A : HH g h3 [.obj h.size (.cells none 2 [.str p0.Key, .str p0.Value])] F := A.GC (n := 0) E
   refine A0 9 R H fun D t H => ?_
   refine AG 2 [(11, .bool (decide (x2 < 0)))] H fun D H => ?_
   obtain rfl := Ad M
   exact at_nil ⟨H.ls, A⟩
  replace H := H.kn 6 B
  refine AG 5 [(11, .bool false)] H fun D H => ?_
  obtain rfl := Ad M
  exact at_nil ⟨H.ls, A⟩
 clear A
 intro t D h2 hK
 obtain ⟨H, A⟩ := hK
 refine AL 1 [(2, .bool x1)] H fun D H => AQ ?_
 obtain rfl := Ad M
 refine ⟨.inl rfl, .bool x1, rH H, ?_⟩
 replace A := A.d0
 exact ⟨rfl, A⟩
def Eg (p0 : AA) : Option (Int) :=
 BS (decide (-9223372036854775808 ≤ i64.wrap ((i64.wrap ((p0.Key.length : Int) + (p0.Value.length : Int))) + 3) ∧ i64.wrap ((i64.wrap ((p0.Key.length : Int) + (p0.Value.length : Int))) + 3) ≤ 9223372036854775807)) <| BS (decide (-9223372036854775808 ≤ i64.wrap ((i64.wrap ((i64.wrap ((p0.Key.length : Int) + (p0.Value.length : Int))) + 3)) + ((Lib.itoa (i64.wrap ((i64.wrap ((p0.Key.length : Int) + (p0.Value.length : Int))) + 3))).length : Int)) ∧ i64.wrap ((i64.wrap ((i64.wrap ((p0.Key.length : Int) + (p0.Value.length : Int))) + 3)) + ((Lib.itoa (i64.wrap ((i64.wrap ((p0.Key.length : Int) + (p0.Value.length : Int))) + 3))).length : Int)) ≤ 9223372036854775807)) <| some (i64.wrap ((i64.wrap ((i64.wrap ((p0.Key.length : Int) + (p0.Value.length : Int))) + 3)) + ((Lib.itoa (i64.wrap ((i64.wrap ((i64.wrap ((p0.Key.length : Int) + (p0.Value.length : Int))) + 3)) + ((Lib.itoa (i64.wrap ((i64.wrap ((p0.Key.length : Int) + (p0.Value.length : Int))) + 3))).length : Int)))).length : Int)))
theorem KW {p0 q0} (M : Eg p0 = some q0) (A : HH g h [] F) (hc : A9 (cfg.still 162) av = [.agg [.str p0.Key, .str p0.Value]] := by kernel_rfl) : ∃ v Q, BB cfg g h 162 av v Q ∧ v = Ai q0 ∧ HH g Q [] F := by
 refine Dj 23 [.tmp 2] hc ?_
 clear hc
 unfold Eg at M
 refine bg 23 [(0, .agg [.str p0.Key, .str p0.Value])] fun D H => ?_
 refine AF 2 ?_
 obtain ⟨h1, e1, A⟩ := A.pu (.cells none 2 [.str p0.Key, .str p0.Value])
 refine BF 1 (.ptr (some (h.size, 0))) e1 H fun D t H => ?_
 refine Be 1 [] 9 H fun D H => AV 1 [] 6 0 0 A H fun D t H => ?_
 refine AV 2 [(7, Ai (p0.Key.length : Int))] 9 0 1 A H fun D t H => ?_
 refine Be 4 [(3, Ai (i64.wrap ((i64.wrap ((p0.Key.length : Int) + (p0.Value.length : Int))) + 3)))] 6 H fun D H => ?_
 obtain ⟨B, M⟩ := AO M
 refine Ax 2 [(13, Ai (i64.wrap ((i64.wrap ((p0.Key.length : Int) + (p0.Value.length : Int))) + 3)))] 15 (.str (Lib.itoa (i64.wrap ((i64.wrap ((p0.Key.length : Int) + (p0.Value.length : Int))) + 3)))) h1 H (fun D => Steps.call (by kernel_rfl) (Hx (C := cfg) (f := 121) (by kernel_rfl) (l := exts) rfl (by kernel_rfl) B)) fun D t H => ?_
 refine Be 3 [(4, Ai (i64.wrap ((i64.wrap ((i64.wrap ((p0.Key.length : Int) + (p0.Value.length : Int))) + 3)) + ((Lib.itoa (i64.wrap ((i64.wrap ((p0.Key.length : Int) + (p0.Value.length : Int))) + 3))).length : Int))))] 6 H fun D H => ?_
 obtain ⟨B, M⟩ := AO M
 refine Ax 2 [(18, Ai (i64.wrap ((i64.wrap ((p0.Key.length : Int) + (p0.Value.length : Int))) + 3)))] 20 (.str (Lib.itoa (i64.wrap ((i64.wrap ((i64.wrap ((p0.Key.length : Int) + (p0.Value.length : Int))) + 3)) + ((Lib.itoa (i64.wrap ((i64.wrap ((p0.Key.length : Int) + (p0.Value.length : Int))) + 3))).length : Int))))) h1 H (fun D => Steps.call (by kernel_rfl) (Hx (C := cfg) (f := 121) (by kernel_rfl) (l := exts) rfl (by kernel_rfl) B)) fun D t H => ?_
 refine AL 3 [(2, Ai (i64.wrap ((i64.wrap ((i64.wrap ((p0.Key.length : Int) + (p0.Value.length : Int))) + 3)) + ((Lib.itoa (i64.wrap ((i64.wrap ((i64.wrap ((p0.Key.length : Int) + (p0.Value.length : Int))) + 3)) + ((Lib.itoa (i64.wrap ((i64.wrap ((p0.Key.length : Int) + (p0.Value.length : Int))) + 3))).length : Int)))).length : Int))))] H fun D H => AQ ?_
 obtain rfl := Ad M
 refine ⟨.inl rfl, Ai (i64.wrap ((i64.wrap ((i64.wrap ((p0.Key.length : Int) + (p0.Value.length : Int))) + 3)) + ((Lib.itoa (i64.wrap ((i64.wrap ((i64.wrap ((p0.Key.length : Int) + (p0.Value.length : Int))) + 3)) + ((Lib.itoa (i64.wrap ((i64.wrap ((p0.Key.length : Int) + (p0.Value.length : Int))) + 3))).length : Int)))).length : Int))), rH H, ?_⟩
 replace A := A.d0
 exact ⟨rfl, A⟩
def Eb (p0 : Int) : Option ((List UInt8)) :=
 Aa (decide (p0 < 10)) ((D7 ([48, 49, 50, 51, 52, 53, 54, 55, 56, 57, 97, 98, 99, 100, 101, 102, 103, 104, 105, 106, 107, 108, 109, 110, 111, 112, 113, 114, 115, 116, 117, 118, 119, 120, 121, 122] : UV) (some p0) (some (i64.wrap (p0 + 1)))).bind fun x1 => some x1) ((D7 ([48, 48, 48, 49, 48, 50, 48, 51, 48, 52, 48, 53, 48, 54, 48, 55, 48, 56, 48, 57, 49, 48, 49, 49, 49, 50, 49, 51, 49, 52, 49, 53, 49, 54, 49, 55, 49, 56, 49, 57, 50, 48, 50, 49, 50, 50, 50, 51, 50, 52, 50, 53, 50, 54, 50, 55, 50, 56, 50, 57, 51, 48, 51, 49, 51, 50, 51, 51, 51, 52, 51, 53, 51, 54, 51, 55, 51, 56, 51, 57, 52, 48, 52, 49, 52, 50, 52, 51, 52, 52, 52, 53, 52, 54, 52, 55, 52, 56, 52, 57, 53, 48, 53, 49, 53, 50, 53, 51, 53, 52, 53, 53, 53, 54, 53, 55, 53, 56, 53, 57, 54, 48, 54, 49, 54, 50, 54, 51, 54, 52, 54, 53, 54, 54, 54, 55, 54, 56, 54, 57, 55, 48, 55, 49, 55, 50, 55, 51, 55, 52, 55, 53, 55, 54, 55, 55, 55, 56, 55, 57, 56, 48, 56, 49, 56, 50, 56, 51, 56, 52, 56, 53, 56, 54, 56, 55, 56, 56, 56, 57, 57, 48, 57, 49, 57, 50, 57, 51, 57, 52, 57, 53, 57, 54, 57, 55, 57, 56, 57, 57] : UV) (some (i64.wrap (p0 * 2))) (some (i64.wrap ((i64.wrap (p0 * 2)) + 2)))).bind fun x2 => some x2)
theorem M9 {p0 q0} (M : Eb p0 = some q0) (A : HH g h [] F) (hc : A9 (cfg.still 245) av = [Ai p0] := by kernel_rfl) : ∃ v Q, BB cfg g h 245 av v Q ∧ v = .str q0 ∧ HH g Q [] F := by
 refine Dj 15 [.tmp 2] hc ?_
 clear hc
 unfold Eb at M
 refine bg 15 [(0, Ai p0)] fun D H => ?_
 refine AF 1 (AL 1 [] H fun D H => AN (AF 2 (AL 2 [(4, .bool (decide (p0 < 10)))] H fun D H => AX 4 H M (fun B M H => ?_) fun B M H => ?_)))
 ·refine AF 5 ?_
  obtain ⟨x1, X, M⟩ := bind_some M
  refine Ax 3 [] 8 (.str x1) h H (fun D => .of (Cs (k := .i64) (k' := .i64) (lo := (some p0)) (hi := (some (i64.wrap (p0 + 1)))) (by kernel_rfl) X)) fun D t H => ?_
  refine AL 1 [(2, .str x1)] H fun D H => AQ ?_
  obtain rfl := Ad M
  exact ⟨.inl rfl, _, rH H, rfl, A⟩
 refine Bs 7 id ?_
 obtain ⟨x2, X, M⟩ := bind_some M
 refine Ax 5 [] 14 (.str x2) h H (fun D => .of (Cs (k := .i64) (k' := .i64) (lo := (some (i64.wrap (p0 * 2)))) (hi := (some (i64.wrap ((i64.wrap (p0 * 2)) + 2)))) (by kernel_rfl) X)) fun D t H => ?_
 refine AL 1 [(2, .str x2)] H fun D H => AQ ?_
 obtain rfl := Ad M
 exact ⟨.inl rfl, _, rH H, rfl, A⟩
def C6 (p0 : List UInt8) (p1 : Int) (p2 : Int) : Option ((List UInt8)) :=
 Aa (p2 == 10) (Aa (decide (p1 < 100)) ((Eb (i64.wrap p1)).bind fun x1 => BS (Ov 1 (p0.length + x1.length)) <| some (p0 ++ x1)) (BS (decide (1 ≤ p1 ∧ p1 < 18446744073709551616)) <| (Ur 24 ((Lib.nDigits p1.toNat : Nat) : Int)).bind fun x2 => BS (Pu x2 p1 && decide (x2 ≤ (List.replicate 24 (0 : UInt8)).length)) <| (Ur 24 ((Lib.nDigits p1.toNat : Nat) : Int)).bind fun x3 => BS (decide (x3 ≤ (I3 x2 p1.toNat ++ (List.replicate 24 (0 : UInt8)).drop x2).length)) <| BS (Ov 1 (p0.length + ((I3 x2 p1.toNat ++ (List.replicate 24 (0 : UInt8)).drop x2).take x3).length)) <| some (p0 ++ ((I3 x2 p1.toNat ++ (List.replicate 24 (0 : UInt8)).drop x2).take x3)))) (none)
theorem H7 {p0 p1 p2 rp0 u0} (M : C6 p0 p1 p2 = some u0) (A : HH g h [.Ag rp0 5 (Ag eY p0)] F) (hc : A9 (cfg.still 242) av = [AP rp0 p0.length, Au p1, Ai p2] := by kernel_rfl) : ∃ v Q, BB cfg g h 242 av v Q ∧ ∃ (r'0 : Option Nat), v = AP r'0 u0.length ∧ HH g Q [.Ag r'0 5 (Ag eY u0)] F := by
 refine Dj 36 [.tmp 6] hc ?_
 clear hc
 unfold C6 at M
 refine bg 36 [(0, AP rp0 p0.length), (1, Au p1), (2, Ai p2)] fun D H => ?_
 refine AF 1 (AL 1 [] H fun D H => AN (AF 2 (AL 2 [(10, .bool (p2 == 10))] H fun D H => AX 10 H M (fun B M H => ?_) fun B M H => ?_)))
 ·refine AN (AF 2 (AL 2 [(12, .bool (decide (p1 < 100)))] H fun D H => AX 12 H M (fun B M H => ?_) fun B M H => ?_))
  ·refine AF 6 ?_
   obtain ⟨x1, X, M⟩ := bind_some M
   obtain ⟨v1, h1, R, rfl, E⟩ := M9 (av := [Ai (i64.wrap p1)]) X (A.cut 0)
   replace A := A.De E
   refine Aq 3 [(13, AP rp0 p0.length)] 16 R H fun D t H => ?_
   obtain ⟨B, M⟩ := AO M
   obtain ⟨r1, h2, X, E⟩ := HH.Ju JA (by decide) A 0 (xs := p0) (ys := x1) rfl (Se _ x1) (JA.A9 _) rfl B
   replace A : HH g h2 [.Ag r1 5 (Ag eY (p0 ++ x1))] F := E
   refine AZ 17 _ _ H (fun D => .of (GY (s := DT rp0 p0.length) (by kernel_rfl) X)) fun D t H => ?_
   refine AL 1 [(6, AP r1 ((p0 ++ x1).length))] H fun D H => AQ ?_
   obtain rfl := Ad M
   exact ⟨.inl rfl, _, rH H, _, rfl, A⟩
  refine Bs 1 id ?_
  obtain ⟨h3, e1, A⟩ := A.pu (.cells none 2 (bK 24 (AB.int .u8) ah ++ []))
  refine BF 7 (.ptr (some (h.size, 0))) e1 H fun D t H => ?_
  refine CT 3 id ?_
  obtain ⟨B, M⟩ := AO M
  refine Ax 1 [] 19 (Ai ((Lib.nDigits p1.toNat : Nat) : Int)) h3 H (fun D => Steps.call (by kernel_rfl) (X9 (C := cfg) (f := 246) (by kernel_rfl) (l := exts) rfl (by kernel_rfl) B)) fun D t H => ?_
  refine Be 1 [(8, Ai ((Lib.nDigits p1.toNat : Nat) : Int))] 4 H fun D H => ?_
  replace A : HH g h3 [.obj h.size (.cells none 2 (Ag eY (List.replicate 24 (0 : UInt8)))), _] F := A
  obtain ⟨x2, X, M⟩ := bind_some M
  refine Ax 1 [] 21 (.slice (some (h.size, 0)) x2) h3 H (fun D => .of (Vk (a := (h.size, 0)) (n := 24) (z := 1) (t := ⟨some (h.size, 0), x2⟩) (k := .i64) (k' := .i64) (lo := none) (hi := some ((Lib.nDigits p1.toNat : Nat) : Int)) (by kernel_rfl) (HH.Zs A 0 rfl X))) fun D t H => ?_
  have E := A.cut 1
  obtain ⟨B, M⟩ := AO M
  obtain ⟨h4, R, E⟩ := HH.fmt (C := cfg) (f := 247) (x := x2) (u := p1) (xs := (List.replicate 24 (0 : UInt8))) E (by kernel_rfl) (l := exts) rfl (by kernel_rfl) B
  replace A := A.g11 E
  refine Em 1 [] R H fun D t H => ?_
  refine CT 5 id ?_
  obtain ⟨x3, X, M⟩ := bind_some M
  refine Ax 2 [(24, AP rp0 p0.length)] 26 (.slice (some (h.size, 0)) x3) h4 H (fun D => .of (Vk (a := (h.size, 0)) (n := 24) (z := 1) (t := ⟨some (h.size, 0), x3⟩) (k := .i64) (k' := .i64) (lo := none) (hi := some ((Lib.nDigits p1.toNat : Nat) : Int)) (by kernel_rfl) (HH.Zs A 0 rfl X))) fun D t H => ?_
  obtain ⟨hl1, M⟩ := AO M
  have el : AB.slice (some (h.size, 0)) x3 = AB.slice (some (h.size, 0)) ((I3 x2 p1.toNat ++ (List.replicate 24 (0 : UInt8)).drop x2).take x3).length := by rw [List.length_take, Nat.min_eq_left (of_decide_eq_true hl1)]
  rw [el] at H
  obtain ⟨B, M⟩ := AO M
  obtain ⟨r2, h5, X, E⟩ := HH.Ju JA (by decide) A 1 (xs := p0) (ys := ((I3 x2 p1.toNat ++ (List.replicate 24 (0 : UInt8)).drop x2).take x3)) rfl (HH.Y2 A 0 (xs := (I3 x2 p1.toNat ++ (List.replicate 24 (0 : UInt8)).drop x2)) rfl (of_decide_eq_true hl1)) (JA.A9 _) rfl B
  replace A : HH g h5 [_, .Ag r2 5 (Ag eY (p0 ++ ((I3 x2 p1.toNat ++ (List.replicate 24 (0 : UInt8)).drop x2).take x3)))] F := E
  refine AZ 27 _ _ H (fun D => .of (GY (s := DT rp0 p0.length) (by kernel_rfl) X)) fun D t H => ?_
  refine AL 1 [(6, AP r2 ((p0 ++ ((I3 x2 p1.toNat ++ (List.replicate 24 (0 : UInt8)).drop x2).take x3)).length))] H fun D H => AQ ?_
  obtain rfl := Ad M
  refine ⟨.inl rfl, AP r2 ((p0 ++ ((I3 x2 p1.toNat ++ (List.replicate 24 (0 : UInt8)).drop x2).take x3)).length), rH H, ?_⟩
  replace A := A.k1 1
  exact ⟨r2, rfl, A⟩
 refine Bs 8 id ?_
 cases M
def Co (p0 : List UInt8) (p1 : Int) (p2 : Int) : Option ((List UInt8)) :=
 (Aa (decide (p1 < 0)) (BS (Ov 1 (p0.length + ([(45 : UInt8)] : UV).length)) <| some ((p0 ++ ([(45 : UInt8)] : UV)), u64.wrap (0 - (u64.wrap p1)))) (some (p0, u64.wrap p1)) : Option (((List UInt8) × Int))).bind fun (x1, x2) => (C6 x1 x2 p2).bind fun x4 => some x4
theorem HW {p0 p1 p2 rp0 u0} (M : Co p0 p1 p2 = some u0) (A : HH g h [.Ag rp0 5 (Ag eY p0)] F) (hc : A9 (cfg.still 206) av = [AP rp0 p0.length, Ai p1, Ai p2] := by kernel_rfl) : ∃ v Q, BB cfg g h 206 av v Q ∧ ∃ (r'0 : Option Nat), v = AP r'0 u0.length ∧ HH g Q [.Ag r'0 5 (Ag eY u0)] F := by
 refine Dj 21 [.tmp 6] hc ?_
 clear hc
 unfold Co at M
 refine bg 21 [(0, AP rp0 p0.length), (1, Ai p1), (2, Ai p2)] fun D H => ?_
 refine AF 1 (Be 1 [] 3 H fun D H => AL 3 [(7, Au (u64.wrap p1))] H fun D H => AN ?_)
 obtain ⟨o1, O, M⟩ := bind_some M
 refine Ao (Q' := fun e N Q => (∃ x1 x2, e = .normal ∧ (x1, x2) = o1 ∧ ∃ r1, Has N 21 [(0, AP r1 x1.length), (2, Ai p2), (7, Au x2)] ∧ HH g Q [.Ag r1 5 (Ag eY x1)] F) ∨ False) ?_ ?_
 ·replace M := O
  clear O
  refine AF 2 (AL 2 [(11, .bool (decide (p1 < 0)))] H fun D H => AX 11 H M (fun B M H => ?_) fun B M H => ?_)
  ·refine AF 4 (AG 1 [(12, AP rp0 p0.length)] H fun D H => ?_)
   obtain ⟨h1, e1, A⟩ := A.pL 5 [Ab 45]
   refine BF 13 (AP (some h.size) (([(45 : UInt8)] : UV).length)) e1 H fun D t H => ?_
   obtain ⟨B, M⟩ := AO M
   obtain ⟨r2, h2, X, E⟩ := HH.Ju JA (by decide) A 1 (xs := p0) (ys := ([(45 : UInt8)] : UV)) rfl (Dr A 0 rfl (n := ([(45 : UInt8)] : UV).length) (z := 1) rfl (by decide)) rfl rfl B
   replace A : HH g h2 [.Ag (some h.size) 5 ([Ab 45]), .Ag r2 5 (Ag eY (p0 ++ ([(45 : UInt8)] : UV)))] F := E
   replace A := A.k1 1
   refine AZ 14 _ _ H (fun D => .of (GY (s := DT rp0 p0.length) (by kernel_rfl) X)) fun D t H => ?_
   refine A5 1 [(0, AP r2 ((p0 ++ ([(45 : UInt8)] : UV)).length)), (2, Ai p2), (7, Au (u64.wrap p1))] H fun D H => FY 3 id (A5 3 [(0, AP r2 ((p0 ++ ([(45 : UInt8)] : UV)).length)), (2, Ai p2), (7, Au (u64.wrap (0 - (u64.wrap p1))))] H fun D H => at_nil ?_)
   exact .inl ⟨_, _, rfl, Ad M, _, H.ls, A⟩
  exact F9 (.inl ⟨_, _, rfl, Ad M, rp0, H.ls, A⟩)
 clear O
 clear A
 intro e D h3 hQ
 rcases hQ with ⟨x1, x2, rfl, rfl, r1, H, A⟩ | hF
 ·show AW _ _ _ _ _ _ _
  refine AF 5 ?_
  obtain ⟨x4, X, M⟩ := bind_some M
  obtain ⟨v1, h4, R, r3, rfl, E⟩ := H7 (av := [AP r1 x1.length, Au x2, Ai p2]) X (A.cut 1)
  replace A := A.g11 E
  refine Aq 3 [] 20 R H fun D t H => ?_
  refine AL 1 [(6, AP r3 x4.length)] H fun D H => AQ ?_
  obtain rfl := Ad M
  exact ⟨.inl rfl, _, rH H, _, rfl, A⟩
 exact hF.elim
def CX (p0 : List UInt8) (p1 : Int) (p2 : Int) : Option ((List UInt8)) :=
 (Co p0 p1 p2).bind fun x2 => some x2
theorem IE {p0 p1 p2 rp0 u0} (M : CX p0 p1 p2 = some u0) (A : HH g h [.Ag rp0 5 (Ag eY p0)] F) (hc : A9 (cfg.still 163) av = [AP rp0 p0.length, Ai p1, Ai p2] := by kernel_rfl) : ∃ v Q, BB cfg g h 163 av v Q ∧ ∃ (r'0 : Option Nat), v = AP r'0 u0.length ∧ HH g Q [.Ag r'0 5 (Ag eY u0)] F := by
 refine Dj 11 [.tmp 6] hc ?_
 clear hc
 unfold CX at M
 refine bg 11 [(0, AP rp0 p0.length), (1, Ai p1), (2, Ai p2)] fun D H => ?_
 refine AF 1 (Be 1 [] 5 H fun D H => ?_)
 obtain ⟨x2, X, M⟩ := bind_some M
 obtain ⟨v1, h1, R, r1, rfl, E⟩ := HW (av := [AP rp0 p0.length, Ai p1, Ai p2]) X (A.cut 1)
 replace A := A.g11 E
 refine Aq 3 [] 10 R H fun D t H => ?_
 refine AL 1 [(6, AP r1 x2.length)] H fun D H => AQ ?_
 obtain rfl := Ad M
 exact ⟨.inl rfl, _, rH H, _, rfl, A⟩
def DP (p0 : List AA) (s : Int × Int) : Option ((Int × Int) ⊕ ((Int) ⊕ ((List UInt8) × Int))) :=
 match s with
 | (x1, x2) => Aa (decide (x2 < (p0.length : Int))) ((Hj p0 x2).bind fun x6 => (Ey x6).bind fun x7 => Aa (!x7) (some (.inr (.inr (([] : UV), (2 : Int))))) ((Eg x6).bind fun x8 => some (.inl (mn (i64.wrap (x1 + x8)) (65537 : Int), i64.wrap (x2 + 1))))) (some (.inr (.inl x1)))
def DO (p0 : List AA) (s : (List UInt8) × Int) : Option (((List UInt8) × Int) ⊕ (((List UInt8)))) :=
 match s with
 | (x9, x10) => Aa (decide (x10 < (p0.length : Int))) ((Hj p0 x10).bind fun x12 => (Eg x12).bind fun x13 => (CX x9 x13 (10 : Int)).bind fun x15 => BS (decide (([32] : UV).length + x12.Key.length ≤ 9223372036854775807)) <| BS (decide ((([32] : UV) ++ x12.Key).length + ([61] : UV).length ≤ 9223372036854775807)) <| BS (decide (((([32] : UV) ++ x12.Key) ++ ([61] : UV)).length + x12.Value.length ≤ 9223372036854775807)) <| BS (decide ((((([32] : UV) ++ x12.Key) ++ ([61] : UV)) ++ x12.Value).length + ([10] : UV).length ≤ 9223372036854775807)) <| BS (Ov 1 (x15.length + ((((([32] : UV) ++ x12.Key) ++ ([61] : UV)) ++ x12.Value) ++ ([10] : UV)).length)) <| some (.inl ((x15 ++ ((((([32] : UV) ++ x12.Key) ++ ([61] : UV)) ++ x12.Value) ++ ([10] : UV))), i64.wrap (x10 + 1)))) (some (.inr x9))
def ED (p0 : List AA) : Option ((List UInt8) × Int) :=
 Aa (decide ((p0.length : Int) > 256)) (some (([] : UV), (8 : Int))) ((loop (DP p0) ((0 : Int), (0 : Int))).bind fun o1 => (match o1 with | .inl x3 => Aa (decide (x3 > 65536)) (some (([] : UV), (12 : Int))) ((loop (DO p0) (([] : UV), (0 : Int))).bind fun x11 => some (x11, (0 : Int))) | .inr (x4, x5) => some (x4, x5)))
theorem Lh {p0 rp0 q0 q1} (M : ED p0 = some (q0, q1)) (A : HH g h [.Ag rp0 117 (Ag AJ p0)] F) (hc : A9 (cfg.still 98) av = [AP rp0 p0.length] := by kernel_rfl) : ∃ v Q, BB cfg g h 98 av v Q ∧ v = .tuple [.str q0, Ai q1] ∧ HH g Q [.Ag rp0 117 (Ag AJ p0)] F := by
 refine Dj 53 [.tmp 2, .tmp 3] hc ?_
 clear hc
 unfold ED at M
 refine bg 53 [(0, AP rp0 p0.length)] fun D H => ?_
 refine AF 2 (AL 2 [] H fun D H => AN (AF 3 (AL 3 [(12, .bool (decide ((p0.length : Int) > 256)))] H fun D H => AX 12 H M (fun B M H => ?_) fun B M H => ?_)))
 ·refine AF 2 (AL 2 [(2, .str ([] : UV)), (3, Ai 8)] H fun D H => AQ ?_)
  obtain ⟨rfl, rfl⟩ := Bn M
  exact ⟨.inl rfl, _, rH H, rfl, A⟩
 refine Bs 1 id (AL 1 [(4, Ai 0)] H fun D H => AN (AF 3 (AL 3 [(13, AP rp0 p0.length), (14, Ai (p0.length : Int)), (15, Ai 0)] H fun D H => Ae (id := 0) (by kernel_rfl) ?_)))
 obtain ⟨o1, O, M⟩ := bind_some M
 refine Ao (Q' := fun e N Q => (∃ x3, e = .exit 0 ∧ .inl x3 = o1 ∧ Has N 53 [(0, AP rp0 p0.length), (4, Ai x3)] ∧ HH g Q [.Ag rp0 117 (Ag AJ p0)] F) ∨ (∃ x4 x5, e = .ret ∧ .inr (x4, x5) = o1 ∧ Has N 53 [(2, .str x4), (3, Ai x5)] ∧ HH g Q [.Ag rp0 117 (Ag AJ p0)] F) ∨ False) ?_ ?_
 ·refine Bc (by kernel_rfl) (fun (s : Int × Int) N Q => ∃ x1 x2, (x1, x2) = s ∧ Has N 53 [(0, AP rp0 p0.length), (4, Ai x1), (13, AP rp0 p0.length), (14, Ai (p0.length : Int)), (15, Ai x2)] ∧ HH g Q [.Ag rp0 117 (Ag AJ p0)] F) O ⟨_, _, rfl, H.ls, A⟩ ?_
  clear O M H A
  intro s q D h1 hI M
  obtain ⟨x1, x2, rfl, H, A⟩ := hI
  unfold DP at M
  refine AF 1 (AL 1 [(16, .bool (decide (x2 < (p0.length : Int))))] H fun D H => AN (AX 16 H M (fun B M H => ?_) fun B M H => ?_))
  ·refine Bl id (AN (Ae (id := 1) (by kernel_rfl) ?_))
   refine AF 4 ?_
   obtain ⟨x6, X, M⟩ := bind_some M
   obtain ⟨i1, er1, _, X, hq1⟩ := HH.SL AS (by decide) A 0 (xs := p0) rfl X
   refine AZ 17 (.ptr (some (i1, x2.toNat * 2))) h1 H (fun D => .of (HN (s := DT rp0 p0.length) (by kernel_rfl) X)) fun D t H => ?_
   refine AZ 18 _ _ H (fun D => .of (BD (by kernel_rfl) (Kt AS (HH.row A 0 rfl er1) hq1 0 2 (Nat.le_of_ble_eq_true rfl)))) fun D t H => ?_
   obtain ⟨h2, e1, A⟩ := A.pu (.cells none 2 [.str ([] : UV), .str ([] : UV)])
   refine BF 6 (.ptr (some (h1.size, 0))) e1 H fun D t H => ?_
   obtain ⟨h3, X, A⟩ := A.s0 0 [.str x6.Key, .str x6.Value] [_, _]
   refine DG X H fun D t H => ?_
   refine BK id (AN (AF 3 (AZ 19 _ _ H (fun D => .of (BD (by kernel_rfl) (A.ET 0 rfl (o := 0) (n := 2) ⟨Nat.le_of_ble_eq_true rfl, rfl⟩))) fun D t H => ?_)))
   obtain ⟨x7, X, M⟩ := bind_some M
   obtain ⟨v1, h4, R, rfl, E⟩ := NX (av := [.agg [.str x6.Key, .str x6.Value]]) X (A.cut 0)
   replace A := A.De E
   refine A0 20 R H fun D t H => ?_
   refine AL 1 [(21, .bool (!x7))] H fun D H => AX 21 H M (fun B M H => ?_) fun B M H => ?_
   ·refine AF 2 (AL 2 [(2, .str ([] : UV)), (3, Ai 2)] H fun D H => AQ ?_)
    replace A := A.k1 1
    exact nr M fun e => Or.inr (.inl ⟨_, _, rfl, e, H.ls, A⟩)
   refine FL 6 id (Ax 1 [(22, Ai x1)] 23 _ _ H (fun D => .of (BD (by kernel_rfl) (A.ET 0 rfl (o := 0) (n := 2) ⟨Nat.le_of_ble_eq_true rfl, rfl⟩))) fun D t H => ?_)
   obtain ⟨x8, X, M⟩ := bind_some M
   obtain ⟨v1, h5, R, rfl, E⟩ := KW (av := [.agg [.str x6.Key, .str x6.Value]]) X (A.cut 0)
   replace A := A.De E
   refine A0 24 R H fun D t H => ?_
   refine A5 3 [(0, AP rp0 p0.length), (4, Ai (mn (i64.wrap (x1 + x8)) (65537 : Int))), (13, AP rp0 p0.length), (14, Ai (p0.length : Int)), (15, Ai x2)] H fun D H => FY 2 id (A5 2 [(0, AP rp0 p0.length), (4, Ai (mn (i64.wrap (x1 + x8)) (65537 : Int))), (13, AP rp0 p0.length), (14, Ai (p0.length : Int)), (15, Ai (i64.wrap (x2 + 1)))] H fun D H => at_nil ?_)
   replace A := A.k1 1
   exact nx M ⟨_, _, rfl, H.ls, A⟩
  refine Bb (i := 0) (by kernel_rfl) ?_
  exact nr M fun e => .inl ⟨_, rfl, e, H.ls, A⟩
 clear O
 clear A
 intro e D h6 hQ
 rcases hQ with ⟨x3, rfl, rfl, H, A⟩ | ⟨x4, x5, rfl, rfl, H, A⟩ | hF
 ·show AW _ _ _ _ _ _ _
  refine AN (AF 2 (AL 2 [(29, .bool (decide (x3 > 65536)))] H fun D H => AX 29 H M (fun B M H => ?_) fun B M H => ?_))
  ·refine AF 2 (AL 2 [(2, .str ([] : UV)), (3, Ai 12)] H fun D H => AQ ?_)
   obtain ⟨rfl, rfl⟩ := Bn M
   exact ⟨.inl rfl, _, rH H, rfl, A⟩
  refine Bs 1 id (AL 1 [(7, .slice none 0)] H fun D H => AN (AF 3 (AL 3 [(30, AP rp0 p0.length), (31, Ai (p0.length : Int)), (32, Ai 0)] H fun D H => Ae (id := 2) (by kernel_rfl) ?_)))
  replace A : HH g h6 [.Ag none 5 (Ag eY ([] : UV)), _] F := A.Xk 5
  obtain ⟨o2, O, M⟩ := bind_some M
  refine Ao (Q' := fun e N Q => (∃ x11, e = .exit 2 ∧ x11 = o2 ∧ ∃ r2, Has N 53 [(7, AP r2 x11.length)] ∧ HH g Q [.Ag r2 5 (Ag eY x11), .Ag rp0 117 (Ag AJ p0)] F) ∨ False) ?_ ?_
  ·refine Bc (by kernel_rfl) (fun (s : (List UInt8) × Int) N Q => ∃ x9 x10, (x9, x10) = s ∧ ∃ r1, Has N 53 [(7, AP r1 x9.length), (30, AP rp0 p0.length), (31, Ai (p0.length : Int)), (32, Ai x10)] ∧ HH g Q [.Ag r1 5 (Ag eY x9), .Ag rp0 117 (Ag AJ p0)] F) O ⟨_, _, rfl, none, H.ls, A⟩ ?_
   clear O M H A
   intro s q D h7 hI M
   obtain ⟨x9, x10, rfl, r1, H, A⟩ := hI
   unfold DO at M
   refine AF 1 (AL 1 [(33, .bool (decide (x10 < (p0.length : Int))))] H fun D H => AN (AX 33 H M (fun B M H => ?_) fun B M H => ?_))
   ·refine Bl id (AN (Ae (id := 3) (by kernel_rfl) ?_))
    refine AF 4 ?_
    obtain ⟨x12, X, M⟩ := bind_some M
    obtain ⟨i2, er2, _, X, hq2⟩ := HH.SL AS (by decide) A 1 (xs := p0) rfl X
    refine AZ 34 (.ptr (some (i2, x10.toNat * 2))) h7 H (fun D => .of (HN (s := DT rp0 p0.length) (by kernel_rfl) X)) fun D t H => ?_
    refine AZ 35 _ _ H (fun D => .of (BD (by kernel_rfl) (Kt AS (HH.row A 1 rfl er2) hq2 0 2 (Nat.le_of_ble_eq_true rfl)))) fun D t H => ?_
    obtain ⟨h8, e2, A⟩ := A.pu (.cells none 2 [.str ([] : UV), .str ([] : UV)])
    refine BF 9 (.ptr (some (h7.size, 0))) e2 H fun D t H => ?_
    obtain ⟨h9, X, A⟩ := A.s0 0 [.str x12.Key, .str x12.Value] [_, _]
    refine DG X H fun D t H => ?_
    refine CT 5 id (Ax 1 [(36, AP r1 x9.length)] 37 _ _ H (fun D => .of (BD (by kernel_rfl) (A.ET 0 rfl (o := 0) (n := 2) ⟨Nat.le_of_ble_eq_true rfl, rfl⟩))) fun D t H => ?_)
    obtain ⟨x13, X, M⟩ := bind_some M
    obtain ⟨v1, h10, R, rfl, E⟩ := KW (av := [.agg [.str x12.Key, .str x12.Value]]) X (A.cut 0)
    replace A := A.De E
    refine A0 38 R H fun D t H => ?_
    replace A := A.k3 1 0 2
    obtain ⟨x15, X, M⟩ := bind_some M
    obtain ⟨v1, h11, R, r3, rfl, E⟩ := IE (av := [AP r1 x9.length, Ai x13, Ai 10]) X (A.cut 1)
    replace A := A.g11 E
    refine A0 39 R H fun D t H => ?_
    refine A5 1 [(7, AP r3 x15.length), (9, .ptr (some (h7.size, 0))), (30, AP rp0 p0.length), (31, Ai (p0.length : Int)), (32, Ai x10)] H fun D H => FY 11 id (AV 2 [(40, AP r3 x15.length)] 42 1 0 A H fun D t H => ?_)
    obtain ⟨B, M⟩ := AO M
    refine AZ 43 (.str (([32] : UV) ++ x12.Key)) h11 H (fun D => .of (B1 (by kernel_rfl) B)) fun D t H => ?_
    obtain ⟨B, M⟩ := AO M
    refine AZ 44 (.str ((([32] : UV) ++ x12.Key) ++ ([61] : UV))) h11 H (fun D => .of (B1 (by kernel_rfl) B)) fun D t H => ?_
    refine AV 1 [] 46 1 1 A H fun D t H => ?_
    obtain ⟨B, M⟩ := AO M
    refine AZ 47 (.str (((([32] : UV) ++ x12.Key) ++ ([61] : UV)) ++ x12.Value)) h11 H (fun D => .of (B1 (by kernel_rfl) B)) fun D t H => ?_
    obtain ⟨B, M⟩ := AO M
    refine AZ 48 (.str ((((([32] : UV) ++ x12.Key) ++ ([61] : UV)) ++ x12.Value) ++ ([10] : UV))) h11 H (fun D => .of (B1 (by kernel_rfl) B)) fun D t H => ?_
    obtain ⟨B, M⟩ := AO M
    obtain ⟨r4, h12, X, E⟩ := HH.Ju JA (by decide) A 0 (xs := x15) (ys := (((([32] : UV) ++ x12.Key) ++ ([61] : UV)) ++ x12.Value) ++ ([10] : UV)) rfl (Se _ ((((([32] : UV) ++ x12.Key) ++ ([61] : UV)) ++ x12.Value) ++ ([10] : UV))) (JA.A9 _) rfl B
    replace A : HH g h12 [.Ag r4 5 (Ag eY (x15 ++ ((((([32] : UV) ++ x12.Key) ++ ([61] : UV)) ++ x12.Value) ++ ([10] : UV)))), _, _] F := E
    refine AZ 49 _ _ H (fun D => .of (GY (s := DT r3 x15.length) (by kernel_rfl) X)) fun D t H => ?_
    refine A5 1 [(7, AP r4 ((x15 ++ ((((([32] : UV) ++ x12.Key) ++ ([61] : UV)) ++ x12.Value) ++ ([10] : UV))).length)), (30, AP rp0 p0.length), (31, Ai (p0.length : Int)), (32, Ai x10)] H fun D H => FY 2 id (A5 2 [(7, AP r4 ((x15 ++ ((((([32] : UV) ++ x12.Key) ++ ([61] : UV)) ++ x12.Value) ++ ([10] : UV))).length)), (30, AP rp0 p0.length), (31, Ai (p0.length : Int)), (32, Ai (i64.wrap (x10 + 1)))] H fun D H => at_nil ?_)
    replace A := A.k2 0 2
    exact nx M ⟨_, _, rfl, _, H.ls, A⟩
   refine Bb (i := 2) (by kernel_rfl) ?_
   exact nr M fun e => .inl ⟨_, rfl, e, _, H.ls, A⟩
  clear O
  clear A
  intro e D h13 hQ
  rcases hQ with ⟨x11, rfl, rfl, r2, H, A⟩ | hF
  ·show AW _ _ _ _ _ _ _
   refine AF 4 (AG 1 [(51, AP r2 x11.length)] H fun D H => AZ 52 (.str x11) h13 H (fun D => .of (Pe (xs := x11) A 0 rfl (by kernel_rfl))) fun D t H => ?_)
   refine AL 2 [(2, .str x11), (3, Ai 0)] H fun D H => AQ ?_
   obtain ⟨rfl, rfl⟩ := Bn M
   refine ⟨.inl rfl, .tuple [.str x11, Ai 0], rH H, ?_⟩
   replace A := A.k1 1
   exact ⟨rfl, A⟩
  exact hF.elim
 ·obtain ⟨rfl, rfl⟩ := Bn M
  exact ⟨.inl rfl, _, rH H, rfl, A⟩
 exact hF.elim
def He (p0 : List UInt8) : Option ((List UInt8)) :=
 (Gy (p0.length : Int)).bind fun x1 => BS (Q9 ([0] : UV) x1) <| BS (decide (p0.length + (Lib.repeatL ([0] : UV) x1.toNat).length ≤ 9223372036854775807)) <| some (p0 ++ (Lib.repeatL ([0] : UV) x1.toNat))
theorem Rm {p0 q0} (M : He p0 = some q0) (A : HH g h [] F) (hc : A9 (cfg.still 99) av = [.str p0] := by kernel_rfl) : ∃ v Q, BB cfg g h 99 av v Q ∧ v = .str q0 ∧ HH g Q [] F := by
 refine Dj 9 [.tmp 2] hc ?_
 clear hc
 unfold He at M
 refine bg 9 [(0, .str p0)] fun D H => ?_
 refine AF 1 (Be 1 [] 7 H fun D H => ?_)
 obtain ⟨x1, X, M⟩ := bind_some M
 obtain ⟨v1, h1, R, rfl, E⟩ := MH (av := [Ai (p0.length : Int)]) X (A.cut 0)
 replace A := A.De E
 refine Aq 3 [(3, .str p0)] 6 R H fun D t H => ?_
 obtain ⟨B, M⟩ := AO M
 refine AZ 7 (.str (Lib.repeatL ([0] : UV) x1.toNat)) h1 H (fun D => Steps.call (by kernel_rfl) (Tm (C := cfg) (f := 115) (by kernel_rfl) (l := exts) rfl (by kernel_rfl) B)) fun D t H => ?_
 obtain ⟨B, M⟩ := AO M
 refine AZ 8 (.str (p0 ++ (Lib.repeatL ([0] : UV) x1.toNat))) h1 H (fun D => .of (B1 (by kernel_rfl) B)) fun D t H => ?_
 refine AL 1 [(2, .str (p0 ++ (Lib.repeatL ([0] : UV) x1.toNat)))] H fun D H => AQ ?_
 obtain rfl := Ad M
 exact ⟨.inl rfl, _, rH H, rfl, A⟩
def FA (p0 : BM) (p1 : List UInt8) : Option ((List UInt8) × Int × BM) :=
 Aa (!p0.Fw) (some (([] : UV), (10 : Int), p0)) (Aa (decide ((p1.length : Int) > p0.Lr)) (some (([] : UV), (12 : Int), p0)) (some (p1, (0 : Int), (⟨p0.Fw, p0.Gn, p0.D2, i64.wrap (p0.Lr - (p1.length : Int))⟩ : BM))))
theorem Jq {p0 p1 bp0 q0 q1 u0} (M : FA p0 p1 = some (q0, q1, u0)) (A : HH g h [.obj bp0 (.cells none 2 (Bq p0))] F) (hc : A9 (cfg.still 18) av = [.ptr (some (bp0, 0)), .str p1] := by kernel_rfl) : ∃ v Q, BB cfg g h 18 av v Q ∧ v = .tuple [.str q0, Ai q1] ∧ HH g Q [.obj bp0 (.cells none 2 (Bq u0))] F := by
 refine Dj 30 [.tmp 4, .tmp 5] hc ?_
 clear hc
 unfold FA at M
 refine bg 30 [(0, .ptr (some (bp0, 0))), (1, .str p1)] fun D H => ?_
 refine AF 2 (AL 2 [] H fun D H => AN (Ae (id := 0) (by kernel_rfl) ?_))
 refine AF 6 (AV 3 [] 10 0 0 A H fun D t H => ?_)
 refine AL 2 [(6, .bool (!p0.Fw))] H fun D H => AX 6 H M (fun B M H => ?_) fun B M H => ?_
 ·refine AF 2 (AL 2 [(4, .str ([] : UV)), (5, Ai 10)] H fun D H => AQ ?_)
  obtain ⟨rfl, rfl, rfl⟩ := KN M
  exact ⟨.inl rfl, _, rH H, rfl, A⟩
 refine AF 8 (AV 5 [(14, Ai (p1.length : Int))] 18 0 3 A H fun D t H => ?_)
 refine AL 2 [(12, .bool (decide ((p1.length : Int) > p0.Lr)))] H fun D H => AX 12 H M (fun B M H => ?_) fun B M H => ?_
 ·refine AF 2 (AL 2 [(4, .str ([] : UV)), (5, Ai 12)] H fun D H => AQ ?_)
  obtain ⟨rfl, rfl, rfl⟩ := KN M
  exact ⟨.inl rfl, _, rH H, rfl, A⟩
 refine Bs 10 id (AV 3 [(20, .ptr (some (bp0, 0)))] 23 0 3 A H fun D t H => ?_)
 obtain ⟨h1, X, A⟩ := A.s0 3 [Ai (i64.wrap (p0.Lr - (p1.length : Int)))] [_, _, _, _]
 refine CO 5 [] X H fun D t H => ?_
 refine CT 3 id (AL 3 [(4, .str p1), (5, Ai 0)] H fun D H => AQ ?_)
 obtain ⟨rfl, rfl, rfl⟩ := KN M
 exact ⟨.inl rfl, _, rH H, rfl, A⟩
end
end Go.Av.L
