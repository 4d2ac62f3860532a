/-
 Models of functions, and that the abstract run tells them. Written by lift2.py.
-/
import Derived.Test.YthnnciphldbmeaaGreatDoorKCfg
import Derived.Test.YthnnciphldbmeaaGreatDoorK1
import Derived.Test.YthnnciphldbmeaaGreatDoorK4
namespace Go.Av.L
open Go.Av Go.Lib
set_option maxRecDepth 10000
set_option maxHeartbeats 4000000
set_option linter.unusedVariables false
set_option linter.unusedSimpArgs false
variable {g : Gd} {h : AH} {F : List Ck} {av : List AA}
noncomputable section
def CW (p0 : Bg) (p1 : AV) : Option (Int) :=
 (Ae (p0.c_.CC && (p1.Kind != 53)) ((Jy p1.Time p0.c_.BD).bind fun x2 => some (!x2)) (some false) : Option (Bool)).bind fun x1 => Ae x1 (some (5 : Int)) (some (0 : Int))
theorem FZ {p0 p1 bp0 rp0_14 rp0_15 bp0_16 rp0_16_0 bp0_17 q0} (hm : CW p0 p1 = some q0) (A : HH g h [.obj bp0 (.cells none 2 [vs AE p0.c_.Ah, vs AE p0.c_.Aj, vs AJ p0.c_.Bl, .bool p0.c_.Ho, .bool p0.c_.BP, Ai p0.c_.Bm, .bool p0.c_.CC, Ai p0.c_.BD.DF, Ai p0.c_.BD.Bp, Ai p0.c_.HG, Ai p0.c_.B3, Ai p0.c_.Name, Ai p0.c_.Head, Ai p0.c_.Bd, AI rp0_14 p0.AZ.length, AI rp0_15 p0.Ac.length, .ptr (some (bp0_16, 0)), .ptr (some (bp0_17, 0))]), .AL rp0_14 136 (AL (eP AB) p0.AZ), .AL rp0_15 136 (AL (eP AB) p0.Ac), .obj bp0_16 (.cells none 2 [AI rp0_16_0 p0.Ad.l_.length, Ai p0.Ad.Ba]), .AL rp0_16_0 142 (AL (eP AK) p0.Ad.l_), .obj bp0_17 (.cells none 2 ([Ai p0.Ap.n_, Ai p0.Ap.Aq] ++ (Cl 257 (AA.int .i64) p0.Ap.BJ ++ [])))] F) (hc : BI (cfg.still 41) av = [.ptr (some (bp0, 0)), .agg (AD p1)] := by kernel_rfl) : ∃ v h', BL cfg g h 41 av v h' ∧ v = Ai q0 ∧ HH g h' [.obj bp0 (.cells none 2 [vs AE p0.c_.Ah, vs AE p0.c_.Aj, vs AJ p0.c_.Bl, .bool p0.c_.Ho, .bool p0.c_.BP, Ai p0.c_.Bm, .bool p0.c_.CC, Ai p0.c_.BD.DF, Ai p0.c_.BD.Bp, Ai p0.c_.HG, Ai p0.c_.B3, Ai p0.c_.Name, Ai p0.c_.Head, Ai p0.c_.Bd, AI rp0_14 p0.AZ.length, AI rp0_15 p0.Ac.length, .ptr (some (bp0_16, 0)), .ptr (some (bp0_17, 0))]), .AL rp0_14 136 (AL (eP AB) p0.AZ), .AL rp0_15 136 (AL (eP AB) p0.Ac), .obj bp0_16 (.cells none 2 [AI rp0_16_0 p0.Ad.l_.length, Ai p0.Ad.Ba]), .AL rp0_16_0 142 (AL (eP AK) p0.Ad.l_), .obj bp0_17 (.cells none 2 ([Ai p0.Ap.n_, Ai p0.Ap.Aq] ++ (Cl 257 (AA.int .i64) p0.Ap.BJ ++ [])))] F := by
 refine D5 26 [.tmp 4] hc ?_
 clear hc
 unfold CW at hm
 refine bg 26 [(0, .ptr (some (bp0, 0))), (1, .agg (AD p1))] fun fr H => ?_
 refine AG 2 ?_
 obtain ⟨h1, e1, A⟩ := A.pu (.cells none 2 (AD p1))
 refine BC 3 (.ptr (some (h.size, 0))) e1 H fun fr t H => ?_
 refine AN 1 [] H fun fr H => AQ (AQ (EZ 1 21 ?_))
 refine AR 4 [] 9 1 6 A H fun fr t H => ?_
 refine AF 1 [(10, .bool p0.c_.CC)] H fun fr H => An 4 (fun fr' h' => h1 = h' ∧ Has fr' 26 [(0, .ptr (some (bp0, 0))), (3, .ptr (some (h.size, 0))), (14, .bool (p0.c_.CC && (p1.Kind != 53)))]) ?_ ?_
 ·cases hb : (p0.c_.CC : Bool) with
  | true =>
   replace H := H.kn 10 hb
   refine AR 1 [] 12 0 2 A H fun fr t H => ?_
   exact AF 2 [(14, .bool (p1.Kind != 53))] H fun fr H => AY H hb
  | false =>
   replace H := H.kn 10 hb
   exact AF 4 [(14, .bool false)] H fun fr H => AY H hb
 intro t fr h' hK
 obtain ⟨e, H⟩ := hK
 subst e
 refine AF 1 [(15, .bool (p0.c_.CC && (p1.Kind != 53)))] H fun fr H => ?_
 obtain ⟨x1, ho, hm⟩ := bind_some hm
 refine An 10 (fun fr' h' => Has fr' 26 [(25, .bool x1)] ∧ HH g h' [.obj h.size (.cells none 2 (AD p1)), .obj bp0 (.cells none 2 [vs AE p0.c_.Ah, vs AE p0.c_.Aj, vs AJ p0.c_.Bl, .bool p0.c_.Ho, .bool p0.c_.BP, Ai p0.c_.Bm, .bool p0.c_.CC, Ai p0.c_.BD.DF, Ai p0.c_.BD.Bp, Ai p0.c_.HG, Ai p0.c_.B3, Ai p0.c_.Name, Ai p0.c_.Head, Ai p0.c_.Bd, AI rp0_14 p0.AZ.length, AI rp0_15 p0.Ac.length, .ptr (some (bp0_16, 0)), .ptr (some (bp0_17, 0))]), .AL rp0_14 136 (AL (eP AB) p0.AZ), .AL rp0_15 136 (AL (eP AB) p0.Ac), .obj bp0_16 (.cells none 2 [AI rp0_16_0 p0.Ad.l_.length, Ai p0.Ad.Ba]), .AL rp0_16_0 142 (AL (eP AK) p0.Ad.l_), .obj bp0_17 (.cells none 2 ([Ai p0.Ap.n_, Ai p0.Ap.Aq] ++ (Cl 257 (AA.int .i64) p0.Ap.BJ ++ [])))] F) ?_ ?_
 ·rcases AU ho with ⟨hb, hm⟩ | ⟨hb, hm⟩
  ·replace H := H.kn 15 hb
   refine As 1 [] 17 _ _ H (fun fr => .of (Bs (by kernel_rfl) (A.GA 0 rfl (o := 10) (n := 2) ⟨Nat.le_of_ble_eq_true rfl, rfl⟩))) fun fr t H => ?_
   refine As 4 [] 22 _ _ H (fun fr => .of (Bs (by kernel_rfl) (A.GA 1 rfl (o := 7) (n := 2) ⟨Nat.le_of_ble_eq_true rfl, rfl⟩))) fun fr t H => ?_
   obtain ⟨x2, hx, hm⟩ := bind_some hm
   obtain ⟨v1, h3, hr, rfl, A1⟩ := Oc (av := [.agg [Ai p1.Time.DF, Ai p1.Time.Bp], .agg [Ai p0.c_.BD.DF, Ai p0.c_.BD.Bp]]) hx (A.cut 0)
   replace A : HH g h3 [.obj h.size (.cells none 2 (AD p1)), _, _, _, _, _, _] F := A.CL (n := 0) A1
   refine Ay 23 hr H fun fr t H => ?_
   refine AF 2 [(25, .bool (!x2))] H fun fr H => ?_
   obtain rfl := Aa hm
   exact at_nil ⟨H.ls, A⟩
  replace H := H.kn 15 hb
  refine AF 10 [(25, .bool false)] H fun fr H => ?_
  obtain rfl := Aa hm
  exact at_nil ⟨H.ls, A⟩
 clear A
 intro t fr h2 hK
 obtain ⟨H, A⟩ := hK
 refine BB id (Ak 25 H hm (fun hb hm H => ?_) fun hb hm H => ?_)
 ·refine AG 1 (AN 1 [(4, Ai 5)] H fun fr H => AS ?_)
  obtain rfl := Aa hm
  refine ⟨.inl rfl, Ai 5, rH H, ?_⟩
  replace A := A.k6 1 2 3 4 5 6
  exact ⟨rfl, A⟩
 refine Cm 1 id (AN 1 [(4, Ai 0)] H fun fr H => AS ?_)
 obtain rfl := Aa hm
 refine ⟨.inl rfl, Ai 0, rH H, ?_⟩
 replace A := A.k6 1 2 3 4 5 6
 exact ⟨rfl, A⟩
def E4 (p0 : CF) (p1 : Int) : Option (Bool × Int × CF) :=
 (Fk p0 p1).bind fun x1 => Ae (!x1) (some (false, (9 : Int), p0)) (((Rk 257 p0.BJ p1).bind fun x3 => Ae (decide (x3 < 9007199254740991)) ((Rk 257 p0.BJ p1).bind fun x4 => (Rk 257 p0.BJ p1).bind fun x5 => some (Ov p0.BJ p1.toNat (IntKind.i64.wrap (x4 + 1)))) (some p0.BJ) : Option (((Nat → Int)))).bind fun x2 => (Ae (p0.n_ == 0) (some true) ((Rk 257 x2 p1).bind fun x7 => some (x7 == p0.n_)) : Option (Bool)).bind fun x6 => some (x6, (0 : Int), (⟨p0.n_, p0.Aq, x2⟩ : CF)))
theorem Kg {p0 p1 bp0 q0 q1 u0} (hm : E4 p0 p1 = some (q0, q1, u0)) (A : HH g h [.obj bp0 (.cells none 2 ([Ai p0.n_, Ai p0.Aq] ++ (Cl 257 (AA.int .i64) p0.BJ ++ [])))] F) (hc : BI (cfg.still 80) av = [.ptr (some (bp0, 0)), Ai p1] := by kernel_rfl) : ∃ v h', BL cfg g h 80 av v h' ∧ v = .tuple [.bool q0, Ai q1] ∧ HH g h' [.obj bp0 (.cells none 2 ([Ai u0.n_, Ai u0.Aq] ++ (Cl 257 (AA.int .i64) u0.BJ ++ [])))] F := by
 refine D5 45 [.tmp 4, .tmp 5] hc ?_
 clear hc
 unfold E4 at hm
 refine bg 45 [(0, .ptr (some (bp0, 0))), (1, Ai p1)] fun fr H => ?_
 refine AG 2 (AN 2 [] H fun fr H => AQ (AG 4 ?_))
 obtain ⟨x1, hx, hm⟩ := bind_some hm
 obtain ⟨v1, h1, hr, rfl, A1⟩ := Lt (av := [.ptr (some (bp0, 0)), Ai p1]) hx (A.cut 1)
 replace A := A.g11 A1
 refine BH 2 [] 8 hr H fun fr t H => ?_
 refine AN 1 [(9, .bool (!x1))] H fun fr H => Ak 9 H hm (fun hb hm H => ?_) fun hb hm H => ?_
 ·refine AG 2 (AN 2 [(4, .bool false), (5, Ai 9)] H fun fr H => AS ?_)
  obtain ⟨rfl, rfl, rfl⟩ := Li hm
  exact ⟨.inl rfl, _, rH H, rfl, A⟩
 refine Be id (AQ ?_)
 obtain ⟨o1, ho, hm⟩ := bind_some hm
 refine BM (Q' := fun e fr' h' => (∃ x2, e = .normal ∧ x2 = o1 ∧ Has fr' 45 [(0, .ptr (some (bp0, 0))), (1, Ai p1)] ∧ HH g h' [.obj bp0 (.cells none 2 ([Ai p0.n_, Ai p0.Aq] ++ (Cl 257 (AA.int .i64) x2 ++ [])))] F) ∨ False) ?_ ?_
 ·replace hm := ho
  clear ho
  refine AG 7 ?_
  obtain ⟨x3, hq1, hm⟩ := bind_some hm
  refine As 4 [] 14 (.ptr (some (bp0, 2 + p1.toNat * 1))) h1 H (fun fr => .of (PZ (by kernel_rfl) (MO hq1 (bp0, 2) 1))) fun fr t H => ?_
  refine Az 15 _ _ H (fun fr => .of (Dj (by kernel_rfl) (HH.XR A 0 (AA.int .i64) (X := p0.BJ) [Ai p0.n_, Ai p0.Aq] ([] : List AA) (off := 2) rfl rfl (i := p1) hq1))) fun fr t H => ?_
  refine AN 1 [(16, .bool (decide (x3 < 9007199254740991)))] H fun fr H => Ak 16 H hm (fun hb hm H => ?_) fun hb hm H => ?_
  ·refine EZ 4 11 ?_
   obtain ⟨x4, hq2, hm⟩ := bind_some hm
   refine As 4 [(17, .ptr (some (bp0, 0))), (18, Ai p1)] 21 (.ptr (some (bp0, 2 + p1.toNat * 1))) h1 H (fun fr => .of (PZ (by kernel_rfl) (MO hq2 (bp0, 2) 1))) fun fr t H => ?_
   refine Az 22 _ _ H (fun fr => .of (Dj (by kernel_rfl) (HH.XR A 0 (AA.int .i64) (X := p0.BJ) [Ai p0.n_, Ai p0.Aq] ([] : List AA) (off := 2) rfl rfl (i := p1) hq2))) fun fr t H => ?_
   obtain ⟨x5, hq3, hm⟩ := bind_some hm
   refine As 3 [(23, Ai (IntKind.i64.wrap (x4 + 1)))] 26 (.ptr (some (bp0, 2 + p1.toNat * 1))) h1 H (fun fr => .of (PZ (by kernel_rfl) (MO hq3 (bp0, 2) 1))) fun fr t H => ?_
   obtain ⟨h2, hx, A1⟩ := HH.Xt A 0 (AA.int .i64) (X := p0.BJ) [Ai p0.n_, Ai p0.Aq] ([] : List AA) (off := 2) rfl rfl (i := p1) (IntKind.i64.wrap (x4 + 1)) hq3 rfl
   replace A : HH g h2 [.obj bp0 (.cells none 2 ([Ai p0.n_, Ai p0.Aq] ++ (Cl 257 (AA.int .i64) (Ov p0.BJ p1.toNat (IntKind.i64.wrap (x4 + 1))) ++ [])))] F := A1
   refine Jo hx H fun fr t H => ?_
   refine at_nil ?_
   exact .inl ⟨_, rfl, Aa hm, H.ls, A⟩
  exact IG (.inl ⟨_, rfl, Aa hm, H.ls, A⟩)
 clear ho
 clear A
 intro e fr h3 hQ
 rcases hQ with ⟨x2, rfl, rfl, H, A⟩ | hF
 ·show AW _ _ _ _ _ _ _
  refine AQ (EZ 5 20 ?_)
  refine As 3 [] 30 (Ai p0.n_) h3 H (fun fr => .of (Dj (by kernel_rfl) (A.NX 0 rfl (o := 0) (by kernel_rfl)))) fun fr t H => ?_
  refine AF 2 [(32, .bool (p0.n_ == 0))] H fun fr H => ?_
  obtain ⟨x6, ho, hm⟩ := bind_some hm
  refine An 12 (fun fr' h' => Has fr' 45 [(44, .bool x6)] ∧ HH g h' [.obj bp0 (.cells none 2 ([Ai p0.n_, Ai p0.Aq] ++ (Cl 257 (AA.int .i64) x2 ++ [])))] F) ?_ ?_
  ·rcases AU ho with ⟨hb, hm⟩ | ⟨hb, hm⟩
   ·replace H := H.kn 32 hb
    refine AF 12 [(44, .bool true)] H fun fr H => ?_
    obtain rfl := Aa hm
    exact at_nil ⟨H.ls, A⟩
   replace H := H.kn 32 hb
   obtain ⟨x7, hq4, hm⟩ := bind_some hm
   refine As 4 [] 37 (.ptr (some (bp0, 2 + p1.toNat * 1))) h3 H (fun fr => .of (PZ (by kernel_rfl) (MO hq4 (bp0, 2) 1))) fun fr t H => ?_
   refine Az 38 _ _ H (fun fr => .of (Dj (by kernel_rfl) (HH.XR A 0 (AA.int .i64) (X := x2) [Ai p0.n_, Ai p0.Aq] ([] : List AA) (off := 2) rfl rfl (i := p1) hq4))) fun fr t H => ?_
   refine As 3 [] 42 (Ai p0.n_) h3 H (fun fr => .of (Dj (by kernel_rfl) (A.NX 0 rfl (o := 0) (by kernel_rfl)))) fun fr t H => ?_
   refine AF 2 [(44, .bool (x7 == p0.n_))] H fun fr H => ?_
   obtain rfl := Aa hm
   exact at_nil ⟨H.ls, A⟩
  clear A
  intro t fr h4 hK
  obtain ⟨H, A⟩ := hK
  refine AN 2 [(4, .bool x6), (5, Ai 0)] H fun fr H => AS ?_
  obtain ⟨rfl, rfl, rfl⟩ := Li hm
  exact ⟨.inl rfl, _, rH H, rfl, A⟩
 exact hF.elim
def Bv (p0 : Bg) (p1 : AV) : Option (Int × CF) :=
 (Ae (decide ((p0.AZ.length : Int) > 0)) ((Dz p0.AZ p1.Name).bind fun (x3, x4) => Ae (!x4) (some (.inr (6 : Int))) (some (.inl x3))) (some (.inl (0 : Int))) : Option ((Int) ⊕ (Int))).bind fun o1 => (match o1 with | .inl x1 => (E4 p0.Ap x1).bind fun (x5, x6, x7) => Ae (!x5) (some ((7 : Int), x7)) (some ((0 : Int), x7)) | .inr x2 => some (x2, p0.Ap))
theorem Ex {p0 p1 bp0 rp0_14 rp0_15 bp0_16 rp0_16_0 bp0_17 q0 u5} (hm : Bv p0 p1 = some (q0, u5)) (A : HH g h [.obj bp0 (.cells none 2 [vs AE p0.c_.Ah, vs AE p0.c_.Aj, vs AJ p0.c_.Bl, .bool p0.c_.Ho, .bool p0.c_.BP, Ai p0.c_.Bm, .bool p0.c_.CC, Ai p0.c_.BD.DF, Ai p0.c_.BD.Bp, Ai p0.c_.HG, Ai p0.c_.B3, Ai p0.c_.Name, Ai p0.c_.Head, Ai p0.c_.Bd, AI rp0_14 p0.AZ.length, AI rp0_15 p0.Ac.length, .ptr (some (bp0_16, 0)), .ptr (some (bp0_17, 0))]), .AL rp0_14 136 (AL (eP AB) p0.AZ), .AL rp0_15 136 (AL (eP AB) p0.Ac), .obj bp0_16 (.cells none 2 [AI rp0_16_0 p0.Ad.l_.length, Ai p0.Ad.Ba]), .AL rp0_16_0 142 (AL (eP AK) p0.Ad.l_), .obj bp0_17 (.cells none 2 ([Ai p0.Ap.n_, Ai p0.Ap.Aq] ++ (Cl 257 (AA.int .i64) p0.Ap.BJ ++ [])))] F) (hc : BI (cfg.still 42) av = [.ptr (some (bp0, 0)), .agg (AD p1)] := by kernel_rfl) : ∃ v h', BL cfg g h 42 av v h' ∧ v = Ai q0 ∧ HH g h' [.obj bp0 (.cells none 2 [vs AE p0.c_.Ah, vs AE p0.c_.Aj, vs AJ p0.c_.Bl, .bool p0.c_.Ho, .bool p0.c_.BP, Ai p0.c_.Bm, .bool p0.c_.CC, Ai p0.c_.BD.DF, Ai p0.c_.BD.Bp, Ai p0.c_.HG, Ai p0.c_.B3, Ai p0.c_.Name, Ai p0.c_.Head, Ai p0.c_.Bd, AI rp0_14 p0.AZ.length, AI rp0_15 p0.Ac.length, .ptr (some (bp0_16, 0)), .ptr (some (bp0_17, 0))]), .AL rp0_14 136 (AL (eP AB) p0.AZ), .AL rp0_15 136 (AL (eP AB) p0.Ac), .obj bp0_16 (.cells none 2 [AI rp0_16_0 p0.Ad.l_.length, Ai p0.Ad.Ba]), .AL rp0_16_0 142 (AL (eP AK) p0.Ad.l_), .obj bp0_17 (.cells none 2 ([Ai u5.n_, Ai u5.Aq] ++ (Cl 257 (AA.int .i64) u5.BJ ++ [])))] F := by
 refine D5 40 [.tmp 4] hc ?_
 clear hc
 unfold Bv at hm
 refine bg 40 [(0, .ptr (some (bp0, 0))), (1, .agg (AD p1))] fun fr H => ?_
 refine AG 2 ?_
 obtain ⟨h1, e1, A⟩ := A.pu (.cells none 2 (AD p1))
 refine BC 3 (.ptr (some (h.size, 0))) e1 H fun fr t H => ?_
 refine BT 1 [] 1 H fun fr H => AN 1 [(5, Ai 0)] H fun fr H => AQ ?_
 obtain ⟨o1, ho, hm⟩ := bind_some hm
 refine BM (Q' := fun e fr' h' => (∃ x1, e = .normal ∧ .inl x1 = o1 ∧ Has fr' 40 [(0, .ptr (some (bp0, 0))), (5, Ai x1)] ∧ HH g h' [.obj h.size (.cells none 2 (AD p1)), .obj bp0 (.cells none 2 [vs AE p0.c_.Ah, vs AE p0.c_.Aj, vs AJ p0.c_.Bl, .bool p0.c_.Ho, .bool p0.c_.BP, Ai p0.c_.Bm, .bool p0.c_.CC, Ai p0.c_.BD.DF, Ai p0.c_.BD.Bp, Ai p0.c_.HG, Ai p0.c_.B3, Ai p0.c_.Name, Ai p0.c_.Head, Ai p0.c_.Bd, AI rp0_14 p0.AZ.length, AI rp0_15 p0.Ac.length, .ptr (some (bp0_16, 0)), .ptr (some (bp0_17, 0))]), .AL rp0_14 136 (AL (eP AB) p0.AZ), .AL rp0_15 136 (AL (eP AB) p0.Ac), .obj bp0_16 (.cells none 2 [AI rp0_16_0 p0.Ad.l_.length, Ai p0.Ad.Ba]), .AL rp0_16_0 142 (AL (eP AK) p0.Ad.l_), .obj bp0_17 (.cells none 2 ([Ai p0.Ap.n_, Ai p0.Ap.Aq] ++ (Cl 257 (AA.int .i64) p0.Ap.BJ ++ [])))] F) ∨ (∃ x2, e = .ret ∧ .inr x2 = o1 ∧ Has fr' 40 [(4, Ai x2)] ∧ HH g h' [.obj h.size (.cells none 2 (AD p1)), .obj bp0 (.cells none 2 [vs AE p0.c_.Ah, vs AE p0.c_.Aj, vs AJ p0.c_.Bl, .bool p0.c_.Ho, .bool p0.c_.BP, Ai p0.c_.Bm, .bool p0.c_.CC, Ai p0.c_.BD.DF, Ai p0.c_.BD.Bp, Ai p0.c_.HG, Ai p0.c_.B3, Ai p0.c_.Name, Ai p0.c_.Head, Ai p0.c_.Bd, AI rp0_14 p0.AZ.length, AI rp0_15 p0.Ac.length, .ptr (some (bp0_16, 0)), .ptr (some (bp0_17, 0))]), .AL rp0_14 136 (AL (eP AB) p0.AZ), .AL rp0_15 136 (AL (eP AB) p0.Ac), .obj bp0_16 (.cells none 2 [AI rp0_16_0 p0.Ad.l_.length, Ai p0.Ad.Ba]), .AL rp0_16_0 142 (AL (eP AK) p0.Ad.l_), .obj bp0_17 (.cells none 2 ([Ai p0.Ap.n_, Ai p0.Ap.Aq] ++ (Cl 257 (AA.int .i64) p0.Ap.BJ ++ [])))] F) ∨ False) ?_ ?_
 ·replace hm := ho
  clear ho
  refine AG 6 (AR 3 [] 13 1 14 A H fun fr t H => ?_)
  refine AN 2 [(15, .bool (decide ((p0.AZ.length : Int) > 0)))] H fun fr H => Ak 15 H hm (fun hb hm H => ?_) fun hb hm H => ?_
  ·refine AQ (EZ 3 12 ?_)
   refine AR 3 [] 20 1 14 A H fun fr t H => ?_
   refine AR 1 [] 22 0 0 A H fun fr t H => ?_
   replace A : HH g h1 [_, .obj h.size (.cells none 2 (AD p1)), _, _, _, _, _] F := (A.front 2 rfl)
   obtain ⟨⟨x3, x4⟩, hx, hm⟩ := bind_some hm
   obtain ⟨v1, h2, hr, rfl, A1⟩ := Hc (av := [AI rp0_14 p0.AZ.length, .str p1.Name]) hx (A.cut 1)
   replace A := A.g11 A1
   refine Ay 23 hr H fun fr t H => ?_
   refine AN 5 [(6, Ai x3), (7, .bool x4)] H fun fr H => AQ (AG 2 (AN 2 [(27, .bool (!x4))] H fun fr H => Ak 27 H hm (fun hb hm H => ?_) fun hb hm H => ?_))
   ·refine AG 1 (AN 1 [(4, Ai 6)] H fun fr H => AS ?_)
    replace A := A.k7 1 2 0 3 4 5 6
    exact .inr (.inl ⟨_, rfl, Aa hm, H.ls, A⟩)
   refine FH 2 id (Bi 2 [(0, .ptr (some (bp0, 0))), (5, Ai x3)] H fun fr H => at_nil ?_)
   replace A := A.k7 1 2 0 3 4 5 6
   exact .inl ⟨_, rfl, Aa hm, H.ls, A⟩
  exact IG (.inl ⟨_, rfl, Aa hm, H.ls, A⟩)
 clear ho
 clear A
 intro e fr h3 hQ
 rcases hQ with ⟨x1, rfl, rfl, H, A⟩ | ⟨x2, rfl, rfl, H, A⟩ | hF
 ·show AW _ _ _ _ _ _ _
  refine AQ (AG 11 (AR 3 [] 33 1 17 A H fun fr t H => ?_))
  replace A := A.k7 6 0 1 2 3 4 5
  obtain ⟨⟨x5, x6, x7⟩, hx, hm⟩ := bind_some hm
  obtain ⟨v1, h4, hr, rfl, A1⟩ := Kg (av := [.ptr (some (bp0_17, 0)), Ai x1]) hx (A.cut 1)
  replace A := A.g11 A1
  refine BH 1 [] 35 hr H fun fr t H => ?_
  refine BT 5 [(8, .bool x5)] 2 H fun fr H => AN 2 [(39, .bool (!x5))] H fun fr H => Ak 39 H hm (fun hb hm H => ?_) fun hb hm H => ?_
  ·refine AG 1 (AN 1 [(4, Ai 7)] H fun fr H => AS ?_)
   obtain ⟨rfl, rfl⟩ := DG hm
   refine ⟨.inl rfl, Ai 7, rH H, ?_⟩
   replace A := A.k6 2 3 4 5 6 0
   exact ⟨rfl, A⟩
  refine Cm 1 id (AN 1 [(4, Ai 0)] H fun fr H => AS ?_)
  obtain ⟨rfl, rfl⟩ := DG hm
  refine ⟨.inl rfl, Ai 0, rH H, ?_⟩
  replace A := A.k6 2 3 4 5 6 0
  exact ⟨rfl, A⟩
 ·obtain ⟨rfl, rfl⟩ := DG hm
  refine ⟨.inl rfl, Ai x2, rH H, ?_⟩
  replace A := A.k6 1 2 3 4 5 6
  exact ⟨rfl, A⟩
 exact hF.elim
def ED (p0 : List UInt8) : Option ((List UInt8)) :=
 Ae ((p0 == ([] : List UInt8)) || (([47] : List UInt8) == ([] : List UInt8))) (some p0) ((EC p0 (47 : Int)).bind fun x1 => some x1)
theorem Gn {p0 q0} (hm : ED p0 = some q0) (A : HH g h [] F) (hc : BI (cfg.still 81) av = [.str p0, .str ([47] : List UInt8)] := by kernel_rfl) : ∃ v h', BL cfg g h 81 av v h' ∧ v = .str q0 ∧ HH g h' [] F := by
 refine D5 37 [.tmp 4] hc ?_
 clear hc
 unfold ED at hm
 refine bg 37 [(0, .str p0), (1, .str ([47] : List UInt8))] fun fr H => ?_
 refine AG 1 (AN 1 [] H fun fr H => AQ (AG 6 (AF 3 [(9, .bool (p0 == ([] : List UInt8)))] H fun fr H => An 3 (fun fr' h' => h = h' ∧ Has fr' 37 [(0, .str p0), (1, .str ([47] : List UInt8)), (12, .bool ((p0 == ([] : List UInt8)) || (([47] : List UInt8) == ([] : List UInt8))))]) ?_ ?_)))
 ·cases hb : (p0 == ([] : List UInt8) : Bool) with
  | true =>
   replace H := H.kn 9 hb
   exact AF 3 [(12, .bool true)] H fun fr H => AY H hb
  | false =>
   replace H := H.kn 9 hb
   exact AF 3 [(12, .bool (([47] : List UInt8) == ([] : List UInt8)))] H fun fr H => AY H hb
 intro t fr h' hK
 obtain ⟨e, H⟩ := hK
 subst e
 refine BB id (Ak 12 H hm (fun hb hm H => ?_) fun hb hm H => ?_)
 ·refine AG 2 (AN 2 [(4, .str p0)] H fun fr H => AS ?_)
  obtain rfl := Aa hm
  exact ⟨.inl rfl, _, rH H, rfl, A⟩
 refine Be id (AQ (AG 8 (AN 8 [(21, .bool true)] H fun fr H => Dd (x := .tmp 21) (by kernel_rfl) H (fun fr => by kernel_rfl) ?_)))
 refine AG 5 ?_
 obtain ⟨x1, hx, hm⟩ := bind_some hm
 obtain ⟨v1, h1, hr, rfl, A1⟩ := Gg (av := [.str p0, Ab 47]) hx (A.cut 0)
 replace A := A.EV A1
 refine BH 3 [] 25 hr H fun fr t H => ?_
 refine AN 1 [(4, .str x1)] H fun fr H => AS ?_
 obtain rfl := Aa hm
 exact ⟨.inl rfl, _, rH H, rfl, A⟩
def Du (p0 : List UInt8) (p1 : Int) : Option (Int) :=
 (I9 p0 p1).bind fun x1 => some x1
theorem JK {p0 p1 q0} (hm : Du p0 p1 = some q0) (A : HH g h [] F) (hc : BI (cfg.still 147) av = [.str p0, Ab p1] := by kernel_rfl) : ∃ v h', BL cfg g h 147 av v h' ∧ v = Ai q0 ∧ HH g h' [] F := by
 refine D5 8 [.tmp 4] hc ?_
 clear hc
 unfold Du at hm
 refine bg 8 [(0, .str p0), (1, Ab p1)] fun fr H => ?_
 refine AG 1 (BT 1 [] 4 H fun fr H => ?_)
 obtain ⟨x1, hx, hm⟩ := bind_some hm
 refine As 2 [] 7 (Ai x1) h H (fun fr => Steps.call (by kernel_rfl) (Un (C := cfg) (f := 208) (by kernel_rfl) (l := exts) rfl (by kernel_rfl) hx)) fun fr t H => ?_
 refine AN 1 [(4, Ai x1)] H fun fr H => AS ?_
 obtain rfl := Aa hm
 exact ⟨.inl rfl, _, rH H, rfl, A⟩
def Cq (p0 : List UInt8) (p1 : Int) : Option (Int) :=
 (Du p0 p1).bind fun x1 => some x1
theorem Fy {p0 p1 q0} (hm : Cq p0 p1 = some q0) (A : HH g h [] F) (hc : BI (cfg.still 82) av = [.str p0, Ab p1] := by kernel_rfl) : ∃ v h', BL cfg g h 82 av v h' ∧ v = Ai q0 ∧ HH g h' [] F := by
 refine D5 8 [.tmp 4] hc ?_
 clear hc
 unfold Cq at hm
 refine bg 8 [(0, .str p0), (1, Ab p1)] fun fr H => ?_
 refine AG 1 (BT 1 [] 4 H fun fr H => ?_)
 obtain ⟨x1, hx, hm⟩ := bind_some hm
 obtain ⟨v1, h1, hr, rfl, A1⟩ := JK (av := [.str p0, Ab p1]) hx (A.cut 0)
 replace A := A.EV A1
 refine BH 2 [] 7 hr H fun fr t H => ?_
 refine AN 1 [(4, Ai x1)] H fun fr H => AS ?_
 obtain rfl := Aa hm
 exact ⟨.inl rfl, _, rH H, rfl, A⟩
def HP (s : (List UInt8) × Int) : Option (((List UInt8) × Int) ⊕ (((List UInt8)) ⊕ ((List UInt8) × Bool))) :=
 match s with
 | (x1, x2) => Ae ((decide (x2 > 0)) && (!(x1 == ([] : List UInt8)))) ((ED x1).bind fun x6 => (Cq x6 (47 : Int)).bind fun x7 => Ae (decide (x7 < 0)) (some (.inr (.inr (([] : List UInt8), false)))) ((LP x6 (some x7) none).bind fun x8 => (ED x8).bind fun x9 => some (.inl (x9, IntKind.i64.wrap (x2 - 1))))) (some (.inr (.inl x1)))
def DH (p0 : List UInt8) (p1 : Int) : Option ((List UInt8) × Bool) :=
 Ae (decide (p1 < 0)) (some (([] : List UInt8), false)) ((loop (HP) (p0, p1)).bind fun o1 => (match o1 with | .inl x3 => some (x3, !(x3 == ([] : List UInt8))) | .inr (x4, x5) => some (x4, x5)))
theorem Fp {p0 p1 q0 q1} (hm : DH p0 p1 = some (q0, q1)) (A : HH g h [] F) (hc : BI (cfg.still 44) av = [.str p0, Ai p1] := by kernel_rfl) : ∃ v h', BL cfg g h 44 av v h' ∧ v = .tuple [.str q0, .bool q1] ∧ HH g h' [] F := by
 refine D5 30 [.tmp 4, .tmp 5] hc ?_
 clear hc
 unfold DH at hm
 refine bg 30 [(0, .str p0), (1, Ai p1)] fun fr H => ?_
 refine AG 2 (AN 2 [] H fun fr H => AQ (AG 2 (AN 2 [(8, .bool (decide (p1 < 0)))] H fun fr H => Ak 8 H hm (fun hb hm H => ?_) fun hb hm H => ?_)))
 ·refine AG 2 (AN 2 [(4, .str ([] : List UInt8)), (5, .bool false)] H fun fr H => AS ?_)
  obtain ⟨rfl, rfl⟩ := DG hm
  exact ⟨.inl rfl, _, rH H, rfl, A⟩
 refine Be id (AQ (AX (id := 0) (by kernel_rfl) ?_))
 obtain ⟨o1, ho, hm⟩ := bind_some hm
 refine BM (Q' := fun e fr' h' => (∃ x3, e = .exit 0 ∧ .inl x3 = o1 ∧ Has fr' 30 [(0, .str x3)] ∧ HH g h' [] F) ∨ (∃ x4 x5, e = .ret ∧ .inr (x4, x5) = o1 ∧ Has fr' 30 [(4, .str x4), (5, .bool x5)] ∧ HH g h' [] F) ∨ False) ?_ ?_
 ·refine B8 (by kernel_rfl) (fun (s : (List UInt8) × Int) fr' h' => ∃ x1 x2, (x1, x2) = s ∧ Has fr' 30 [(0, .str x1), (1, Ai x2)] ∧ HH g h' [] F) ho ⟨_, _, rfl, H.ls, A⟩ ?_
  clear ho hm H A
  intro s q fr h1 hI hm
  obtain ⟨x1, x2, rfl, H, A⟩ := hI
  unfold HP at hm
  refine AQ (AG 6 (AF 3 [(11, .bool (decide (x2 > 0)))] H fun fr H => An 3 (fun fr' h' => h1 = h' ∧ Has fr' 30 [(0, .str x1), (1, Ai x2), (14, .bool ((decide (x2 > 0)) && (!(x1 == ([] : List UInt8)))))]) ?_ ?_))
  ·cases hb : (decide (x2 > 0) : Bool) with
   | true =>
    replace H := H.kn 11 hb
    exact AF 3 [(14, .bool (!(x1 == ([] : List UInt8))))] H fun fr H => AY H hb
   | false =>
    replace H := H.kn 11 hb
    exact AF 3 [(14, .bool false)] H fun fr H => AY H hb
  intro t fr h' hK
  obtain ⟨e, H⟩ := hK
  subst e
  refine BB id (Ak 14 H hm (fun hb hm H => ?_) fun hb hm H => ?_)
  ·refine Be id (AQ (AX (id := 1) (by kernel_rfl) ?_))
   refine AG 3 ?_
   obtain ⟨x6, hx, hm⟩ := bind_some hm
   obtain ⟨v1, h2, hr, rfl, A1⟩ := Gn (av := [.str x1, .str ([47] : List UInt8)]) hx (A.cut 0)
   replace A := A.EV A1
   refine BH 1 [] 18 hr H fun fr t H => ?_
   refine Bi 1 [(0, .str x6), (1, Ai x2)] H fun fr H => Cj 3 id ?_
   obtain ⟨x7, hx, hm⟩ := bind_some hm
   obtain ⟨v1, h3, hr, rfl, A1⟩ := Fy (av := [.str x6, Ab 47]) hx (A.cut 0)
   replace A := A.EV A1
   refine BH 1 [] 20 hr H fun fr t H => ?_
   refine AN 1 [(6, Ai x7)] H fun fr H => AQ (AG 2 (AN 2 [(22, .bool (decide (x7 < 0)))] H fun fr H => Ak 22 H hm (fun hb hm H => ?_) fun hb hm H => ?_))
   ·refine AG 2 (AN 2 [(4, .str ([] : List UInt8)), (5, .bool false)] H fun fr H => AS ?_)
    exact nr hm fun e => Or.inr (.inl ⟨_, _, rfl, e, H.ls, A⟩)
   refine FH 5 id ?_
   obtain ⟨x8, hx, hm⟩ := bind_some hm
   refine As 2 [] 25 (.str x8) h3 H (fun fr => .of (JN (k := .i64) (k' := .i64) (lo := (some x7)) (hi := none) (by kernel_rfl) hx)) fun fr t H => ?_
   obtain ⟨x9, hx, hm⟩ := bind_some hm
   obtain ⟨v1, h4, hr, rfl, A1⟩ := Gn (av := [.str x8, .str ([47] : List UInt8)]) hx (A.cut 0)
   replace A := A.EV A1
   refine Ay 26 hr H fun fr t H => ?_
   refine Bi 1 [(0, .str x9), (1, Ai x2)] H fun fr H => KY 3 id (Bi 3 [(0, .str x9), (1, Ai (IntKind.i64.wrap (x2 - 1)))] H fun fr H => at_nil ?_)
   exact nx hm ⟨_, _, rfl, H.ls, A⟩
  refine Bn (i := 0) (by kernel_rfl) ?_
  exact nr hm fun e => .inl ⟨_, rfl, e, H.ls, A⟩
 clear ho
 clear A
 intro e fr h5 hQ
 rcases hQ with ⟨x3, rfl, rfl, H, A⟩ | ⟨x4, x5, rfl, rfl, H, A⟩ | hF
 ·show AW _ _ _ _ _ _ _
  refine AG 5 (AN 5 [(4, .str x3), (5, .bool (!(x3 == ([] : List UInt8))))] H fun fr H => AS ?_)
  obtain ⟨rfl, rfl⟩ := DG hm
  exact ⟨.inl rfl, _, rH H, rfl, A⟩
 ·obtain ⟨rfl, rfl⟩ := DG hm
  exact ⟨.inl rfl, _, rH H, rfl, A⟩
 exact hF.elim
def B1 (p0 : Bg) (p1 : AV) : Option (Int) :=
 (DH p1.Name p0.c_.B3).bind fun (x1, x2) => Ae (!x2) (some (8 : Int)) (some (0 : Int))
theorem FB {p0 p1 bp0 rp0_14 rp0_15 bp0_16 rp0_16_0 bp0_17 q0} (hm : B1 p0 p1 = some q0) (A : HH g h [.obj bp0 (.cells none 2 [vs AE p0.c_.Ah, vs AE p0.c_.Aj, vs AJ p0.c_.Bl, .bool p0.c_.Ho, .bool p0.c_.BP, Ai p0.c_.Bm, .bool p0.c_.CC, Ai p0.c_.BD.DF, Ai p0.c_.BD.Bp, Ai p0.c_.HG, Ai p0.c_.B3, Ai p0.c_.Name, Ai p0.c_.Head, Ai p0.c_.Bd, AI rp0_14 p0.AZ.length, AI rp0_15 p0.Ac.length, .ptr (some (bp0_16, 0)), .ptr (some (bp0_17, 0))]), .AL rp0_14 136 (AL (eP AB) p0.AZ), .AL rp0_15 136 (AL (eP AB) p0.Ac), .obj bp0_16 (.cells none 2 [AI rp0_16_0 p0.Ad.l_.length, Ai p0.Ad.Ba]), .AL rp0_16_0 142 (AL (eP AK) p0.Ad.l_), .obj bp0_17 (.cells none 2 ([Ai p0.Ap.n_, Ai p0.Ap.Aq] ++ (Cl 257 (AA.int .i64) p0.Ap.BJ ++ [])))] F) (hc : BI (cfg.still 43) av = [.ptr (some (bp0, 0)), .agg (AD p1)] := by kernel_rfl) : ∃ v h', BL cfg g h 43 av v h' ∧ v = Ai q0 ∧ HH g h' [.obj bp0 (.cells none 2 [vs AE p0.c_.Ah, vs AE p0.c_.Aj, vs AJ p0.c_.Bl, .bool p0.c_.Ho, .bool p0.c_.BP, Ai p0.c_.Bm, .bool p0.c_.CC, Ai p0.c_.BD.DF, Ai p0.c_.BD.Bp, Ai p0.c_.HG, Ai p0.c_.B3, Ai p0.c_.Name, Ai p0.c_.Head, Ai p0.c_.Bd, AI rp0_14 p0.AZ.length, AI rp0_15 p0.Ac.length, .ptr (some (bp0_16, 0)), .ptr (some (bp0_17, 0))]), .AL rp0_14 136 (AL (eP AB) p0.AZ), .AL rp0_15 136 (AL (eP AB) p0.Ac), .obj bp0_16 (.cells none 2 [AI rp0_16_0 p0.Ad.l_.length, Ai p0.Ad.Ba]), .AL rp0_16_0 142 (AL (eP AK) p0.Ad.l_), .obj bp0_17 (.cells none 2 ([Ai p0.Ap.n_, Ai p0.Ap.Aq] ++ (Cl 257 (AA.int .i64) p0.Ap.BJ ++ [])))] F := by
 refine D5 20 [.tmp 4] hc ?_
 clear hc
 unfold B1 at hm
 refine bg 20 [(0, .ptr (some (bp0, 0))), (1, .agg (AD p1))] fun fr H => ?_
 refine AG 2 ?_
 obtain ⟨h1, e1, A⟩ := A.pu (.cells none 2 (AD p1))
 refine BC 3 (.ptr (some (h.size, 0))) e1 H fun fr t H => ?_
 refine AN 1 [] H fun fr H => AQ (AQ (EZ 1 13 ?_))
 refine AR 1 [] 9 0 0 A H fun fr t H => ?_
 refine AR 4 [] 14 1 10 A H fun fr t H => ?_
 obtain ⟨⟨x1, x2⟩, hx, hm⟩ := bind_some hm
 obtain ⟨v1, h2, hr, rfl, A1⟩ := Fp (av := [.str p1.Name, Ai p0.c_.B3]) hx (A.cut 0)
 replace A : HH g h2 [.obj h.size (.cells none 2 (AD p1)), _, _, _, _, _, _] F := A.CL (n := 0) A1
 refine Ay 15 hr H fun fr t H => ?_
 refine BT 5 [(6, .bool x2)] 2 H fun fr H => AN 2 [(19, .bool (!x2))] H fun fr H => Ak 19 H hm (fun hb hm H => ?_) fun hb hm H => ?_
 ·refine AG 1 (AN 1 [(4, Ai 8)] H fun fr H => AS ?_)
  obtain rfl := Aa hm
  refine ⟨.inl rfl, Ai 8, rH H, ?_⟩
  replace A := A.k6 1 2 3 4 5 6
  exact ⟨rfl, A⟩
 refine Cm 1 id (AN 1 [(4, Ai 0)] H fun fr H => AS ?_)
 obtain rfl := Aa hm
 refine ⟨.inl rfl, Ai 0, rH H, ?_⟩
 replace A := A.k6 1 2 3 4 5 6
 exact ⟨rfl, A⟩
def D1 (p0 : EJ) : Option (A0) :=
 some p0.x_
theorem F3 {p0 q0} (hm : D1 p0 = some q0) (A : HH g h [] F) (hc : BI (cfg.still 149) av = [.A7 (AK p0)] := by kernel_rfl) : ∃ v h', BL cfg g h 149 av v h' ∧ v = .agg (AJ q0) ∧ HH g h' [] F := by
 refine D5 7 [.cell 2 135] hc ?_
 clear hc
 unfold D1 at hm
 refine bg 7 [(0, .A7 (AK p0))] fun fr H => ?_
 refine AG 1 ?_
 obtain ⟨h1, e1, A⟩ := A.pu (.cells none 2 [.str ([] : List UInt8), .str ([] : List UInt8), .bool false, .bool false, .bool false, Ai 0, .bool false, .bool false, .bool false])
 refine BC 2 (.ptr (some (h.size, 0))) e1 H fun fr t H => ?_
 refine Cj 5 id (As 3 [] 6 (.agg (AJ p0.x_)) h1 H (fun fr => .of (IQ (by kernel_rfl))) fun fr t H => ?_)
 obtain ⟨h2, hx, A⟩ := A.s0 0 (AJ p0.x_) [_, _, _, _, _, _, _, _, _]
 refine Ev hx H fun fr t H => ?_
 refine BB id (AS ?_)
 obtain rfl := Aa hm
 refine ⟨.inl rfl, .agg (AJ p0.x_), DJ (.cell (rT H) (BS (by kernel_rfl) (by kernel_rfl) (A.la 0 0 9)) .nil), ?_⟩
 replace A := A.d0
 exact ⟨rfl, A⟩
def JI (p0 : A0) : Option (Bool) :=
 some p0.Names
theorem Nd {p0 q0} (hm : JI p0 = some q0) (A : HH g h [] F) (hc : BI (cfg.still 148) av = [.agg (AJ p0)] := by kernel_rfl) : ∃ v h', BL cfg g h 148 av v h' ∧ v = .bool q0 ∧ HH g h' [] F := by
 refine D5 5 [.tmp 2] hc ?_
 clear hc
 unfold JI at hm
 refine bg 5 [(0, .agg (AJ p0))] fun fr H => ?_
 refine AG 2 ?_
 obtain ⟨h1, e1, A⟩ := A.pu (.cells none 2 (AJ p0))
 refine BC 1 (.ptr (some (h.size, 0))) e1 H fun fr t H => ?_
 refine BT 1 [] 3 H fun fr H => AR 1 [] 4 0 6 A H fun fr t H => ?_
 refine AN 1 [(2, .bool p0.Names)] H fun fr H => AS ?_
 obtain rfl := Aa hm
 refine ⟨.inl rfl, .bool p0.Names, rH H, ?_⟩
 replace A := A.d0
 exact ⟨rfl, A⟩
def C0 (p0 : CQ) (s : (List UInt8) × Int) : Option (((List UInt8) × Int) ⊕ (((List UInt8)))) :=
 match s with
 | (x1, x2) => Ae (decide (x2 < (p0.l_.length : Int))) (((HR p0.l_ x2).bind fun x5 => (D1 x5).bind fun x6 => (JI x6).bind fun x7 => Ae (!x7) (some x1) (none) : Option (((List UInt8)))).bind fun x4 => some (.inl (x4, IntKind.i64.wrap (x2 + 1)))) (some (.inr x1))
def Cn (p0 : CQ) (p1 : List UInt8) : Option ((List UInt8) × Int) :=
 Ae (decide ((p1.length : Int) > p0.Ba)) (some (([] : List UInt8), (7 : Int))) ((loop (C0 p0) (p1, (0 : Int))).bind fun x3 => some (x3, (0 : Int)))
theorem Ib {p0 p1 bp0 rp0_0 q0 q1} (hm : Cn p0 p1 = some (q0, q1)) (A : HH g h [.obj bp0 (.cells none 2 [AI rp0_0 p0.l_.length, Ai p0.Ba]), .AL rp0_0 142 (AL (eP AK) p0.l_)] F) (hc : BI (cfg.still 86) av = [.ptr (some (bp0, 0)), .str p1, .func (.func 148) [] []] := by kernel_rfl) : ∃ v h', BL cfg g h 86 av v h' ∧ v = .tuple [.str q0, Ai q1] ∧ HH g h' [.obj bp0 (.cells none 2 [AI rp0_0 p0.l_.length, Ai p0.Ba]), .AL rp0_0 142 (AL (eP AK) p0.l_)] F := by
 refine D5 43 [.tmp 6, .tmp 7] hc ?_
 clear hc
 unfold Cn at hm
 refine bg 43 [(0, .ptr (some (bp0, 0))), (1, .str p1), (2, .func (.func 148) [] [])] fun fr H => ?_
 refine AG 2 (AN 2 [] H fun fr H => AQ (AG 7 (AR 5 [(11, Ai (p1.length : Int))] 15 0 1 A H fun fr t H => ?_)))
 refine AN 1 [(16, .bool (decide ((p1.length : Int) > p0.Ba)))] H fun fr H => Ak 16 H hm (fun hb hm H => ?_) fun hb hm H => ?_
 ·refine AG 2 (AN 2 [(6, .str ([] : List UInt8)), (7, Ai 7)] H fun fr H => AS ?_)
  obtain ⟨rfl, rfl⟩ := DG hm
  exact ⟨.inl rfl, _, rH H, rfl, A⟩
 refine Be id (AQ (AG 6 (AR 3 [] 20 0 0 A H fun fr t H => ?_)))
 refine AN 2 [(21, Ai (p0.l_.length : Int)), (22, Ai 0)] H fun fr H => AX (id := 0) (by kernel_rfl) ?_
 obtain ⟨o1, ho, hm⟩ := bind_some hm
 refine BM (Q' := fun e fr' h' => (∃ x3, e = .exit 0 ∧ x3 = o1 ∧ Has fr' 43 [(1, .str x3)] ∧ HH g h' [.obj bp0 (.cells none 2 [AI rp0_0 p0.l_.length, Ai p0.Ba]), .AL rp0_0 142 (AL (eP AK) p0.l_)] F) ∨ False) ?_ ?_
 ·refine B8 (by kernel_rfl) (fun (s : (List UInt8) × Int) fr' h' => ∃ x1 x2, (x1, x2) = s ∧ Has fr' 43 [(0, .ptr (some (bp0, 0))), (1, .str x1), (2, .func (.func 148) [] []), (20, AI rp0_0 p0.l_.length), (21, Ai (p0.l_.length : Int)), (22, Ai x2)] ∧ HH g h' [.obj bp0 (.cells none 2 [AI rp0_0 p0.l_.length, Ai p0.Ba]), .AL rp0_0 142 (AL (eP AK) p0.l_)] F) ho ⟨_, _, rfl, H.ls, A⟩ ?_
  clear ho hm H A
  intro s q fr h1 hI hm
  obtain ⟨x1, x2, rfl, H, A⟩ := hI
  unfold C0 at hm
  refine AG 1 (AN 1 [(23, .bool (decide (x2 < (p0.l_.length : Int))))] H fun fr H => AQ (Ak 23 H hm (fun hb hm H => ?_) fun hb hm H => ?_))
  ·refine Be id (AQ ?_)
   obtain ⟨o2, ho, hm⟩ := bind_some hm
   refine BM (Q' := fun e fr' h' => (∃ x4, e = .normal ∧ x4 = o2 ∧ Has fr' 43 [(0, .ptr (some (bp0, 0))), (1, .str x4), (2, .func (.func 148) [] []), (20, AI rp0_0 p0.l_.length), (21, Ai (p0.l_.length : Int)), (22, Ai x2)] ∧ HH g h' [.obj bp0 (.cells none 2 [AI rp0_0 p0.l_.length, Ai p0.Ba]), .AL rp0_0 142 (AL (eP AK) p0.l_)] F) ∨ False) ?_ ?_
   ·replace hm := ho
    clear ho
    refine AX (id := 1) (by kernel_rfl) ?_
    refine AG 3 ?_
    obtain ⟨x5, hx, hm⟩ := bind_some hm
    obtain ⟨i1, er1, _, hx, hq1⟩ := HH.NP (P8 _) (by decide) A 1 (xs := p0.l_) rfl hx
    refine Az 24 (.ptr (some (i1, x2.toNat * 1))) h1 H (fun fr => .of (Fa (s := D2 rp0_0 p0.l_.length) (by kernel_rfl) hx)) fun fr t H => ?_
    refine Az 25 _ _ H (fun fr => .of (Dj (by kernel_rfl) (FU (P8 _) (HH.row A 1 rfl er1) hq1 (o := 0) rfl))) fun fr t H => ?_
    refine AN 1 [(9, .A7 (AK x5))] H fun fr H => AQ (AG 5 ?_)
    obtain ⟨x6, hx, hm⟩ := bind_some hm
    obtain ⟨v1, h2, hr, rfl, A1⟩ := F3 (av := [.A7 (AK x5)]) hx (A.cut 0)
    replace A := A.EV A1
    refine BH 2 [(26, .func (.func 148) [] [])] 28 hr H fun fr t H => ?_
    obtain ⟨x7, hx, hm⟩ := bind_some hm
    obtain ⟨v1, h3, hr, rfl, A1⟩ := Nd (av := [.agg (AJ x6)]) hx (A.cut 0)
    replace A := A.EV A1
    refine Ay 29 hr H fun fr t H => ?_
    refine AN 1 [(30, .bool (!x7))] H fun fr H => Ak 30 H hm (fun hb hm H => ?_) fun hb hm H => ?_
    ·refine Bn (i := 1) (by kernel_rfl) ?_
     exact .inl ⟨_, rfl, Aa hm, H.ls, A⟩
    refine Cm 4 id ?_
    cases hm
   clear ho
   clear A
   intro e fr h4 hQ
   rcases hQ with ⟨x4, rfl, rfl, H, A⟩ | hF
   ·show AW _ _ _ _ _ _ _
    refine EW 2 (Bi 2 [(0, .ptr (some (bp0, 0))), (1, .str x4), (2, .func (.func 148) [] []), (20, AI rp0_0 p0.l_.length), (21, Ai (p0.l_.length : Int)), (22, Ai (IntKind.i64.wrap (x2 + 1)))] H fun fr H => at_nil ?_)
    exact nx hm ⟨_, _, rfl, H.ls, A⟩
   exact hF.elim
  refine Bn (i := 0) (by kernel_rfl) ?_
  exact nr hm fun e => .inl ⟨_, rfl, e, H.ls, A⟩
 clear ho
 clear A
 intro e fr h5 hQ
 rcases hQ with ⟨x3, rfl, rfl, H, A⟩ | hF
 ·show AW _ _ _ _ _ _ _
  refine AG 3 (AN 3 [(6, .str x3), (7, Ai 0)] H fun fr H => AS ?_)
  obtain ⟨rfl, rfl⟩ := DG hm
  exact ⟨.inl rfl, _, rH H, rfl, A⟩
 exact hF.elim
def Dq (p0 : CQ) (p1 : List UInt8) : Option ((List UInt8) × Int) :=
 (Cn p0 p1).bind fun (x1, x2) => some (x1, x2)
theorem Jb {p0 p1 bp0 rp0_0 q0 q1} (hm : Dq p0 p1 = some (q0, q1)) (A : HH g h [.obj bp0 (.cells none 2 [AI rp0_0 p0.l_.length, Ai p0.Ba]), .AL rp0_0 142 (AL (eP AK) p0.l_)] F) (hc : BI (cfg.still 83) av = [.ptr (some (bp0, 0)), .str p1] := by kernel_rfl) : ∃ v h', BL cfg g h 83 av v h' ∧ v = .tuple [.str q0, Ai q1] ∧ HH g h' [.obj bp0 (.cells none 2 [AI rp0_0 p0.l_.length, Ai p0.Ba]), .AL rp0_0 142 (AL (eP AK) p0.l_)] F := by
 refine D5 11 [.tmp 4, .tmp 5] hc ?_
 clear hc
 unfold Dq at hm
 refine bg 11 [(0, .ptr (some (bp0, 0))), (1, .str p1)] fun fr H => ?_
 refine AG 2 (BT 2 [] 7 H fun fr H => ?_)
 obtain ⟨⟨x1, x2⟩, hx, hm⟩ := bind_some hm
 obtain ⟨v1, h1, hr, rfl, A1⟩ := Ib (av := [.ptr (some (bp0, 0)), .str p1, .func (.func 148) [] []]) hx (A.cut 2)
 replace A := A.g22 A1
 refine BH 2 [] 8 hr H fun fr t H => ?_
 refine AN 4 [(4, .str x1), (5, Ai x2)] H fun fr H => AS ?_
 obtain ⟨rfl, rfl⟩ := DG hm
 exact ⟨.inl rfl, _, rH H, rfl, A⟩
def KA (p0 : A0) : Option (Bool) :=
 some p0.UD
theorem OX {p0 q0} (hm : KA p0 = some q0) (A : HH g h [] F) (hc : BI (cfg.still 84) av = [.agg (AJ p0)] := by kernel_rfl) : ∃ v h', BL cfg g h 84 av v h' ∧ v = .bool q0 ∧ HH g h' [] F := by
 refine D5 5 [.tmp 2] hc ?_
 clear hc
 unfold KA at hm
 refine bg 5 [(0, .agg (AJ p0))] fun fr H => ?_
 refine AG 2 ?_
 obtain ⟨h1, e1, A⟩ := A.pu (.cells none 2 (AJ p0))
 refine BC 1 (.ptr (some (h.size, 0))) e1 H fun fr t H => ?_
 refine BT 1 [] 3 H fun fr H => AR 1 [] 4 0 7 A H fun fr t H => ?_
 refine AN 1 [(2, .bool p0.UD)] H fun fr H => AS ?_
 obtain rfl := Aa hm
 refine ⟨.inl rfl, .bool p0.UD, rH H, ?_⟩
 replace A := A.d0
 exact ⟨rfl, A⟩
def Cd (p0 : CQ) (s : (List UInt8) × Int) : Option (((List UInt8) × Int) ⊕ (((List UInt8)))) :=
 match s with
 | (x1, x2) => Ae (decide (x2 < (p0.l_.length : Int))) (((HR p0.l_ x2).bind fun x5 => (D1 x5).bind fun x6 => (KA x6).bind fun x7 => Ae (!x7) (some x1) (none) : Option (((List UInt8)))).bind fun x4 => some (.inl (x4, IntKind.i64.wrap (x2 + 1)))) (some (.inr x1))
def CX (p0 : CQ) (p1 : List UInt8) : Option ((List UInt8) × Int) :=
 Ae (decide ((p1.length : Int) > p0.Ba)) (some (([] : List UInt8), (7 : Int))) ((loop (Cd p0) (p1, (0 : Int))).bind fun x3 => some (x3, (0 : Int)))
theorem Hq {p0 p1 bp0 rp0_0 q0 q1} (hm : CX p0 p1 = some (q0, q1)) (A : HH g h [.obj bp0 (.cells none 2 [AI rp0_0 p0.l_.length, Ai p0.Ba]), .AL rp0_0 142 (AL (eP AK) p0.l_)] F) (hc : BI (cfg.still 86) av = [.ptr (some (bp0, 0)), .str p1, .func (.func 84) [] []] := by kernel_rfl) : ∃ v h', BL cfg g h 86 av v h' ∧ v = .tuple [.str q0, Ai q1] ∧ HH g h' [.obj bp0 (.cells none 2 [AI rp0_0 p0.l_.length, Ai p0.Ba]), .AL rp0_0 142 (AL (eP AK) p0.l_)] F := by
 refine D5 43 [.tmp 6, .tmp 7] hc ?_
 clear hc
 unfold CX at hm
 refine bg 43 [(0, .ptr (some (bp0, 0))), (1, .str p1), (2, .func (.func 84) [] [])] fun fr H => ?_
 refine AG 2 (AN 2 [] H fun fr H => AQ (AG 7 (AR 5 [(11, Ai (p1.length : Int))] 15 0 1 A H fun fr t H => ?_)))
 refine AN 1 [(16, .bool (decide ((p1.length : Int) > p0.Ba)))] H fun fr H => Ak 16 H hm (fun hb hm H => ?_) fun hb hm H => ?_
 ·refine AG 2 (AN 2 [(6, .str ([] : List UInt8)), (7, Ai 7)] H fun fr H => AS ?_)
  obtain ⟨rfl, rfl⟩ := DG hm
  exact ⟨.inl rfl, _, rH H, rfl, A⟩
 refine Be id (AQ (AG 6 (AR 3 [] 20 0 0 A H fun fr t H => ?_)))
 refine AN 2 [(21, Ai (p0.l_.length : Int)), (22, Ai 0)] H fun fr H => AX (id := 0) (by kernel_rfl) ?_
 obtain ⟨o1, ho, hm⟩ := bind_some hm
 refine BM (Q' := fun e fr' h' => (∃ x3, e = .exit 0 ∧ x3 = o1 ∧ Has fr' 43 [(1, .str x3)] ∧ HH g h' [.obj bp0 (.cells none 2 [AI rp0_0 p0.l_.length, Ai p0.Ba]), .AL rp0_0 142 (AL (eP AK) p0.l_)] F) ∨ False) ?_ ?_
 ·refine B8 (by kernel_rfl) (fun (s : (List UInt8) × Int) fr' h' => ∃ x1 x2, (x1, x2) = s ∧ Has fr' 43 [(0, .ptr (some (bp0, 0))), (1, .str x1), (2, .func (.func 84) [] []), (20, AI rp0_0 p0.l_.length), (21, Ai (p0.l_.length : Int)), (22, Ai x2)] ∧ HH g h' [.obj bp0 (.cells none 2 [AI rp0_0 p0.l_.length, Ai p0.Ba]), .AL rp0_0 142 (AL (eP AK) p0.l_)] F) ho ⟨_, _, rfl, H.ls, A⟩ ?_
  clear ho hm H A
  intro s q fr h1 hI hm
  obtain ⟨x1, x2, rfl, H, A⟩ := hI
  unfold Cd at hm
  refine AG 1 (AN 1 [(23, .bool (decide (x2 < (p0.l_.length : Int))))] H fun fr H => AQ (Ak 23 H hm (fun hb hm H => ?_) fun hb hm H => ?_))
  ·refine Be id (AQ ?_)
   obtain ⟨o2, ho, hm⟩ := bind_some hm
   refine BM (Q' := fun e fr' h' => (∃ x4, e = .normal ∧ x4 = o2 ∧ Has fr' 43 [(0, .ptr (some (bp0, 0))), (1, .str x4), (2, .func (.func 84) [] []), (20, AI rp0_0 p0.l_.length), (21, Ai (p0.l_.length : Int)), (22, Ai x2)] ∧ HH g h' [.obj bp0 (.cells none 2 [AI rp0_0 p0.l_.length, Ai p0.Ba]), .AL rp0_0 142 (AL (eP AK) p0.l_)] F) ∨ False) ?_ ?_
   ·replace hm := ho
    clear ho
    refine AX (id := 1) (by kernel_rfl) ?_
    refine AG 3 ?_
    obtain ⟨x5, hx, hm⟩ := bind_some hm
    obtain ⟨i1, er1, _, hx, hq1⟩ := HH.NP (P8 _) (by decide) A 1 (xs := p0.l_) rfl hx
    refine Az 24 (.ptr (some (i1, x2.toNat * 1))) h1 H (fun fr => .of (Fa (s := D2 rp0_0 p0.l_.length) (by kernel_rfl) hx)) fun fr t H => ?_
    refine Az 25 _ _ H (fun fr => .of (Dj (by kernel_rfl) (FU (P8 _) (HH.row A 1 rfl er1) hq1 (o := 0) rfl))) fun fr t H => ?_
    refine AN 1 [(9, .A7 (AK x5))] H fun fr H => AQ (AG 5 ?_)
    obtain ⟨x6, hx, hm⟩ := bind_some hm
    obtain ⟨v1, h2, hr, rfl, A1⟩ := F3 (av := [.A7 (AK x5)]) hx (A.cut 0)
    replace A := A.EV A1
    refine BH 2 [(26, .func (.func 84) [] [])] 28 hr H fun fr t H => ?_
    obtain ⟨x7, hx, hm⟩ := bind_some hm
    obtain ⟨v1, h3, hr, rfl, A1⟩ := OX (av := [.agg (AJ x6)]) hx (A.cut 0)
    replace A := A.EV A1
    refine Ay 29 hr H fun fr t H => ?_
    refine AN 1 [(30, .bool (!x7))] H fun fr H => Ak 30 H hm (fun hb hm H => ?_) fun hb hm H => ?_
    ·refine Bn (i := 1) (by kernel_rfl) ?_
     exact .inl ⟨_, rfl, Aa hm, H.ls, A⟩
    refine Cm 4 id ?_
    cases hm
   clear ho
   clear A
   intro e fr h4 hQ
   rcases hQ with ⟨x4, rfl, rfl, H, A⟩ | hF
   ·show AW _ _ _ _ _ _ _
    refine EW 2 (Bi 2 [(0, .ptr (some (bp0, 0))), (1, .str x4), (2, .func (.func 84) [] []), (20, AI rp0_0 p0.l_.length), (21, Ai (p0.l_.length : Int)), (22, Ai (IntKind.i64.wrap (x2 + 1)))] H fun fr H => at_nil ?_)
    exact nx hm ⟨_, _, rfl, H.ls, A⟩
   exact hF.elim
  refine Bn (i := 0) (by kernel_rfl) ?_
  exact nr hm fun e => .inl ⟨_, rfl, e, H.ls, A⟩
 clear ho
 clear A
 intro e fr h5 hQ
 rcases hQ with ⟨x3, rfl, rfl, H, A⟩ | hF
 ·show AW _ _ _ _ _ _ _
  refine AG 3 (AN 3 [(6, .str x3), (7, Ai 0)] H fun fr H => AS ?_)
  obtain ⟨rfl, rfl⟩ := DG hm
  exact ⟨.inl rfl, _, rH H, rfl, A⟩
 exact hF.elim
def Cx (p0 : List UInt8) (p1 : List UInt8) : Option (Bool) :=
 (Cq p0 (0 : Int)).bind fun x1 => (Ae (decide (x1 ≥ 0)) ((Cq p1 (0 : Int)).bind fun x3 => some (decide (x3 < 0))) (some false) : Option (Bool)).bind fun x2 => some x2
theorem Ec {p0 p1 q0} (hm : Cx p0 p1 = some q0) (A : HH g h [] F) (hc : BI (cfg.still 87) av = [.str p0, .str p1] := by kernel_rfl) : ∃ v h', BL cfg g h 87 av v h' ∧ v = .bool q0 ∧ HH g h' [] F := by
 refine D5 13 [.tmp 4] hc ?_
 clear hc
 unfold Cx at hm
 refine bg 13 [(0, .str p0), (1, .str p1)] fun fr H => ?_
 refine AG 1 (BT 1 [] 9 H fun fr H => ?_)
 obtain ⟨x1, hx, hm⟩ := bind_some hm
 obtain ⟨v1, h1, hr, rfl, A1⟩ := Fy (av := [.str p0, Ab 0]) hx (A.cut 0)
 replace A := A.EV A1
 refine BH 1 [] 6 hr H fun fr t H => ?_
 refine AF 2 [(8, .bool (decide (x1 ≥ 0)))] H fun fr H => ?_
 obtain ⟨x2, ho, hm⟩ := bind_some hm
 refine An 4 (fun fr' h' => Has fr' 13 [(12, .bool x2)] ∧ HH g h' [] F) ?_ ?_
 ·rcases AU ho with ⟨hb, hm⟩ | ⟨hb, hm⟩
  ·replace H := H.kn 8 hb
   obtain ⟨x3, hx, hm⟩ := bind_some hm
   obtain ⟨v1, h3, hr, rfl, A1⟩ := Fy (av := [.str p1, Ab 0]) hx (A.cut 0)
   replace A := A.EV A1
   refine BH 1 [] 10 hr H fun fr t H => ?_
   refine AF 2 [(12, .bool (decide (x3 < 0)))] H fun fr H => ?_
   obtain rfl := Aa hm
   exact at_nil ⟨H.ls, A⟩
  replace H := H.kn 8 hb
  refine AF 4 [(12, .bool false)] H fun fr H => ?_
  obtain rfl := Aa hm
  exact at_nil ⟨H.ls, A⟩
 clear A
 intro t fr h2 hK
 obtain ⟨H, A⟩ := hK
 refine AN 1 [(4, .bool x2)] H fun fr H => AS ?_
 obtain rfl := Aa hm
 exact ⟨.inl rfl, _, rH H, rfl, A⟩
def J8 (p0 : A0) : Option (Bool) :=
 some p0.UF
theorem O3 {p0 q0} (hm : J8 p0 = some q0) (A : HH g h [] F) (hc : BI (cfg.still 85) av = [.agg (AJ p0)] := by kernel_rfl) : ∃ v h', BL cfg g h 85 av v h' ∧ v = .bool q0 ∧ HH g h' [] F := by
 refine D5 5 [.tmp 2] hc ?_
 clear hc
 unfold J8 at hm
 refine bg 5 [(0, .agg (AJ p0))] fun fr H => ?_
 refine AG 2 ?_
 obtain ⟨h1, e1, A⟩ := A.pu (.cells none 2 (AJ p0))
 refine BC 1 (.ptr (some (h.size, 0))) e1 H fun fr t H => ?_
 refine BT 1 [] 3 H fun fr H => AR 1 [] 4 0 8 A H fun fr t H => ?_
 refine AN 1 [(2, .bool p0.UF)] H fun fr H => AS ?_
 obtain rfl := Aa hm
 refine ⟨.inl rfl, .bool p0.UF, rH H, ?_⟩
 replace A := A.d0
 exact ⟨rfl, A⟩
def Cg (p0 : CQ) (s : (List UInt8) × Int) : Option (((List UInt8) × Int) ⊕ (((List UInt8)))) :=
 match s with
 | (x1, x2) => Ae (decide (x2 < (p0.l_.length : Int))) (((HR p0.l_ x2).bind fun x5 => (D1 x5).bind fun x6 => (J8 x6).bind fun x7 => Ae (!x7) (some x1) (none) : Option (((List UInt8)))).bind fun x4 => some (.inl (x4, IntKind.i64.wrap (x2 + 1)))) (some (.inr x1))
def CV (p0 : CQ) (p1 : List UInt8) : Option ((List UInt8) × Int) :=
 Ae (decide ((p1.length : Int) > p0.Ba)) (some (([] : List UInt8), (7 : Int))) ((loop (Cg p0) (p1, (0 : Int))).bind fun x3 => some (x3, (0 : Int)))
theorem Hp {p0 p1 bp0 rp0_0 q0 q1} (hm : CV p0 p1 = some (q0, q1)) (A : HH g h [.obj bp0 (.cells none 2 [AI rp0_0 p0.l_.length, Ai p0.Ba]), .AL rp0_0 142 (AL (eP AK) p0.l_)] F) (hc : BI (cfg.still 86) av = [.ptr (some (bp0, 0)), .str p1, .func (.func 85) [] []] := by kernel_rfl) : ∃ v h', BL cfg g h 86 av v h' ∧ v = .tuple [.str q0, Ai q1] ∧ HH g h' [.obj bp0 (.cells none 2 [AI rp0_0 p0.l_.length, Ai p0.Ba]), .AL rp0_0 142 (AL (eP AK) p0.l_)] F := by
 refine D5 43 [.tmp 6, .tmp 7] hc ?_
 clear hc
 unfold CV at hm
 refine bg 43 [(0, .ptr (some (bp0, 0))), (1, .str p1), (2, .func (.func 85) [] [])] fun fr H => ?_
 refine AG 2 (AN 2 [] H fun fr H => AQ (AG 7 (AR 5 [(11, Ai (p1.length : Int))] 15 0 1 A H fun fr t H => ?_)))
 refine AN 1 [(16, .bool (decide ((p1.length : Int) > p0.Ba)))] H fun fr H => Ak 16 H hm (fun hb hm H => ?_) fun hb hm H => ?_
 ·refine AG 2 (AN 2 [(6, .str ([] : List UInt8)), (7, Ai 7)] H fun fr H => AS ?_)
  obtain ⟨rfl, rfl⟩ := DG hm
  exact ⟨.inl rfl, _, rH H, rfl, A⟩
 refine Be id (AQ (AG 6 (AR 3 [] 20 0 0 A H fun fr t H => ?_)))
 refine AN 2 [(21, Ai (p0.l_.length : Int)), (22, Ai 0)] H fun fr H => AX (id := 0) (by kernel_rfl) ?_
 obtain ⟨o1, ho, hm⟩ := bind_some hm
 refine BM (Q' := fun e fr' h' => (∃ x3, e = .exit 0 ∧ x3 = o1 ∧ Has fr' 43 [(1, .str x3)] ∧ HH g h' [.obj bp0 (.cells none 2 [AI rp0_0 p0.l_.length, Ai p0.Ba]), .AL rp0_0 142 (AL (eP AK) p0.l_)] F) ∨ False) ?_ ?_
 ·refine B8 (by kernel_rfl) (fun (s : (List UInt8) × Int) fr' h' => ∃ x1 x2, (x1, x2) = s ∧ Has fr' 43 [(0, .ptr (some (bp0, 0))), (1, .str x1), (2, .func (.func 85) [] []), (20, AI rp0_0 p0.l_.length), (21, Ai (p0.l_.length : Int)), (22, Ai x2)] ∧ HH g h' [.obj bp0 (.cells none 2 [AI rp0_0 p0.l_.length, Ai p0.Ba]), .AL rp0_0 142 (AL (eP AK) p0.l_)] F) ho ⟨_, _, rfl, H.ls, A⟩ ?_
  clear ho hm H A
  intro s q fr h1 hI hm
  obtain ⟨x1, x2, rfl, H, A⟩ := hI
  unfold Cg at hm
  refine AG 1 (AN 1 [(23, .bool (decide (x2 < (p0.l_.length : Int))))] H fun fr H => AQ (Ak 23 H hm (fun hb hm H => ?_) fun hb hm H => ?_))
  ·refine Be id (AQ ?_)
   obtain ⟨o2, ho, hm⟩ := bind_some hm
   refine BM (Q' := fun e fr' h' => (∃ x4, e = .normal ∧ x4 = o2 ∧ Has fr' 43 [(0, .ptr (some (bp0, 0))), (1, .str x4), (2, .func (.func 85) [] []), (20, AI rp0_0 p0.l_.length), (21, Ai (p0.l_.length : Int)), (22, Ai x2)] ∧ HH g h' [.obj bp0 (.cells none 2 [AI rp0_0 p0.l_.length, Ai p0.Ba]), .AL rp0_0 142 (AL (eP AK) p0.l_)] F) ∨ False) ?_ ?_
   ·replace hm := ho
    clear ho
    refine AX (id := 1) (by kernel_rfl) ?_
    refine AG 3 ?_
    obtain ⟨x5, hx, hm⟩ := bind_some hm
    obtain ⟨i1, er1, _, hx, hq1⟩ := HH.NP (P8 _) (by decide) A 1 (xs := p0.l_) rfl hx
    refine Az 24 (.ptr (some (i1, x2.toNat * 1))) h1 H (fun fr => .of (Fa (s := D2 rp0_0 p0.l_.length) (by kernel_rfl) hx)) fun fr t H => ?_
    refine Az 25 _ _ H (fun fr => .of (Dj (by kernel_rfl) (FU (P8 _) (HH.row A 1 rfl er1) hq1 (o := 0) rfl))) fun fr t H => ?_
    refine AN 1 [(9, .A7 (AK x5))] H fun fr H => AQ (AG 5 ?_)
    obtain ⟨x6, hx, hm⟩ := bind_some hm
    obtain ⟨v1, h2, hr, rfl, A1⟩ := F3 (av := [.A7 (AK x5)]) hx (A.cut 0)
    replace A := A.EV A1
    refine BH 2 [(26, .func (.func 85) [] [])] 28 hr H fun fr t H => ?_
    obtain ⟨x7, hx, hm⟩ := bind_some hm
    obtain ⟨v1, h3, hr, rfl, A1⟩ := O3 (av := [.agg (AJ x6)]) hx (A.cut 0)
    replace A := A.EV A1
    refine Ay 29 hr H fun fr t H => ?_
    refine AN 1 [(30, .bool (!x7))] H fun fr H => Ak 30 H hm (fun hb hm H => ?_) fun hb hm H => ?_
    ·refine Bn (i := 1) (by kernel_rfl) ?_
     exact .inl ⟨_, rfl, Aa hm, H.ls, A⟩
    refine Cm 4 id ?_
    cases hm
   clear ho
   clear A
   intro e fr h4 hQ
   rcases hQ with ⟨x4, rfl, rfl, H, A⟩ | hF
   ·show AW _ _ _ _ _ _ _
    refine EW 2 (Bi 2 [(0, .ptr (some (bp0, 0))), (1, .str x4), (2, .func (.func 85) [] []), (20, AI rp0_0 p0.l_.length), (21, Ai (p0.l_.length : Int)), (22, Ai (IntKind.i64.wrap (x2 + 1)))] H fun fr H => at_nil ?_)
    exact nx hm ⟨_, _, rfl, H.ls, A⟩
   exact hF.elim
  refine Bn (i := 0) (by kernel_rfl) ?_
  exact nr hm fun e => .inl ⟨_, rfl, e, H.ls, A⟩
 clear ho
 clear A
 intro e fr h5 hQ
 rcases hQ with ⟨x3, rfl, rfl, H, A⟩ | hF
 ·show AW _ _ _ _ _ _ _
  refine AG 3 (AN 3 [(6, .str x3), (7, Ai 0)] H fun fr H => AS ?_)
  obtain ⟨rfl, rfl⟩ := DG hm
  exact ⟨.inl rfl, _, rH H, rfl, A⟩
 exact hF.elim
def C6 (p1 : AV) : Option (AV × Int × Int) :=
 none
theorem Es {p1 q0 q1 q2} (hm : C6 p1 = some (q0, q1, q2)) (A : HH g h [] F) (hc : BI (cfg.still 15) av = [.ptr none, .agg (AD p1), .ptr none] := by kernel_rfl) : ∃ v h', BL cfg g h 15 av v h' ∧ v = .tuple [.agg (AD q0), Ai q1, Ai q2] ∧ HH g h' [] F := by
 refine Vz 83 [.cell 6 44, .tmp 7, .tmp 8] hc ?_
 clear hc
 unfold C6 at hm
 refine bg 83 [(0, .ptr none), (1, .agg (AD p1)), (2, .ptr none)] fun fr H => ?_
 refine AG 6 ?_
 obtain ⟨h1, e1, A⟩ := A.pu (.cells none 2 [.ptr none])
 refine BC 3 (.ptr (some (h.size, 0))) e1 H fun fr t H => ?_
 obtain ⟨h2, e2, A⟩ := A.pu (.cells none 2 (AD p1))
 refine BC 4 (.ptr (some (h1.size, 0))) e2 H fun fr t H => ?_
 obtain ⟨h3, e3, A⟩ := A.pu (.cells none 2 [.ptr none])
 refine BC 5 (.ptr (some (h2.size, 0))) e3 H fun fr t H => ?_
 obtain ⟨h4, e4, A⟩ := A.pu (.cells none 2 [.str ([] : List UInt8), .str ([] : List UInt8), Ab 0, Ai 0, Ai 0, Ai 0, .str ([] : List UInt8), .str ([] : List UInt8), Ai 0, Ai 0, Ai 0, Ai 0, .slice none 0, .str ([] : List UInt8)])
 refine BC 6 (.ptr (some (h3.size, 0))) e4 H fun fr t H => ?_
 refine BT 2 [] 2 H fun fr H => AN 2 [(9, .func (.func 39) [] [.ptr (some (h2.size, 0)), .ptr (some (h.size, 0))])] H fun fr H => AQ (AG 12 (Eu 18 3 0 A H fun fr t H => ?_))
 refine AR 2 [(19, .func (.func 40) [.ptr none] []), (20, .func (.func 39) [] [.ptr (some (h2.size, 0)), .ptr (some (h.size, 0))])] 21 3 0 A H fun fr t H => ?_
 refine AR 1 [(22, .func (.func 41) [.ptr none] [])] 23 3 0 A H fun fr t H => ?_
 refine AR 1 [(24, .func (.func 42) [.ptr none] [])] 25 3 0 A H fun fr t H => ?_
 refine AF 1 [(26, .func (.func 43) [.ptr none] [])] H fun fr H => ?_
 obtain ⟨h5, e5⟩ : ∃ x, x = h4.push (.cells (some 48) 2 [.func (.func 40) [.ptr none] [], .func (.func 39) [] [.ptr (some (h2.size, 0)), .ptr (some (h.size, 0))], .func (.func 41) [.ptr none] [], .func (.func 42) [.ptr none] [], .func (.func 43) [.ptr none] []]) := ⟨_, rfl⟩
 replace A : HH g h5 [.obj h4.size (.cells (some 48) 2 [.func (.func 40) [.ptr none] [], .func (.func 39) [] [.ptr (some (h2.size, 0)), .ptr (some (h.size, 0))], .func (.func 41) [.ptr none] [], .func (.func 42) [.ptr none] [], .func (.func 43) [.ptr none] []]), .obj h3.size (.cells none 2 [.str ([] : List UInt8), .str ([] : List UInt8), Ab 0, Ai 0, Ai 0, Ai 0, .str ([] : List UInt8), .str ([] : List UInt8), Ai 0, Ai 0, Ai 0, Ai 0, .slice none 0, .str ([] : List UInt8)]), .obj h2.size (.cells none 2 [.ptr none]), .obj h1.size (.cells none 2 (AD p1)), .obj h.size (.cells none 2 [.ptr none])] F := (A.push _).to e5
 refine BC 27 (.slice (some (h4.size, 0)) 5) e5 H fun fr t H => ?_
 refine AN 2 [(28, Ai 5), (29, Ai 0)] H fun fr H => AX (id := 0) (by kernel_rfl) ?_
 refine Dn (by kernel_rfl) ?_
 refine AG 1 (AN 1 [(30, .bool true)] H fun fr H => AQ (Dd (x := .tmp 30) (by kernel_rfl) H (fun fr => by kernel_rfl) ?_))
 refine Be id (AQ (AX (id := 1) (by kernel_rfl) ?_))
 refine AG 3 (AR 1 [] 32 0 0 A H fun fr t H => ?_)
 refine BT 1 [(11, .func (.func 40) [.ptr none] [])] 4 H fun fr H => As 1 [(33, .func (.func 40) [.ptr none] [])] 34 _ _ H (fun fr => .of (Bs (by kernel_rfl) (A.GA 3 rfl (o := 0) (n := 14) ⟨Nat.le_of_ble_eq_true rfl, rfl⟩))) fun fr t H => ?_
 cases hm
def Ci (p0 : List UInt8) (s : Int) : Option ((Int) ⊕ ((Int))) :=
 match s with
 | x1 => (Ae (decide (x1 < (p0.length : Int))) ((Nb p0 x1).bind fun x4 => some (x4 != 0)) (some false) : Option (Bool)).bind fun x3 => Ae x3 (some (.inl (IntKind.i64.wrap (x1 + 1)))) (some (.inr x1))
def CS (p0 : List UInt8) : Option ((List UInt8)) :=
 (loop (Ci p0) (0 : Int)).bind fun x2 => (LP p0 none (some x2)).bind fun x5 => some x5
theorem Ed {p0 q0} (hm : CS p0 = some q0) (A : HH g h [] F) (hc : BI (cfg.still 36) av = [.str p0] := by kernel_rfl) : ∃ v h', BL cfg g h 36 av v h' ∧ v = .str q0 ∧ HH g h' [] F := by
 refine D5 19 [.tmp 2] hc ?_
 clear hc
 unfold CS at hm
 refine bg 19 [(0, .str p0)] fun fr H => ?_
 refine AG 1 (BT 1 [] 1 H fun fr H => AN 1 [(3, Ai 0)] H fun fr H => AQ (AX (id := 0) (by kernel_rfl) ?_))
 obtain ⟨o1, ho, hm⟩ := bind_some hm
 refine BM (Q' := fun e fr' h' => (∃ x2, e = .exit 0 ∧ x2 = o1 ∧ Has fr' 19 [(0, .str p0), (3, Ai x2)] ∧ HH g h' [] F) ∨ False) ?_ ?_
 ·refine B8 (by kernel_rfl) (fun (s : Int) fr' h' => ∃ x1, x1 = s ∧ Has fr' 19 [(0, .str p0), (3, Ai x1)] ∧ HH g h' [] F) ho ⟨_, rfl, H.ls, A⟩ ?_
  clear ho hm H A
  intro s q fr h1 hI hm
  obtain ⟨x1, rfl, H, A⟩ := hI
  unfold Ci at hm
  refine AQ (AG 10 (AF 5 [(8, .bool (decide (x1 < (p0.length : Int))))] H fun fr H => ?_))
  obtain ⟨x3, ho, hm⟩ := bind_some hm
  refine An 5 (fun fr' h' => Has fr' 19 [(0, .str p0), (3, Ai x1), (13, .bool x3)] ∧ HH g h' [] F) ?_ ?_
  ·rcases AU ho with ⟨hb, hm⟩ | ⟨hb, hm⟩
   ·replace H := H.kn 8 hb
    obtain ⟨x4, hx, hm⟩ := bind_some hm
    refine As 2 [] 11 (Ab x4) h1 H (fun fr => .of (G4 (by kernel_rfl) hx)) fun fr t H => ?_
    refine AF 2 [(13, .bool (x4 != 0))] H fun fr H => ?_
    obtain rfl := Aa hm
    exact at_nil ⟨H.ls, A⟩
   replace H := H.kn 8 hb
   refine AF 5 [(13, .bool false)] H fun fr H => ?_
   obtain rfl := Aa hm
   exact at_nil ⟨H.ls, A⟩
  clear A
  intro t fr h2 hK
  obtain ⟨H, A⟩ := hK
  refine BB id (Ak 13 H hm (fun hb hm H => ?_) fun hb hm H => ?_)
  ·refine Be id (AX (id := 1) (by kernel_rfl) ?_)
   refine EW 3 (Bi 3 [(0, .str p0), (3, Ai (IntKind.i64.wrap (x1 + 1)))] H fun fr H => at_nil ?_)
   exact nx hm ⟨_, rfl, H.ls, A⟩
  refine Bn (i := 0) (by kernel_rfl) ?_
  exact nr hm fun e => .inl ⟨_, rfl, e, H.ls, A⟩
 clear ho
 clear A
 intro e fr h3 hQ
 rcases hQ with ⟨x2, rfl, rfl, H, A⟩ | hF
 ·show AW _ _ _ _ _ _ _
  refine AG 4 ?_
  obtain ⟨x5, hx, hm⟩ := bind_some hm
  refine As 2 [] 18 (.str x5) h3 H (fun fr => .of (JN (k := .i64) (k' := .i64) (lo := none) (hi := (some x2)) (by kernel_rfl) hx)) fun fr t H => ?_
  refine AN 1 [(2, .str x5)] H fun fr H => AS ?_
  obtain rfl := Aa hm
  exact ⟨.inl rfl, _, rH H, rfl, A⟩
 exact hF.elim
def C5 (p0 : Am) (s : Int) : Option ((Int) ⊕ ((Unit) ⊕ (Bool))) :=
 match s with
 | x1 => Ae (decide (x1 < (p0.Key.length : Int))) ((Nb p0.Key x1).bind fun x3 => Ae (x3 == 61) (some (.inr (.inr false))) (some (.inl (IntKind.i64.wrap (x1 + 1))))) (some (.inr (.inl ())))
def Df (p0 : Am) : Option (Bool) :=
 (loop (C5 p0) (0 : Int)).bind fun o1 => (match o1 with | .inl _ => some (!(p0.Key == ([] : List UInt8))) | .inr x2 => some x2)
theorem KO {p0 q0} (hm : Df p0 = some q0) (A : HH g h [] F) (hc : BI (cfg.still 37) av = [.agg [.str p0.Key, .str p0.Value]] := by kernel_rfl) : ∃ v h', BL cfg g h 37 av v h' ∧ v = .bool q0 ∧ HH g h' [] F := by
 refine D5 19 [.tmp 2] hc ?_
 clear hc
 unfold Df at hm
 refine bg 19 [(0, .agg [.str p0.Key, .str p0.Value])] fun fr H => ?_
 refine AG 2 ?_
 obtain ⟨h1, e1, A⟩ := A.pu (.cells none 2 [.str p0.Key, .str p0.Value])
 refine BC 1 (.ptr (some (h.size, 0))) e1 H fun fr t H => ?_
 refine AN 1 [] H fun fr H => AQ (AG 1 (AN 1 [(3, Ai 0)] H fun fr H => AX (id := 0) (by kernel_rfl) ?_))
 obtain ⟨o1, ho, hm⟩ := bind_some hm
 refine BM (Q' := fun e fr' h' => (e = .exit 0 ∧ .inl () = o1 ∧ Has fr' 19 [(1, .ptr (some (h.size, 0)))] ∧ HH g h' [.obj h.size (.cells none 2 [.str p0.Key, .str p0.Value])] F) ∨ (∃ x2, e = .ret ∧ .inr x2 = o1 ∧ Has fr' 19 [(2, .bool x2)] ∧ HH g h' [.obj h.size (.cells none 2 [.str p0.Key, .str p0.Value])] F) ∨ False) ?_ ?_
 ·refine B8 (by kernel_rfl) (fun (s : Int) fr' h' => ∃ x1, x1 = s ∧ Has fr' 19 [(1, .ptr (some (h.size, 0))), (3, Ai x1)] ∧ HH g h' [.obj h.size (.cells none 2 [.str p0.Key, .str p0.Value])] F) ho ⟨_, rfl, H.ls, A⟩ ?_
  clear ho hm H A
  intro s q fr h2 hI hm
  obtain ⟨x1, rfl, H, A⟩ := hI
  unfold C5 at hm
  refine AQ (AG 5 (AR 2 [(4, Ai x1)] 6 0 0 A H fun fr t H => ?_))
  refine AN 2 [(8, .bool (decide (x1 < (p0.Key.length : Int))))] H fun fr H => Ak 8 H hm (fun hb hm H => ?_) fun hb hm H => ?_
  ·refine Be id (AQ (AX (id := 1) (by kernel_rfl) ?_))
   refine AG 5 (AR 1 [] 12 0 0 A H fun fr t H => ?_)
   obtain ⟨x3, hx, hm⟩ := bind_some hm
   refine As 1 [] 14 (Ab x3) h2 H (fun fr => .of (G4 (by kernel_rfl) hx)) fun fr t H => ?_
   refine AN 1 [(15, .bool (x3 == 61))] H fun fr H => Ak 15 H hm (fun hb hm H => ?_) fun hb hm H => ?_
   ·refine AG 1 (AN 1 [(2, .bool false)] H fun fr H => AS ?_)
    exact nr hm fun e => Or.inr (.inl ⟨_, rfl, e, H.ls, A⟩)
   refine FH 3 id (Bi 3 [(1, .ptr (some (h.size, 0))), (3, Ai (IntKind.i64.wrap (x1 + 1)))] H fun fr H => at_nil ?_)
   exact nx hm ⟨_, rfl, H.ls, A⟩
  refine Bn (i := 0) (by kernel_rfl) ?_
  exact nr hm fun e => .inl ⟨rfl, e, H.ls, A⟩
 clear ho
 clear A
 intro e fr h3 hQ
 rcases hQ with ⟨rfl, rfl, H, A⟩ | ⟨x2, rfl, rfl, H, A⟩ | hF
 ·show AW _ _ _ _ _ _ _
  refine AG 4 (AR 1 [] 17 0 0 A H fun fr t H => ?_)
  refine AN 2 [(2, .bool (!(p0.Key == ([] : List UInt8))))] H fun fr H => AS ?_
  obtain rfl := Aa hm
  refine ⟨.inl rfl, .bool (!(p0.Key == ([] : List UInt8))), rH H, ?_⟩
  replace A := A.d0
  exact ⟨rfl, A⟩
 ·obtain rfl := Aa hm
  refine ⟨.inl rfl, .bool x2, rH H, ?_⟩
  replace A := A.d0
  exact ⟨rfl, A⟩
 exact hF.elim
def Ee (p0 : List UInt8) : Option (Bool) :=
 some ((((((((p0 == ([103, 105, 100] : List UInt8)) || (p0 == ([103, 110, 97, 109, 101] : List UInt8))) || (p0 == ([108, 105, 110, 107, 112, 97, 116, 104] : List UInt8))) || (p0 == ([109, 116, 105, 109, 101] : List UInt8))) || (p0 == ([112, 97, 116, 104] : List UInt8))) || (p0 == ([115, 105, 122, 101] : List UInt8))) || (p0 == ([117, 105, 100] : List UInt8))) || (p0 == ([117, 110, 97, 109, 101] : List UInt8)))
theorem KN {p0 q0} (hm : Ee p0 = some q0) (A : HH g h [] F) (hc : BI (cfg.still 38) av = [.str p0] := by kernel_rfl) : ∃ v h', BL cfg g h 38 av v h' ∧ v = .bool q0 ∧ HH g h' [] F := by
 refine D5 33 [.tmp 2] hc ?_
 clear hc
 unfold Ee at hm
 refine bg 33 [(0, .str p0)] fun fr H => ?_
 refine AG 1 (BT 1 [] 31 H fun fr H => AF 3 [(5, .bool (p0 == ([103, 105, 100] : List UInt8)))] H fun fr H => An 3 (fun fr' h' => h = h' ∧ Has fr' 33 [(0, .str p0), (8, .bool ((p0 == ([103, 105, 100] : List UInt8)) || (p0 == ([103, 110, 97, 109, 101] : List UInt8))))]) ?_ ?_)
 ·cases hb : (p0 == ([103, 105, 100] : List UInt8) : Bool) with
  | true =>
   replace H := H.kn 5 hb
   exact AF 3 [(8, .bool true)] H fun fr H => AY H hb
  | false =>
   replace H := H.kn 5 hb
   exact AF 3 [(8, .bool (p0 == ([103, 110, 97, 109, 101] : List UInt8)))] H fun fr H => AY H hb
 intro t fr h' hK
 obtain ⟨e, H⟩ := hK
 subst e
 refine AF 1 [(9, .bool ((p0 == ([103, 105, 100] : List UInt8)) || (p0 == ([103, 110, 97, 109, 101] : List UInt8))))] H fun fr H => An 3 (fun fr' h' => h = h' ∧ Has fr' 33 [(0, .str p0), (12, .bool (((p0 == ([103, 105, 100] : List UInt8)) || (p0 == ([103, 110, 97, 109, 101] : List UInt8))) || (p0 == ([108, 105, 110, 107, 112, 97, 116, 104] : List UInt8))))]) ?_ ?_
 ·cases hb : ((p0 == ([103, 105, 100] : List UInt8)) || (p0 == ([103, 110, 97, 109, 101] : List UInt8)) : Bool) with
  | true =>
   replace H := H.kn 9 hb
   exact AF 3 [(12, .bool true)] H fun fr H => AY H hb
  | false =>
   replace H := H.kn 9 hb
   exact AF 3 [(12, .bool (p0 == ([108, 105, 110, 107, 112, 97, 116, 104] : List UInt8)))] H fun fr H => AY H hb
 intro t fr h' hK
 obtain ⟨e, H⟩ := hK
 subst e
 refine AF 1 [(13, .bool (((p0 == ([103, 105, 100] : List UInt8)) || (p0 == ([103, 110, 97, 109, 101] : List UInt8))) || (p0 == ([108, 105, 110, 107, 112, 97, 116, 104] : List UInt8))))] H fun fr H => An 3 (fun fr' h' => h = h' ∧ Has fr' 33 [(0, .str p0), (16, .bool ((((p0 == ([103, 105, 100] : List UInt8)) || (p0 == ([103, 110, 97, 109, 101] : List UInt8))) || (p0 == ([108, 105, 110, 107, 112, 97, 116, 104] : List UInt8))) || (p0 == ([109, 116, 105, 109, 101] : List UInt8))))]) ?_ ?_
 ·cases hb : (((p0 == ([103, 105, 100] : List UInt8)) || (p0 == ([103, 110, 97, 109, 101] : List UInt8))) || (p0 == ([108, 105, 110, 107, 112, 97, 116, 104] : List UInt8)) : Bool) with
  | true =>
   replace H := H.kn 13 hb
   exact AF 3 [(16, .bool true)] H fun fr H => AY H hb
  | false =>
   replace H := H.kn 13 hb
   exact AF 3 [(16, .bool (p0 == ([109, 116, 105, 109, 101] : List UInt8)))] H fun fr H => AY H hb
 intro t fr h' hK
 obtain ⟨e, H⟩ := hK
 subst e
 refine AF 1 [(17, .bool ((((p0 == ([103, 105, 100] : List UInt8)) || (p0 == ([103, 110, 97, 109, 101] : List UInt8))) || (p0 == ([108, 105, 110, 107, 112, 97, 116, 104] : List UInt8))) || (p0 == ([109, 116, 105, 109, 101] : List UInt8))))] H fun fr H => An 3 (fun fr' h' => h = h' ∧ Has fr' 33 [(0, .str p0), (20, .bool (((((p0 == ([103, 105, 100] : List UInt8)) || (p0 == ([103, 110, 97, 109, 101] : List UInt8))) || (p0 == ([108, 105, 110, 107, 112, 97, 116, 104] : List UInt8))) || (p0 == ([109, 116, 105, 109, 101] : List UInt8))) || (p0 == ([112, 97, 116, 104] : List UInt8))))]) ?_ ?_
 ·cases hb : ((((p0 == ([103, 105, 100] : List UInt8)) || (p0 == ([103, 110, 97, 109, 101] : List UInt8))) || (p0 == ([108, 105, 110, 107, 112, 97, 116, 104] : List UInt8))) || (p0 == ([109, 116, 105, 109, 101] : List UInt8)) : Bool) with
  | true =>
   replace H := H.kn 17 hb
   exact AF 3 [(20, .bool true)] H fun fr H => AY H hb
  | false =>
   replace H := H.kn 17 hb
   exact AF 3 [(20, .bool (p0 == ([112, 97, 116, 104] : List UInt8)))] H fun fr H => AY H hb
 intro t fr h' hK
 obtain ⟨e, H⟩ := hK
 subst e
 refine AF 1 [(21, .bool (((((p0 == ([103, 105, 100] : List UInt8)) || (p0 == ([103, 110, 97, 109, 101] : List UInt8))) || (p0 == ([108, 105, 110, 107, 112, 97, 116, 104] : List UInt8))) || (p0 == ([109, 116, 105, 109, 101] : List UInt8))) || (p0 == ([112, 97, 116, 104] : List UInt8))))] H fun fr H => An 3 (fun fr' h' => h = h' ∧ Has fr' 33 [(0, .str p0), (24, .bool ((((((p0 == ([103, 105, 100] : List UInt8)) || (p0 == ([103, 110, 97, 109, 101] : List UInt8))) || (p0 == ([108, 105, 110, 107, 112, 97, 116, 104] : List UInt8))) || (p0 == ([109, 116, 105, 109, 101] : List UInt8))) || (p0 == ([112, 97, 116, 104] : List UInt8))) || (p0 == ([115, 105, 122, 101] : List UInt8))))]) ?_ ?_
 ·cases hb : (((((p0 == ([103, 105, 100] : List UInt8)) || (p0 == ([103, 110, 97, 109, 101] : List UInt8))) || (p0 == ([108, 105, 110, 107, 112, 97, 116, 104] : List UInt8))) || (p0 == ([109, 116, 105, 109, 101] : List UInt8))) || (p0 == ([112, 97, 116, 104] : List UInt8)) : Bool) with
  | true =>
   replace H := H.kn 21 hb
   exact AF 3 [(24, .bool true)] H fun fr H => AY H hb
  | false =>
   replace H := H.kn 21 hb
   exact AF 3 [(24, .bool (p0 == ([115, 105, 122, 101] : List UInt8)))] H fun fr H => AY H hb
 intro t fr h' hK
 obtain ⟨e, H⟩ := hK
 subst e
 refine AF 1 [(25, .bool ((((((p0 == ([103, 105, 100] : List UInt8)) || (p0 == ([103, 110, 97, 109, 101] : List UInt8))) || (p0 == ([108, 105, 110, 107, 112, 97, 116, 104] : List UInt8))) || (p0 == ([109, 116, 105, 109, 101] : List UInt8))) || (p0 == ([112, 97, 116, 104] : List UInt8))) || (p0 == ([115, 105, 122, 101] : List UInt8))))] H fun fr H => An 3 (fun fr' h' => h = h' ∧ Has fr' 33 [(0, .str p0), (28, .bool (((((((p0 == ([103, 105, 100] : List UInt8)) || (p0 == ([103, 110, 97, 109, 101] : List UInt8))) || (p0 == ([108, 105, 110, 107, 112, 97, 116, 104] : List UInt8))) || (p0 == ([109, 116, 105, 109, 101] : List UInt8))) || (p0 == ([112, 97, 116, 104] : List UInt8))) || (p0 == ([115, 105, 122, 101] : List UInt8))) || (p0 == ([117, 105, 100] : List UInt8))))]) ?_ ?_
 ·cases hb : ((((((p0 == ([103, 105, 100] : List UInt8)) || (p0 == ([103, 110, 97, 109, 101] : List UInt8))) || (p0 == ([108, 105, 110, 107, 112, 97, 116, 104] : List UInt8))) || (p0 == ([109, 116, 105, 109, 101] : List UInt8))) || (p0 == ([112, 97, 116, 104] : List UInt8))) || (p0 == ([115, 105, 122, 101] : List UInt8)) : Bool) with
  | true =>
   replace H := H.kn 25 hb
   exact AF 3 [(28, .bool true)] H fun fr H => AY H hb
  | false =>
   replace H := H.kn 25 hb
   exact AF 3 [(28, .bool (p0 == ([117, 105, 100] : List UInt8)))] H fun fr H => AY H hb
 intro t fr h' hK
 obtain ⟨e, H⟩ := hK
 subst e
 refine AF 1 [(29, .bool (((((((p0 == ([103, 105, 100] : List UInt8)) || (p0 == ([103, 110, 97, 109, 101] : List UInt8))) || (p0 == ([108, 105, 110, 107, 112, 97, 116, 104] : List UInt8))) || (p0 == ([109, 116, 105, 109, 101] : List UInt8))) || (p0 == ([112, 97, 116, 104] : List UInt8))) || (p0 == ([115, 105, 122, 101] : List UInt8))) || (p0 == ([117, 105, 100] : List UInt8))))] H fun fr H => An 3 (fun fr' h' => h = h' ∧ Has fr' 33 [(32, .bool ((((((((p0 == ([103, 105, 100] : List UInt8)) || (p0 == ([103, 110, 97, 109, 101] : List UInt8))) || (p0 == ([108, 105, 110, 107, 112, 97, 116, 104] : List UInt8))) || (p0 == ([109, 116, 105, 109, 101] : List UInt8))) || (p0 == ([112, 97, 116, 104] : List UInt8))) || (p0 == ([115, 105, 122, 101] : List UInt8))) || (p0 == ([117, 105, 100] : List UInt8))) || (p0 == ([117, 110, 97, 109, 101] : List UInt8))))]) ?_ ?_
 ·cases hb : (((((((p0 == ([103, 105, 100] : List UInt8)) || (p0 == ([103, 110, 97, 109, 101] : List UInt8))) || (p0 == ([108, 105, 110, 107, 112, 97, 116, 104] : List UInt8))) || (p0 == ([109, 116, 105, 109, 101] : List UInt8))) || (p0 == ([112, 97, 116, 104] : List UInt8))) || (p0 == ([115, 105, 122, 101] : List UInt8))) || (p0 == ([117, 105, 100] : List UInt8)) : Bool) with
  | true =>
   replace H := H.kn 29 hb
   exact AF 3 [(32, .bool true)] H fun fr H => AY H hb
  | false =>
   replace H := H.kn 29 hb
   exact AF 3 [(32, .bool (p0 == ([117, 110, 97, 109, 101] : List UInt8)))] H fun fr H => AY H hb
 intro t fr h' hK
 obtain ⟨e, H⟩ := hK
 subst e
 refine AN 1 [(2, .bool ((((((((p0 == ([103, 105, 100] : List UInt8)) || (p0 == ([103, 110, 97, 109, 101] : List UInt8))) || (p0 == ([108, 105, 110, 107, 112, 97, 116, 104] : List UInt8))) || (p0 == ([109, 116, 105, 109, 101] : List UInt8))) || (p0 == ([112, 97, 116, 104] : List UInt8))) || (p0 == ([115, 105, 122, 101] : List UInt8))) || (p0 == ([117, 105, 100] : List UInt8))) || (p0 == ([117, 110, 97, 109, 101] : List UInt8))))] H fun fr H => AS ?_
 obtain rfl := Aa hm
 exact ⟨.inl rfl, _, rH H, rfl, A⟩
def Ek (p0 : Int) (p1 : Int) : Option (Bool) :=
 some ((((decide (p0 ≥ (-9007199254740991))) && (decide (p0 ≤ 9007199254740991))) && (decide (p1 ≥ 0))) && (decide (p1 ≤ 999999999)))
theorem KK {p0 p1 q0} (hm : Ek p0 p1 = some q0) (A : HH g h [] F) (hc : BI (cfg.still 10) av = [Ai p0, Ai p1] := by kernel_rfl) : ∃ v h', BL cfg g h 10 av v h' ∧ v = .bool q0 ∧ HH g h' [] F := by
 refine D5 19 [.tmp 4] hc ?_
 clear hc
 unfold Ek at hm
 refine bg 19 [(0, Ai p0), (1, Ai p1)] fun fr H => ?_
 refine AG 1 (BT 1 [] 15 H fun fr H => AF 3 [(7, .bool (decide (p0 ≥ (-9007199254740991))))] H fun fr H => An 3 (fun fr' h' => h = h' ∧ Has fr' 19 [(1, Ai p1), (10, .bool ((decide (p0 ≥ (-9007199254740991))) && (decide (p0 ≤ 9007199254740991))))]) ?_ ?_)
 ·cases hb : (decide (p0 ≥ (-9007199254740991)) : Bool) with
  | true =>
   replace H := H.kn 7 hb
   exact AF 3 [(10, .bool (decide (p0 ≤ 9007199254740991)))] H fun fr H => AY H hb
  | false =>
   replace H := H.kn 7 hb
   exact AF 3 [(10, .bool false)] H fun fr H => AY H hb
 intro t fr h' hK
 obtain ⟨e, H⟩ := hK
 subst e
 refine AF 1 [(11, .bool ((decide (p0 ≥ (-9007199254740991))) && (decide (p0 ≤ 9007199254740991))))] H fun fr H => An 3 (fun fr' h' => h = h' ∧ Has fr' 19 [(1, Ai p1), (14, .bool (((decide (p0 ≥ (-9007199254740991))) && (decide (p0 ≤ 9007199254740991))) && (decide (p1 ≥ 0))))]) ?_ ?_
 ·cases hb : ((decide (p0 ≥ (-9007199254740991))) && (decide (p0 ≤ 9007199254740991)) : Bool) with
  | true =>
   replace H := H.kn 11 hb
   exact AF 3 [(14, .bool (decide (p1 ≥ 0)))] H fun fr H => AY H hb
  | false =>
   replace H := H.kn 11 hb
   exact AF 3 [(14, .bool false)] H fun fr H => AY H hb
 intro t fr h' hK
 obtain ⟨e, H⟩ := hK
 subst e
 refine AF 1 [(15, .bool (((decide (p0 ≥ (-9007199254740991))) && (decide (p0 ≤ 9007199254740991))) && (decide (p1 ≥ 0))))] H fun fr H => An 3 (fun fr' h' => h = h' ∧ Has fr' 19 [(18, .bool ((((decide (p0 ≥ (-9007199254740991))) && (decide (p0 ≤ 9007199254740991))) && (decide (p1 ≥ 0))) && (decide (p1 ≤ 999999999))))]) ?_ ?_
 ·cases hb : (((decide (p0 ≥ (-9007199254740991))) && (decide (p0 ≤ 9007199254740991))) && (decide (p1 ≥ 0)) : Bool) with
  | true =>
   replace H := H.kn 15 hb
   exact AF 3 [(18, .bool (decide (p1 ≤ 999999999)))] H fun fr H => AY H hb
  | false =>
   replace H := H.kn 15 hb
   exact AF 3 [(18, .bool false)] H fun fr H => AY H hb
 intro t fr h' hK
 obtain ⟨e, H⟩ := hK
 subst e
 refine AN 1 [(4, .bool ((((decide (p0 ≥ (-9007199254740991))) && (decide (p0 ≤ 9007199254740991))) && (decide (p1 ≥ 0))) && (decide (p1 ≤ 999999999))))] H fun fr H => AS ?_
 obtain rfl := Aa hm
 exact ⟨.inl rfl, _, rH H, rfl, A⟩
def Gw : Option (Bw) :=
 some (⟨([] : List ((List UInt8) × Bool))⟩ : Bw)
theorem NS {q00} (hm : Gw = some q00) (A : HH g h [] F) (hc : BI (cfg.still 46) av = [] := by kernel_rfl) : ∃ v h', BL cfg g h 46 av v h' ∧ ∃ (bq00 : Nat) (bq00_0 : Nat), v = .ptr (some (bq00, 0)) ∧ HH g h' [.obj bq00 (.cells none 2 [.map (some bq00_0)]), .obj bq00_0 (.map 2 (BR (fun k : List UInt8 => .str k) (fun v : Bool => .bool v) q00.DT))] F := by
 refine D5 4 [.tmp 0] hc ?_
 clear hc
 unfold Gw at hm
 refine bg 4 [] fun fr H => ?_
 refine AG 1 (BT 1 [] 4 H fun fr H => ?_)
 obtain ⟨h1, e1⟩ : ∃ x, x = h.push (.map 2 []) := ⟨_, rfl⟩
 replace A : HH g h1 [.obj h.size (.map 2 (BR (fun k : List UInt8 => .str k) (fun v : Bool => .bool v) ([] : List ((List UInt8) × Bool))))] F := (A.push _).to e1
 refine BC 1 (.map (some h.size)) e1 H fun fr t H => ?_
 obtain ⟨h2, e2, A⟩ := A.pu (.cells none 2 [.map (some h.size)])
 refine Gy 1 [] 3 (.ptr (some (h1.size, 0))) e2 H fun fr t H => ?_
 refine AN 1 [(0, .ptr (some (h1.size, 0)))] H fun fr H => AS ?_
 obtain rfl := Aa hm
 exact ⟨.inl rfl, _, rH H, _, _, rfl, A⟩
end
end Go.Av.L
