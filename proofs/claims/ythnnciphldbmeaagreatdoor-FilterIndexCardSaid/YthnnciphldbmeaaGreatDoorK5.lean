/-
 Models of functions, and that the abstract run tells them. Written by lift2.py.
-/
import Derived.Test.YthnnciphldbmeaaGreatDoorKCfg
import Derived.Test.YthnnciphldbmeaaGreatDoorK0
import Derived.Test.YthnnciphldbmeaaGreatDoorK1
import Derived.Test.YthnnciphldbmeaaGreatDoorK2
import Derived.Test.YthnnciphldbmeaaGreatDoorK3
import Derived.Test.YthnnciphldbmeaaGreatDoorK4
namespace Go.Av.L
open Go.Av Go.Lib
set_option maxRecDepth 10000
set_option maxHeartbeats 4000000
set_option linter.unusedVariables false
set_option linter.unusedSimpArgs false
variable {g : Gd} {h : AH} {F : List Ck} {av : List AA}
noncomputable section
def KW (p0 : Ar) (p1 : Ar) : Option (Bool) :=
 (LP p0 p1).bind fun x1 => some (decide (x1 ≥ 0))
theorem Px {p0 p1 q0} (hm : KW p0 p1 = some q0) (A : HH g h [] F) (hc : BF (cfg.still 79) av = [.agg [Ai p0.DF, Ai p0.Bn], .agg [Ai p1.DF, Ai p1.Bn]] := by kernel_rfl) : ∃ v h', BL cfg g h 79 av v h' ∧ v = .bool q0 ∧ HH g h' [] F := by
 refine Dr 9 [.tmp 4] hc ?_
 clear hc
 unfold KW at hm
 refine bg 9 [(0, .agg [Ai p0.DF, Ai p0.Bn]), (1, .agg [Ai p1.DF, Ai p1.Bn])] fun fr H => ?_
 refine AG 3 ?_
 obtain ⟨h1, e1, A⟩ := A.pu (.cells none 2 [Ai p0.DF, Ai p0.Bn])
 refine BB 2 (.ptr (some (h.size, 0))) e1 H fun fr t H => ?_
 obtain ⟨h2, e2, A⟩ := A.pu (.cells none 2 [Ai p1.DF, Ai p1.Bn])
 refine BB 3 (.ptr (some (h1.size, 0))) e2 H fun fr t H => ?_
 refine Bc 1 [] 5 H fun fr H => Aq 5 _ _ H (fun fr => .of (CG (by kernel_rfl) (A.HG 1 rfl (o := 0) (n := 2) ⟨Nat.le_of_ble_eq_true rfl, rfl⟩))) fun fr t H => ?_
 refine Aq 6 _ _ H (fun fr => .of (CG (by kernel_rfl) (A.HG 0 rfl (o := 0) (n := 2) ⟨Nat.le_of_ble_eq_true rfl, rfl⟩))) fun fr t H => ?_
 obtain ⟨x1, hx, hm⟩ := bind_some hm
 obtain ⟨v1, h3, hr, rfl, A1⟩ := RR (av := [.agg [Ai p0.DF, Ai p0.Bn], .agg [Ai p1.DF, Ai p1.Bn]]) hx (A.cut 0)
 replace A : HH g h3 [.obj h1.size (.cells none 2 [Ai p1.DF, Ai p1.Bn]), .obj h.size (.cells none 2 [Ai p0.DF, Ai p0.Bn])] F := A.CY (n := 0) A1
 refine BA 7 hr H fun fr t H => ?_
 refine AO 2 [(4, .bool (decide (x1 ≥ 0)))] H fun fr H => AU ?_
 obtain rfl := AY hm
 refine ⟨.inl rfl, .bool (decide (x1 ≥ 0)), rH H, ?_⟩
 replace A := A.d0
 exact ⟨rfl, A⟩
def D7 (p0 : Bw) (p1 : AN) : Option (Int) :=
 (Aa (p0.c_.CR && (p1.Kind != 53)) ((KW p1.Time p0.c_.BK).bind fun x2 => some (!x2)) (some false) : Option (Bool)).bind fun x1 => Aa x1 (some (5 : Int)) (some (0 : Int))
theorem H5 {p0 p1 bp0 rp0_14 rp0_15 bp0_16 rp0_16_0 bp0_17 q0} (hm : D7 p0 p1 = some q0) (A : HH g h [.obj bp0 (.cells none 2 [vs AE p0.c_.Ak, vs AE p0.c_.Al, vs AJ p0.c_.Br, .bool p0.c_.I0, .bool p0.c_.Be, Ai p0.c_.Bv, .bool p0.c_.CR, Ai p0.c_.BK.DF, Ai p0.c_.BK.Bn, Ai p0.c_.IH, Ai p0.c_.CO, Ai p0.c_.Name, Ai p0.c_.Head, Ai p0.c_.Bl, AF rp0_14 p0.AZ.length, AF rp0_15 p0.Ac.length, .ptr (some (bp0_16, 0)), .ptr (some (bp0_17, 0))]), .AI rp0_14 136 (AI (eP AB) p0.AZ), .AI rp0_15 136 (AI (eP AB) p0.Ac), .obj bp0_16 (.cells none 2 [AF rp0_16_0 p0.Af.l_.length, Ai p0.Af.Bd]), .AI rp0_16_0 142 (AI (eP AL) p0.Af.l_), .obj bp0_17 (.cells none 2 ([Ai p0.Am.n_, Ai p0.Am.An] ++ (Cj 257 (AA.int .i64) p0.Am.BI ++ [])))] F) (hc : BF (cfg.still 41) av = [.ptr (some (bp0, 0)), .agg (AD p1)] := by kernel_rfl) : ∃ v h', BL cfg g h 41 av v h' ∧ v = Ai q0 ∧ HH g h' [.obj bp0 (.cells none 2 [vs AE p0.c_.Ak, vs AE p0.c_.Al, vs AJ p0.c_.Br, .bool p0.c_.I0, .bool p0.c_.Be, Ai p0.c_.Bv, .bool p0.c_.CR, Ai p0.c_.BK.DF, Ai p0.c_.BK.Bn, Ai p0.c_.IH, Ai p0.c_.CO, Ai p0.c_.Name, Ai p0.c_.Head, Ai p0.c_.Bl, AF rp0_14 p0.AZ.length, AF rp0_15 p0.Ac.length, .ptr (some (bp0_16, 0)), .ptr (some (bp0_17, 0))]), .AI rp0_14 136 (AI (eP AB) p0.AZ), .AI rp0_15 136 (AI (eP AB) p0.Ac), .obj bp0_16 (.cells none 2 [AF rp0_16_0 p0.Af.l_.length, Ai p0.Af.Bd]), .AI rp0_16_0 142 (AI (eP AL) p0.Af.l_), .obj bp0_17 (.cells none 2 ([Ai p0.Am.n_, Ai p0.Am.An] ++ (Cj 257 (AA.int .i64) p0.Am.BI ++ [])))] F := by
 refine Dr 26 [.tmp 4] hc ?_
 clear hc
 unfold D7 at hm
 refine bg 26 [(0, .ptr (some (bp0, 0))), (1, .agg (AD p1))] fun fr H => ?_
 refine AG 2 ?_
 obtain ⟨h1, e1, A⟩ := A.pu (.cells none 2 (AD p1))
 refine BB 3 (.ptr (some (h.size, 0))) e1 H fun fr t H => ?_
 refine AO 1 [] H fun fr H => AQ (AQ (Ep 1 21 ?_))
 refine Ag 4 [] 9 1 6 A H fun fr t H => ?_
 refine AK 1 [(10, .bool p0.c_.CR)] H fun fr H => A9 4 (fun fr' h' => h1 = h' ∧ Has fr' 26 [(0, .ptr (some (bp0, 0))), (3, .ptr (some (h.size, 0))), (14, .bool (p0.c_.CR && (p1.Kind != 53)))]) ?_ ?_
 ·cases hb : (p0.c_.CR : Bool) with
  | true =>
   replace H := H.kn 10 hb
   refine Ag 1 [] 12 0 2 A H fun fr t H => ?_
   exact AK 2 [(14, .bool (p1.Kind != 53))] H fun fr H => BH H hb
  | false =>
   replace H := H.kn 10 hb
   exact AK 4 [(14, .bool false)] H fun fr H => BH H hb
 intro t fr h' hK
 obtain ⟨e, H⟩ := hK
 subst e
 refine AK 1 [(15, .bool (p0.c_.CR && (p1.Kind != 53)))] H fun fr H => ?_
 obtain ⟨x1, ho, hm⟩ := bind_some hm
 refine A9 10 (fun fr' h' => Has fr' 26 [(25, .bool x1)] ∧ HH g h' [.obj h.size (.cells none 2 (AD p1)), .obj bp0 (.cells none 2 [vs AE p0.c_.Ak, vs AE p0.c_.Al, vs AJ p0.c_.Br, .bool p0.c_.I0, .bool p0.c_.Be, Ai p0.c_.Bv, .bool p0.c_.CR, Ai p0.c_.BK.DF, Ai p0.c_.BK.Bn, Ai p0.c_.IH, Ai p0.c_.CO, Ai p0.c_.Name, Ai p0.c_.Head, Ai p0.c_.Bl, AF rp0_14 p0.AZ.length, AF rp0_15 p0.Ac.length, .ptr (some (bp0_16, 0)), .ptr (some (bp0_17, 0))]), .AI rp0_14 136 (AI (eP AB) p0.AZ), .AI rp0_15 136 (AI (eP AB) p0.Ac), .obj bp0_16 (.cells none 2 [AF rp0_16_0 p0.Af.l_.length, Ai p0.Af.Bd]), .AI rp0_16_0 142 (AI (eP AL) p0.Af.l_), .obj bp0_17 (.cells none 2 ([Ai p0.Am.n_, Ai p0.Am.An] ++ (Cj 257 (AA.int .i64) p0.Am.BI ++ [])))] F) ?_ ?_
 ·rcases AX ho with ⟨hb, hm⟩ | ⟨hb, hm⟩
  ·replace H := H.kn 15 hb
   refine Ap 1 [] 17 _ _ H (fun fr => .of (CG (by kernel_rfl) (A.HG 0 rfl (o := 10) (n := 2) ⟨Nat.le_of_ble_eq_true rfl, rfl⟩))) fun fr t H => ?_
   refine Ap 4 [] 22 _ _ H (fun fr => .of (CG (by kernel_rfl) (A.HG 1 rfl (o := 7) (n := 2) ⟨Nat.le_of_ble_eq_true rfl, rfl⟩))) fun fr t H => ?_
   obtain ⟨x2, hx, hm⟩ := bind_some hm
   obtain ⟨v1, h3, hr, rfl, A1⟩ := Px (av := [.agg [Ai p1.Time.DF, Ai p1.Time.Bn], .agg [Ai p0.c_.BK.DF, Ai p0.c_.BK.Bn]]) hx (A.cut 0)
   replace A : HH g h3 [.obj h.size (.cells none 2 (AD p1)), _, _, _, _, _, _] F := A.CY (n := 0) A1
   refine BA 23 hr H fun fr t H => ?_
   refine AK 2 [(25, .bool (!x2))] H fun fr H => ?_
   obtain rfl := AY hm
   exact at_nil ⟨H.ls, A⟩
  replace H := H.kn 15 hb
  refine AK 10 [(25, .bool false)] H fun fr H => ?_
  obtain rfl := AY hm
  exact at_nil ⟨H.ls, A⟩
 clear A
 intro t fr h2 hK
 obtain ⟨H, A⟩ := hK
 refine BJ id (Ad 25 H hm (fun hb hm H => ?_) fun hb hm H => ?_)
 ·refine AG 1 (AO 1 [(4, Ai 5)] H fun fr H => AU ?_)
  obtain rfl := AY hm
  refine ⟨.inl rfl, Ai 5, rH H, ?_⟩
  replace A := A.k6 1 2 3 4 5 6
  exact ⟨rfl, A⟩
 refine Ce 1 id (AO 1 [(4, Ai 0)] H fun fr H => AU ?_)
 obtain rfl := AY hm
 refine ⟨.inl rfl, Ai 0, rH H, ?_⟩
 replace A := A.k6 1 2 3 4 5 6
 exact ⟨rfl, A⟩
def G3 (p0 : Bt) (p1 : Int) : Option (Bool) :=
 some ((decide (p1 ≥ 0)) && (decide (p1 < p0.An)))
theorem MV {p0 p1 bp0 q0} (hm : G3 p0 p1 = some q0) (A : HH g h [.obj bp0 (.cells none 2 ([Ai p0.n_, Ai p0.An] ++ (Cj 257 (AA.int .i64) p0.BI ++ [])))] F) (hc : BF (cfg.still 142) av = [.ptr (some (bp0, 0)), Ai p1] := by kernel_rfl) : ∃ v h', BL cfg g h 142 av v h' ∧ v = .bool q0 ∧ HH g h' [.obj bp0 (.cells none 2 ([Ai p0.n_, Ai p0.An] ++ (Cj 257 (AA.int .i64) p0.BI ++ [])))] F := by
 refine Dr 15 [.tmp 4] hc ?_
 clear hc
 unfold G3 at hm
 refine bg 15 [(0, .ptr (some (bp0, 0))), (1, Ai p1)] fun fr H => ?_
 refine AG 1 (Bc 1 [] 11 H fun fr H => AK 3 [(7, .bool (decide (p1 ≥ 0)))] H fun fr H => A9 7 (fun fr' h' => h = h' ∧ Has fr' 15 [(14, .bool ((decide (p1 ≥ 0)) && (decide (p1 < p0.An))))]) ?_ ?_)
 ·cases hb : (decide (p1 ≥ 0) : Bool) with
  | true =>
   replace H := H.kn 7 hb
   refine Ap 4 [(8, Ai p1)] 12 (Ai p0.An) h H (fun fr => .of (Da (by kernel_rfl) (A.OI 0 rfl (o := 1) (by kernel_rfl)))) fun fr t H => ?_
   exact AK 2 [(14, .bool (decide (p1 < p0.An)))] H fun fr H => BH H hb
  | false =>
   replace H := H.kn 7 hb
   exact AK 7 [(14, .bool false)] H fun fr H => BH H hb
 intro t fr h' hK
 obtain ⟨e, H⟩ := hK
 subst e
 refine AO 1 [(4, .bool ((decide (p1 ≥ 0)) && (decide (p1 < p0.An))))] H fun fr H => AU ?_
 obtain rfl := AY hm
 exact ⟨.inl rfl, _, rH H, rfl, A⟩
def GF (p0 : Bt) (p1 : Int) : Option (Bool × Int × Bt) :=
 (G3 p0 p1).bind fun x1 => Aa (!x1) (some (false, (9 : Int), p0)) (((T5 257 p0.BI p1).bind fun x3 => Aa (decide (x3 < 9007199254740991)) ((T5 257 p0.BI p1).bind fun x4 => (T5 257 p0.BI p1).bind fun x5 => some (PZ p0.BI p1.toNat (IntKind.i64.wrap (x4 + 1)))) (some p0.BI) : Option (((Nat → Int)))).bind fun x2 => (Aa (p0.n_ == 0) (some true) ((T5 257 x2 p1).bind fun x7 => some (x7 == p0.n_)) : Option (Bool)).bind fun x6 => some (x6, (0 : Int), (⟨p0.n_, p0.An, x2⟩ : Bt)))
theorem Lj {p0 p1 bp0 q0 q1 u0} (hm : GF p0 p1 = some (q0, q1, u0)) (A : HH g h [.obj bp0 (.cells none 2 ([Ai p0.n_, Ai p0.An] ++ (Cj 257 (AA.int .i64) p0.BI ++ [])))] F) (hc : BF (cfg.still 80) av = [.ptr (some (bp0, 0)), Ai p1] := by kernel_rfl) : ∃ v h', BL cfg g h 80 av v h' ∧ v = .tuple [.bool q0, Ai q1] ∧ HH g h' [.obj bp0 (.cells none 2 ([Ai u0.n_, Ai u0.An] ++ (Cj 257 (AA.int .i64) u0.BI ++ [])))] F := by
 refine Dr 45 [.tmp 4, .tmp 5] hc ?_
 clear hc
 unfold GF at hm
 refine bg 45 [(0, .ptr (some (bp0, 0))), (1, Ai p1)] fun fr H => ?_
 refine AG 2 (AO 2 [] H fun fr H => AQ (AG 4 ?_))
 obtain ⟨x1, hx, hm⟩ := bind_some hm
 obtain ⟨v1, h1, hr, rfl, A1⟩ := MV (av := [.ptr (some (bp0, 0)), Ai p1]) hx (A.cut 1)
 replace A := A.g11 A1
 refine A0 2 [] 8 hr H fun fr t H => ?_
 refine AO 1 [(9, .bool (!x1))] H fun fr H => Ad 9 H hm (fun hb hm H => ?_) fun hb hm H => ?_
 ·refine AG 2 (AO 2 [(4, .bool false), (5, Ai 9)] H fun fr H => AU ?_)
  obtain ⟨rfl, rfl, rfl⟩ := IY hm
  exact ⟨.inl rfl, _, rH H, rfl, A⟩
 refine Bf id (AQ ?_)
 obtain ⟨o1, ho, hm⟩ := bind_some hm
 refine Ax (Q' := fun e fr' h' => (∃ x2, e = .normal ∧ x2 = o1 ∧ Has fr' 45 [(0, .ptr (some (bp0, 0))), (1, Ai p1)] ∧ HH g h' [.obj bp0 (.cells none 2 ([Ai p0.n_, Ai p0.An] ++ (Cj 257 (AA.int .i64) x2 ++ [])))] F) ∨ False) ?_ ?_
 ·replace hm := ho
  clear ho
  refine AG 7 ?_
  obtain ⟨x3, hq1, hm⟩ := bind_some hm
  refine Ap 4 [] 14 (.ptr (some (bp0, 2 + p1.toNat * 1))) h1 H (fun fr => .of (QS (by kernel_rfl) (M6 hq1 (bp0, 2) 1))) fun fr t H => ?_
  refine Aq 15 _ _ H (fun fr => .of (Da (by kernel_rfl) (HH.Yl A 0 (AA.int .i64) (X := p0.BI) [Ai p0.n_, Ai p0.An] ([] : List AA) (off := 2) rfl rfl (i := p1) hq1))) fun fr t H => ?_
  refine AO 1 [(16, .bool (decide (x3 < 9007199254740991)))] H fun fr H => Ad 16 H hm (fun hb hm H => ?_) fun hb hm H => ?_
  ·refine Ep 4 11 ?_
   obtain ⟨x4, hq2, hm⟩ := bind_some hm
   refine Ap 4 [(17, .ptr (some (bp0, 0))), (18, Ai p1)] 21 (.ptr (some (bp0, 2 + p1.toNat * 1))) h1 H (fun fr => .of (QS (by kernel_rfl) (M6 hq2 (bp0, 2) 1))) fun fr t H => ?_
   refine Aq 22 _ _ H (fun fr => .of (Da (by kernel_rfl) (HH.Yl A 0 (AA.int .i64) (X := p0.BI) [Ai p0.n_, Ai p0.An] ([] : List AA) (off := 2) rfl rfl (i := p1) hq2))) fun fr t H => ?_
   obtain ⟨x5, hq3, hm⟩ := bind_some hm
   refine Ap 3 [(23, Ai (IntKind.i64.wrap (x4 + 1)))] 26 (.ptr (some (bp0, 2 + p1.toNat * 1))) h1 H (fun fr => .of (QS (by kernel_rfl) (M6 hq3 (bp0, 2) 1))) fun fr t H => ?_
   obtain ⟨h2, hx, A1⟩ := HH.Y7 A 0 (AA.int .i64) (X := p0.BI) [Ai p0.n_, Ai p0.An] ([] : List AA) (off := 2) rfl rfl (i := p1) (IntKind.i64.wrap (x4 + 1)) hq3 rfl
   replace A : HH g h2 [.obj bp0 (.cells none 2 ([Ai p0.n_, Ai p0.An] ++ (Cj 257 (AA.int .i64) (PZ p0.BI p1.toNat (IntKind.i64.wrap (x4 + 1))) ++ [])))] F := A1
   refine GK hx H fun fr t H => ?_
   refine at_nil ?_
   exact .inl ⟨_, rfl, AY hm, H.ls, A⟩
  exact FL (.inl ⟨_, rfl, AY hm, H.ls, A⟩)
 clear ho
 clear A
 intro e fr h3 hQ
 rcases hQ with ⟨x2, rfl, rfl, H, A⟩ | hF
 ·show AW _ _ _ _ _ _ _
  refine AQ (Ep 5 20 ?_)
  refine Ap 3 [] 30 (Ai p0.n_) h3 H (fun fr => .of (Da (by kernel_rfl) (A.OI 0 rfl (o := 0) (by kernel_rfl)))) fun fr t H => ?_
  refine AK 2 [(32, .bool (p0.n_ == 0))] H fun fr H => ?_
  obtain ⟨x6, ho, hm⟩ := bind_some hm
  refine A9 12 (fun fr' h' => Has fr' 45 [(44, .bool x6)] ∧ HH g h' [.obj bp0 (.cells none 2 ([Ai p0.n_, Ai p0.An] ++ (Cj 257 (AA.int .i64) x2 ++ [])))] F) ?_ ?_
  ·rcases AX ho with ⟨hb, hm⟩ | ⟨hb, hm⟩
   ·replace H := H.kn 32 hb
    refine AK 12 [(44, .bool true)] H fun fr H => ?_
    obtain rfl := AY hm
    exact at_nil ⟨H.ls, A⟩
   replace H := H.kn 32 hb
   obtain ⟨x7, hq4, hm⟩ := bind_some hm
   refine Ap 4 [] 37 (.ptr (some (bp0, 2 + p1.toNat * 1))) h3 H (fun fr => .of (QS (by kernel_rfl) (M6 hq4 (bp0, 2) 1))) fun fr t H => ?_
   refine Aq 38 _ _ H (fun fr => .of (Da (by kernel_rfl) (HH.Yl A 0 (AA.int .i64) (X := x2) [Ai p0.n_, Ai p0.An] ([] : List AA) (off := 2) rfl rfl (i := p1) hq4))) fun fr t H => ?_
   refine Ap 3 [] 42 (Ai p0.n_) h3 H (fun fr => .of (Da (by kernel_rfl) (A.OI 0 rfl (o := 0) (by kernel_rfl)))) fun fr t H => ?_
   refine AK 2 [(44, .bool (x7 == p0.n_))] H fun fr H => ?_
   obtain rfl := AY hm
   exact at_nil ⟨H.ls, A⟩
  clear A
  intro t fr h4 hK
  obtain ⟨H, A⟩ := hK
  refine AO 2 [(4, .bool x6), (5, Ai 0)] H fun fr H => AU ?_
  obtain ⟨rfl, rfl, rfl⟩ := IY hm
  exact ⟨.inl rfl, _, rH H, rfl, A⟩
 exact hF.elim
def DV (p0 : Bw) (p1 : AN) : Option (Int × Bt) :=
 (Aa (decide ((p0.AZ.length : Int) > 0)) ((Ev p0.AZ p1.Name).bind fun (x3, x4) => Aa (!x4) (some (.inr (6 : Int))) (some (.inl x3))) (some (.inl (0 : Int))) : Option ((Int) ⊕ (Int))).bind fun o1 => (match o1 with | .inl x1 => (GF p0.Am x1).bind fun (x5, x6, x7) => Aa (!x5) (some ((7 : Int), x7)) (some ((0 : Int), x7)) | .inr x2 => some (x2, p0.Am))
theorem HL {p0 p1 bp0 rp0_14 rp0_15 bp0_16 rp0_16_0 bp0_17 q0 u5} (hm : DV p0 p1 = some (q0, u5)) (A : HH g h [.obj bp0 (.cells none 2 [vs AE p0.c_.Ak, vs AE p0.c_.Al, vs AJ p0.c_.Br, .bool p0.c_.I0, .bool p0.c_.Be, Ai p0.c_.Bv, .bool p0.c_.CR, Ai p0.c_.BK.DF, Ai p0.c_.BK.Bn, Ai p0.c_.IH, Ai p0.c_.CO, Ai p0.c_.Name, Ai p0.c_.Head, Ai p0.c_.Bl, AF rp0_14 p0.AZ.length, AF rp0_15 p0.Ac.length, .ptr (some (bp0_16, 0)), .ptr (some (bp0_17, 0))]), .AI rp0_14 136 (AI (eP AB) p0.AZ), .AI rp0_15 136 (AI (eP AB) p0.Ac), .obj bp0_16 (.cells none 2 [AF rp0_16_0 p0.Af.l_.length, Ai p0.Af.Bd]), .AI rp0_16_0 142 (AI (eP AL) p0.Af.l_), .obj bp0_17 (.cells none 2 ([Ai p0.Am.n_, Ai p0.Am.An] ++ (Cj 257 (AA.int .i64) p0.Am.BI ++ [])))] F) (hc : BF (cfg.still 42) av = [.ptr (some (bp0, 0)), .agg (AD p1)] := by kernel_rfl) : ∃ v h', BL cfg g h 42 av v h' ∧ v = Ai q0 ∧ HH g h' [.obj bp0 (.cells none 2 [vs AE p0.c_.Ak, vs AE p0.c_.Al, vs AJ p0.c_.Br, .bool p0.c_.I0, .bool p0.c_.Be, Ai p0.c_.Bv, .bool p0.c_.CR, Ai p0.c_.BK.DF, Ai p0.c_.BK.Bn, Ai p0.c_.IH, Ai p0.c_.CO, Ai p0.c_.Name, Ai p0.c_.Head, Ai p0.c_.Bl, AF rp0_14 p0.AZ.length, AF rp0_15 p0.Ac.length, .ptr (some (bp0_16, 0)), .ptr (some (bp0_17, 0))]), .AI rp0_14 136 (AI (eP AB) p0.AZ), .AI rp0_15 136 (AI (eP AB) p0.Ac), .obj bp0_16 (.cells none 2 [AF rp0_16_0 p0.Af.l_.length, Ai p0.Af.Bd]), .AI rp0_16_0 142 (AI (eP AL) p0.Af.l_), .obj bp0_17 (.cells none 2 ([Ai u5.n_, Ai u5.An] ++ (Cj 257 (AA.int .i64) u5.BI ++ [])))] F := by
 refine Dr 40 [.tmp 4] hc ?_
 clear hc
 unfold DV at hm
 refine bg 40 [(0, .ptr (some (bp0, 0))), (1, .agg (AD p1))] fun fr H => ?_
 refine AG 2 ?_
 obtain ⟨h1, e1, A⟩ := A.pu (.cells none 2 (AD p1))
 refine BB 3 (.ptr (some (h.size, 0))) e1 H fun fr t H => ?_
 refine Bc 1 [] 1 H fun fr H => AO 1 [(5, Ai 0)] H fun fr H => AQ ?_
 obtain ⟨o1, ho, hm⟩ := bind_some hm
 refine Ax (Q' := fun e fr' h' => (∃ x1, e = .normal ∧ .inl x1 = o1 ∧ Has fr' 40 [(0, .ptr (some (bp0, 0))), (5, Ai x1)] ∧ HH g h' [.obj h.size (.cells none 2 (AD p1)), .obj bp0 (.cells none 2 [vs AE p0.c_.Ak, vs AE p0.c_.Al, vs AJ p0.c_.Br, .bool p0.c_.I0, .bool p0.c_.Be, Ai p0.c_.Bv, .bool p0.c_.CR, Ai p0.c_.BK.DF, Ai p0.c_.BK.Bn, Ai p0.c_.IH, Ai p0.c_.CO, Ai p0.c_.Name, Ai p0.c_.Head, Ai p0.c_.Bl, AF rp0_14 p0.AZ.length, AF rp0_15 p0.Ac.length, .ptr (some (bp0_16, 0)), .ptr (some (bp0_17, 0))]), .AI rp0_14 136 (AI (eP AB) p0.AZ), .AI rp0_15 136 (AI (eP AB) p0.Ac), .obj bp0_16 (.cells none 2 [AF rp0_16_0 p0.Af.l_.length, Ai p0.Af.Bd]), .AI rp0_16_0 142 (AI (eP AL) p0.Af.l_), .obj bp0_17 (.cells none 2 ([Ai p0.Am.n_, Ai p0.Am.An] ++ (Cj 257 (AA.int .i64) p0.Am.BI ++ [])))] F) ∨ (∃ x2, e = .ret ∧ .inr x2 = o1 ∧ Has fr' 40 [(4, Ai x2)] ∧ HH g h' [.obj h.size (.cells none 2 (AD p1)), .obj bp0 (.cells none 2 [vs AE p0.c_.Ak, vs AE p0.c_.Al, vs AJ p0.c_.Br, .bool p0.c_.I0, .bool p0.c_.Be, Ai p0.c_.Bv, .bool p0.c_.CR, Ai p0.c_.BK.DF, Ai p0.c_.BK.Bn, Ai p0.c_.IH, Ai p0.c_.CO, Ai p0.c_.Name, Ai p0.c_.Head, Ai p0.c_.Bl, AF rp0_14 p0.AZ.length, AF rp0_15 p0.Ac.length, .ptr (some (bp0_16, 0)), .ptr (some (bp0_17, 0))]), .AI rp0_14 136 (AI (eP AB) p0.AZ), .AI rp0_15 136 (AI (eP AB) p0.Ac), .obj bp0_16 (.cells none 2 [AF rp0_16_0 p0.Af.l_.length, Ai p0.Af.Bd]), .AI rp0_16_0 142 (AI (eP AL) p0.Af.l_), .obj bp0_17 (.cells none 2 ([Ai p0.Am.n_, Ai p0.Am.An] ++ (Cj 257 (AA.int .i64) p0.Am.BI ++ [])))] F) ∨ False) ?_ ?_
 ·replace hm := ho
  clear ho
  refine AG 6 (Ag 3 [] 13 1 14 A H fun fr t H => ?_)
  refine AO 2 [(15, .bool (decide ((p0.AZ.length : Int) > 0)))] H fun fr H => Ad 15 H hm (fun hb hm H => ?_) fun hb hm H => ?_
  ·refine AQ (Ep 3 12 ?_)
   refine Ag 3 [] 20 1 14 A H fun fr t H => ?_
   refine Ag 1 [] 22 0 0 A H fun fr t H => ?_
   replace A : HH g h1 [_, .obj h.size (.cells none 2 (AD p1)), _, _, _, _, _] F := (A.front 2 rfl)
   obtain ⟨⟨x3, x4⟩, hx, hm⟩ := bind_some hm
   obtain ⟨v1, h2, hr, rfl, A1⟩ := Hu (av := [AF rp0_14 p0.AZ.length, .str p1.Name]) hx (A.cut 1)
   replace A := A.g11 A1
   refine BA 23 hr H fun fr t H => ?_
   refine AO 5 [(6, Ai x3), (7, .bool x4)] H fun fr H => AQ (AG 2 (AO 2 [(27, .bool (!x4))] H fun fr H => Ad 27 H hm (fun hb hm H => ?_) fun hb hm H => ?_))
   ·refine AG 1 (AO 1 [(4, Ai 6)] H fun fr H => AU ?_)
    replace A := A.k7 1 2 0 3 4 5 6
    exact .inr (.inl ⟨_, rfl, AY hm, H.ls, A⟩)
   refine Fh 2 id (BV 2 [(0, .ptr (some (bp0, 0))), (5, Ai x3)] H fun fr H => at_nil ?_)
   replace A := A.k7 1 2 0 3 4 5 6
   exact .inl ⟨_, rfl, AY hm, H.ls, A⟩
  exact FL (.inl ⟨_, rfl, AY hm, H.ls, A⟩)
 clear ho
 clear A
 intro e fr h3 hQ
 rcases hQ with ⟨x1, rfl, rfl, H, A⟩ | ⟨x2, rfl, rfl, H, A⟩ | hF
 ·show AW _ _ _ _ _ _ _
  refine AQ (AG 11 (Ag 3 [] 33 1 17 A H fun fr t H => ?_))
  replace A := A.k7 6 0 1 2 3 4 5
  obtain ⟨⟨x5, x6, x7⟩, hx, hm⟩ := bind_some hm
  obtain ⟨v1, h4, hr, rfl, A1⟩ := Lj (av := [.ptr (some (bp0_17, 0)), Ai x1]) hx (A.cut 1)
  replace A := A.g11 A1
  refine A0 1 [] 35 hr H fun fr t H => ?_
  refine Bc 5 [(8, .bool x5)] 2 H fun fr H => AO 2 [(39, .bool (!x5))] H fun fr H => Ad 39 H hm (fun hb hm H => ?_) fun hb hm H => ?_
  ·refine AG 1 (AO 1 [(4, Ai 7)] H fun fr H => AU ?_)
   obtain ⟨rfl, rfl⟩ := Cw hm
   refine ⟨.inl rfl, Ai 7, rH H, ?_⟩
   replace A := A.k6 2 3 4 5 6 0
   exact ⟨rfl, A⟩
  refine Ce 1 id (AO 1 [(4, Ai 0)] H fun fr H => AU ?_)
  obtain ⟨rfl, rfl⟩ := Cw hm
  refine ⟨.inl rfl, Ai 0, rH H, ?_⟩
  replace A := A.k6 2 3 4 5 6 0
  exact ⟨rfl, A⟩
 ·obtain ⟨rfl, rfl⟩ := Cw hm
  refine ⟨.inl rfl, Ai x2, rH H, ?_⟩
  replace A := A.k6 1 2 3 4 5 6
  exact ⟨rfl, A⟩
 exact hF.elim
def EG (p0 : List UInt8) : Option ((List UInt8)) :=
 Aa ((p0 == ([] : List UInt8)) || (([47] : List UInt8) == ([] : List UInt8))) (some p0) ((EC p0 (47 : Int)).bind fun x1 => some x1)
theorem Gr {p0 q0} (hm : EG p0 = some q0) (A : HH g h [] F) (hc : BF (cfg.still 81) av = [.str p0, .str ([47] : List UInt8)] := by kernel_rfl) : ∃ v h', BL cfg g h 81 av v h' ∧ v = .str q0 ∧ HH g h' [] F := by
 refine Dr 37 [.tmp 4] hc ?_
 clear hc
 unfold EG at hm
 refine bg 37 [(0, .str p0), (1, .str ([47] : List UInt8))] fun fr H => ?_
 refine AG 1 (AO 1 [] H fun fr H => AQ (AG 6 (AK 3 [(9, .bool (p0 == ([] : List UInt8)))] H fun fr H => A9 3 (fun fr' h' => h = h' ∧ Has fr' 37 [(0, .str p0), (1, .str ([47] : List UInt8)), (12, .bool ((p0 == ([] : List UInt8)) || (([47] : List UInt8) == ([] : List UInt8))))]) ?_ ?_)))
 ·cases hb : (p0 == ([] : List UInt8) : Bool) with
  | true =>
   replace H := H.kn 9 hb
   exact AK 3 [(12, .bool true)] H fun fr H => BH H hb
  | false =>
   replace H := H.kn 9 hb
   exact AK 3 [(12, .bool (([47] : List UInt8) == ([] : List UInt8)))] H fun fr H => BH H hb
 intro t fr h' hK
 obtain ⟨e, H⟩ := hK
 subst e
 refine BJ id (Ad 12 H hm (fun hb hm H => ?_) fun hb hm H => ?_)
 ·refine AG 2 (AO 2 [(4, .str p0)] H fun fr H => AU ?_)
  obtain rfl := AY hm
  exact ⟨.inl rfl, _, rH H, rfl, A⟩
 refine Bf id (AQ (AG 8 (AO 8 [(21, .bool true)] H fun fr H => HB (x := .tmp 21) (by kernel_rfl) H (fun fr => by kernel_rfl) ?_)))
 refine AG 5 ?_
 obtain ⟨x1, hx, hm⟩ := bind_some hm
 obtain ⟨v1, h1, hr, rfl, A1⟩ := Gn (av := [.str p0, Ab 47]) hx (A.cut 0)
 replace A := A.EX A1
 refine A0 3 [] 25 hr H fun fr t H => ?_
 refine AO 1 [(4, .str x1)] H fun fr H => AU ?_
 obtain rfl := AY hm
 exact ⟨.inl rfl, _, rH H, rfl, A⟩
def FA (p0 : List UInt8) (p1 : Int) : Option (Int) :=
 (K6 p0 p1).bind fun x1 => some x1
theorem Ja {p0 p1 q0} (hm : FA p0 p1 = some q0) (A : HH g h [] F) (hc : BF (cfg.still 147) av = [.str p0, Ab p1] := by kernel_rfl) : ∃ v h', BL cfg g h 147 av v h' ∧ v = Ai q0 ∧ HH g h' [] F := by
 refine Dr 8 [.tmp 4] hc ?_
 clear hc
 unfold FA at hm
 refine bg 8 [(0, .str p0), (1, Ab p1)] fun fr H => ?_
 refine AG 1 (Bc 1 [] 4 H fun fr H => ?_)
 obtain ⟨x1, hx, hm⟩ := bind_some hm
 refine Ap 2 [] 7 (Ai x1) h H (fun fr => Steps.call (by kernel_rfl) (WB (C := cfg) (f := 208) (by kernel_rfl) (l := exts) rfl (by kernel_rfl) hx)) fun fr t H => ?_
 refine AO 1 [(4, Ai x1)] H fun fr H => AU ?_
 obtain rfl := AY hm
 exact ⟨.inl rfl, _, rH H, rfl, A⟩
def D1 (p0 : List UInt8) (p1 : Int) : Option (Int) :=
 (FA p0 p1).bind fun x1 => some x1
theorem Fx {p0 p1 q0} (hm : D1 p0 p1 = some q0) (A : HH g h [] F) (hc : BF (cfg.still 82) av = [.str p0, Ab p1] := by kernel_rfl) : ∃ v h', BL cfg g h 82 av v h' ∧ v = Ai q0 ∧ HH g h' [] F := by
 refine Dr 8 [.tmp 4] hc ?_
 clear hc
 unfold D1 at hm
 refine bg 8 [(0, .str p0), (1, Ab p1)] fun fr H => ?_
 refine AG 1 (Bc 1 [] 4 H fun fr H => ?_)
 obtain ⟨x1, hx, hm⟩ := bind_some hm
 obtain ⟨v1, h1, hr, rfl, A1⟩ := Ja (av := [.str p0, Ab p1]) hx (A.cut 0)
 replace A := A.EX A1
 refine A0 2 [] 7 hr H fun fr t H => ?_
 refine AO 1 [(4, Ai x1)] H fun fr H => AU ?_
 obtain rfl := AY hm
 exact ⟨.inl rfl, _, rH H, rfl, A⟩
def Jr (s : (List UInt8) × Int) : Option (((List UInt8) × Int) ⊕ (((List UInt8)) ⊕ ((List UInt8) × Bool))) :=
 match s with
 | (x1, x2) => Aa ((decide (x2 > 0)) && (!(x1 == ([] : List UInt8)))) ((EG x1).bind fun x6 => (D1 x6 (47 : Int)).bind fun x7 => Aa (decide (x7 < 0)) (some (.inr (.inr (([] : List UInt8), false)))) ((Jx x6 (some x7) none).bind fun x8 => (EG x8).bind fun x9 => some (.inl (x9, IntKind.i64.wrap (x2 - 1))))) (some (.inr (.inl x1)))
def GZ (p0 : List UInt8) (p1 : Int) : Option ((List UInt8) × Bool) :=
 Aa (decide (p1 < 0)) (some (([] : List UInt8), false)) ((loop (Jr) (p0, p1)).bind fun o1 => (match o1 with | .inl x3 => some (x3, !(x3 == ([] : List UInt8))) | .inr (x4, x5) => some (x4, x5)))
theorem Ii {p0 p1 q0 q1} (hm : GZ p0 p1 = some (q0, q1)) (A : HH g h [] F) (hc : BF (cfg.still 44) av = [.str p0, Ai p1] := by kernel_rfl) : ∃ v h', BL cfg g h 44 av v h' ∧ v = .tuple [.str q0, .bool q1] ∧ HH g h' [] F := by
 refine Dr 30 [.tmp 4, .tmp 5] hc ?_
 clear hc
 unfold GZ at hm
 refine bg 30 [(0, .str p0), (1, Ai p1)] fun fr H => ?_
 refine AG 2 (AO 2 [] H fun fr H => AQ (AG 2 (AO 2 [(8, .bool (decide (p1 < 0)))] H fun fr H => Ad 8 H hm (fun hb hm H => ?_) fun hb hm H => ?_)))
 ·refine AG 2 (AO 2 [(4, .str ([] : List UInt8)), (5, .bool false)] H fun fr H => AU ?_)
  obtain ⟨rfl, rfl⟩ := Cw hm
  exact ⟨.inl rfl, _, rH H, rfl, A⟩
 refine Bf id (AQ (AV (id := 0) (by kernel_rfl) ?_))
 obtain ⟨o1, ho, hm⟩ := bind_some hm
 refine Ax (Q' := fun e fr' h' => (∃ x3, e = .exit 0 ∧ .inl x3 = o1 ∧ Has fr' 30 [(0, .str x3)] ∧ HH g h' [] F) ∨ (∃ x4 x5, e = .ret ∧ .inr (x4, x5) = o1 ∧ Has fr' 30 [(4, .str x4), (5, .bool x5)] ∧ HH g h' [] F) ∨ False) ?_ ?_
 ·refine Bh (by kernel_rfl) (fun (s : (List UInt8) × Int) fr' h' => ∃ x1 x2, (x1, x2) = s ∧ Has fr' 30 [(0, .str x1), (1, Ai x2)] ∧ HH g h' [] F) ho ⟨_, _, rfl, H.ls, A⟩ ?_
  clear ho hm H A
  intro s q fr h1 hI hm
  obtain ⟨x1, x2, rfl, H, A⟩ := hI
  unfold Jr at hm
  refine AQ (AG 6 (AK 3 [(11, .bool (decide (x2 > 0)))] H fun fr H => A9 3 (fun fr' h' => h1 = h' ∧ Has fr' 30 [(0, .str x1), (1, Ai x2), (14, .bool ((decide (x2 > 0)) && (!(x1 == ([] : List UInt8)))))]) ?_ ?_))
  ·cases hb : (decide (x2 > 0) : Bool) with
   | true =>
    replace H := H.kn 11 hb
    exact AK 3 [(14, .bool (!(x1 == ([] : List UInt8))))] H fun fr H => BH H hb
   | false =>
    replace H := H.kn 11 hb
    exact AK 3 [(14, .bool false)] H fun fr H => BH H hb
  intro t fr h' hK
  obtain ⟨e, H⟩ := hK
  subst e
  refine BJ id (Ad 14 H hm (fun hb hm H => ?_) fun hb hm H => ?_)
  ·refine Bf id (AQ (AV (id := 1) (by kernel_rfl) ?_))
   refine AG 3 ?_
   obtain ⟨x6, hx, hm⟩ := bind_some hm
   obtain ⟨v1, h2, hr, rfl, A1⟩ := Gr (av := [.str x1, .str ([47] : List UInt8)]) hx (A.cut 0)
   replace A := A.EX A1
   refine A0 1 [] 18 hr H fun fr t H => ?_
   refine BV 1 [(0, .str x6), (1, Ai x2)] H fun fr H => CX 3 id ?_
   obtain ⟨x7, hx, hm⟩ := bind_some hm
   obtain ⟨v1, h3, hr, rfl, A1⟩ := Fx (av := [.str x6, Ab 47]) hx (A.cut 0)
   replace A := A.EX A1
   refine A0 1 [] 20 hr H fun fr t H => ?_
   refine AO 1 [(6, Ai x7)] H fun fr H => AQ (AG 2 (AO 2 [(22, .bool (decide (x7 < 0)))] H fun fr H => Ad 22 H hm (fun hb hm H => ?_) fun hb hm H => ?_))
   ·refine AG 2 (AO 2 [(4, .str ([] : List UInt8)), (5, .bool false)] H fun fr H => AU ?_)
    exact nr hm fun e => Or.inr (.inl ⟨_, _, rfl, e, H.ls, A⟩)
   refine Fh 5 id ?_
   obtain ⟨x8, hx, hm⟩ := bind_some hm
   refine Ap 2 [] 25 (.str x8) h3 H (fun fr => .of (Ib (k := .i64) (k' := .i64) (lo := (some x7)) (hi := none) (by kernel_rfl) hx)) fun fr t H => ?_
   obtain ⟨x9, hx, hm⟩ := bind_some hm
   obtain ⟨v1, h4, hr, rfl, A1⟩ := Gr (av := [.str x8, .str ([47] : List UInt8)]) hx (A.cut 0)
   replace A := A.EX A1
   refine BA 26 hr H fun fr t H => ?_
   refine BV 1 [(0, .str x9), (1, Ai x2)] H fun fr H => Ke 3 id (BV 3 [(0, .str x9), (1, Ai (IntKind.i64.wrap (x2 - 1)))] H fun fr H => at_nil ?_)
   exact nx hm ⟨_, _, rfl, H.ls, A⟩
  refine BU (i := 0) (by kernel_rfl) ?_
  exact nr hm fun e => .inl ⟨_, rfl, e, H.ls, A⟩
 clear ho
 clear A
 intro e fr h5 hQ
 rcases hQ with ⟨x3, rfl, rfl, H, A⟩ | ⟨x4, x5, rfl, rfl, H, A⟩ | hF
 ·show AW _ _ _ _ _ _ _
  refine AG 5 (AO 5 [(4, .str x3), (5, .bool (!(x3 == ([] : List UInt8))))] H fun fr H => AU ?_)
  obtain ⟨rfl, rfl⟩ := Cw hm
  exact ⟨.inl rfl, _, rH H, rfl, A⟩
 ·obtain ⟨rfl, rfl⟩ := Cw hm
  exact ⟨.inl rfl, _, rH H, rfl, A⟩
 exact hF.elim
def Dk (p0 : Bw) (p1 : AN) : Option (Int) :=
 (GZ p1.Name p0.c_.CO).bind fun (x1, x2) => Aa (!x2) (some (8 : Int)) (some (0 : Int))
theorem HW {p0 p1 bp0 rp0_14 rp0_15 bp0_16 rp0_16_0 bp0_17 q0} (hm : Dk p0 p1 = some q0) (A : HH g h [.obj bp0 (.cells none 2 [vs AE p0.c_.Ak, vs AE p0.c_.Al, vs AJ p0.c_.Br, .bool p0.c_.I0, .bool p0.c_.Be, Ai p0.c_.Bv, .bool p0.c_.CR, Ai p0.c_.BK.DF, Ai p0.c_.BK.Bn, Ai p0.c_.IH, Ai p0.c_.CO, Ai p0.c_.Name, Ai p0.c_.Head, Ai p0.c_.Bl, AF rp0_14 p0.AZ.length, AF rp0_15 p0.Ac.length, .ptr (some (bp0_16, 0)), .ptr (some (bp0_17, 0))]), .AI rp0_14 136 (AI (eP AB) p0.AZ), .AI rp0_15 136 (AI (eP AB) p0.Ac), .obj bp0_16 (.cells none 2 [AF rp0_16_0 p0.Af.l_.length, Ai p0.Af.Bd]), .AI rp0_16_0 142 (AI (eP AL) p0.Af.l_), .obj bp0_17 (.cells none 2 ([Ai p0.Am.n_, Ai p0.Am.An] ++ (Cj 257 (AA.int .i64) p0.Am.BI ++ [])))] F) (hc : BF (cfg.still 43) av = [.ptr (some (bp0, 0)), .agg (AD p1)] := by kernel_rfl) : ∃ v h', BL cfg g h 43 av v h' ∧ v = Ai q0 ∧ HH g h' [.obj bp0 (.cells none 2 [vs AE p0.c_.Ak, vs AE p0.c_.Al, vs AJ p0.c_.Br, .bool p0.c_.I0, .bool p0.c_.Be, Ai p0.c_.Bv, .bool p0.c_.CR, Ai p0.c_.BK.DF, Ai p0.c_.BK.Bn, Ai p0.c_.IH, Ai p0.c_.CO, Ai p0.c_.Name, Ai p0.c_.Head, Ai p0.c_.Bl, AF rp0_14 p0.AZ.length, AF rp0_15 p0.Ac.length, .ptr (some (bp0_16, 0)), .ptr (some (bp0_17, 0))]), .AI rp0_14 136 (AI (eP AB) p0.AZ), .AI rp0_15 136 (AI (eP AB) p0.Ac), .obj bp0_16 (.cells none 2 [AF rp0_16_0 p0.Af.l_.length, Ai p0.Af.Bd]), .AI rp0_16_0 142 (AI (eP AL) p0.Af.l_), .obj bp0_17 (.cells none 2 ([Ai p0.Am.n_, Ai p0.Am.An] ++ (Cj 257 (AA.int .i64) p0.Am.BI ++ [])))] F := by
 refine Dr 20 [.tmp 4] hc ?_
 clear hc
 unfold Dk at hm
 refine bg 20 [(0, .ptr (some (bp0, 0))), (1, .agg (AD p1))] fun fr H => ?_
 refine AG 2 ?_
 obtain ⟨h1, e1, A⟩ := A.pu (.cells none 2 (AD p1))
 refine BB 3 (.ptr (some (h.size, 0))) e1 H fun fr t H => ?_
 refine AO 1 [] H fun fr H => AQ (AQ (Ep 1 13 ?_))
 refine Ag 1 [] 9 0 0 A H fun fr t H => ?_
 refine Ag 4 [] 14 1 10 A H fun fr t H => ?_
 obtain ⟨⟨x1, x2⟩, hx, hm⟩ := bind_some hm
 obtain ⟨v1, h2, hr, rfl, A1⟩ := Ii (av := [.str p1.Name, Ai p0.c_.CO]) hx (A.cut 0)
 replace A : HH g h2 [.obj h.size (.cells none 2 (AD p1)), _, _, _, _, _, _] F := A.CY (n := 0) A1
 refine BA 15 hr H fun fr t H => ?_
 refine Bc 5 [(6, .bool x2)] 2 H fun fr H => AO 2 [(19, .bool (!x2))] H fun fr H => Ad 19 H hm (fun hb hm H => ?_) fun hb hm H => ?_
 ·refine AG 1 (AO 1 [(4, Ai 8)] H fun fr H => AU ?_)
  obtain rfl := AY hm
  refine ⟨.inl rfl, Ai 8, rH H, ?_⟩
  replace A := A.k6 1 2 3 4 5 6
  exact ⟨rfl, A⟩
 refine Ce 1 id (AO 1 [(4, Ai 0)] H fun fr H => AU ?_)
 obtain rfl := AY hm
 refine ⟨.inl rfl, Ai 0, rH H, ?_⟩
 replace A := A.k6 1 2 3 4 5 6
 exact ⟨rfl, A⟩
def Dx (p0 : EM) : Option (Az) :=
 some p0.x_
theorem Fq {p0 q0} (hm : Dx p0 = some q0) (A : HH g h [] F) (hc : BF (cfg.still 149) av = [.A8 (AL p0)] := by kernel_rfl) : ∃ v h', BL cfg g h 149 av v h' ∧ v = .agg (AJ q0) ∧ HH g h' [] F := by
 refine Dr 7 [.cell 2 135] hc ?_
 clear hc
 unfold Dx at hm
 refine bg 7 [(0, .A8 (AL p0))] fun fr H => ?_
 refine AG 1 ?_
 obtain ⟨h1, e1, A⟩ := A.pu (.cells none 2 [.str ([] : List UInt8), .str ([] : List UInt8), .bool false, .bool false, .bool false, Ai 0, .bool false, .bool false, .bool false])
 refine BB 2 (.ptr (some (h.size, 0))) e1 H fun fr t H => ?_
 refine CX 5 id (Ap 3 [] 6 (.agg (AJ p0.x_)) h1 H (fun fr => .of (G0 (by kernel_rfl))) fun fr t H => ?_)
 obtain ⟨h2, hx, A⟩ := A.s0 0 (AJ p0.x_) [_, _, _, _, _, _, _, _, _]
 refine F4 hx H fun fr t H => ?_
 refine BJ id (AU ?_)
 obtain rfl := AY hm
 refine ⟨.inl rfl, .agg (AJ p0.x_), EL (.cell (rT H) (By (by kernel_rfl) (by kernel_rfl) (A.la 0 0 9)) .nil), ?_⟩
 replace A := A.d0
 exact ⟨rfl, A⟩
def Jm (p0 : Az) : Option (Bool) :=
 some p0.Names
theorem PI {p0 q0} (hm : Jm p0 = some q0) (A : HH g h [] F) (hc : BF (cfg.still 148) av = [.agg (AJ p0)] := by kernel_rfl) : ∃ v h', BL cfg g h 148 av v h' ∧ v = .bool q0 ∧ HH g h' [] F := by
 refine Dr 5 [.tmp 2] hc ?_
 clear hc
 unfold Jm at hm
 refine bg 5 [(0, .agg (AJ p0))] fun fr H => ?_
 refine AG 2 ?_
 obtain ⟨h1, e1, A⟩ := A.pu (.cells none 2 (AJ p0))
 refine BB 1 (.ptr (some (h.size, 0))) e1 H fun fr t H => ?_
 refine Bc 1 [] 3 H fun fr H => Ag 1 [] 4 0 6 A H fun fr t H => ?_
 refine AO 1 [(2, .bool p0.Names)] H fun fr H => AU ?_
 obtain rfl := AY hm
 refine ⟨.inl rfl, .bool p0.Names, rH H, ?_⟩
 replace A := A.d0
 exact ⟨rfl, A⟩
def FX (p0 : CQ) (s : (List UInt8) × Int) : Option (((List UInt8) × Int) ⊕ (((List UInt8)))) :=
 match s with
 | (x1, x2) => Aa (decide (x2 < (p0.l_.length : Int))) (((Fc p0.l_ x2).bind fun x5 => (Dx x5).bind fun x6 => (Jm x6).bind fun x7 => Aa (!x7) (some x1) (none) : Option (((List UInt8)))).bind fun x4 => some (.inl (x4, IntKind.i64.wrap (x2 + 1)))) (some (.inr x1))
def Ec (p0 : CQ) (p1 : List UInt8) : Option ((List UInt8) × Int) :=
 Aa (decide ((p1.length : Int) > p0.Bd)) (some (([] : List UInt8), (7 : Int))) ((loop (FX p0) (p1, (0 : Int))).bind fun x3 => some (x3, (0 : Int)))
theorem Ia {p0 p1 bp0 rp0_0 q0 q1} (hm : Ec p0 p1 = some (q0, q1)) (A : HH g h [.obj bp0 (.cells none 2 [AF rp0_0 p0.l_.length, Ai p0.Bd]), .AI rp0_0 142 (AI (eP AL) p0.l_)] F) (hc : BF (cfg.still 86) av = [.ptr (some (bp0, 0)), .str p1, .func (.func 148) [] []] := by kernel_rfl) : ∃ v h', BL cfg g h 86 av v h' ∧ v = .tuple [.str q0, Ai q1] ∧ HH g h' [.obj bp0 (.cells none 2 [AF rp0_0 p0.l_.length, Ai p0.Bd]), .AI rp0_0 142 (AI (eP AL) p0.l_)] F := by
 refine Dr 43 [.tmp 6, .tmp 7] hc ?_
 clear hc
 unfold Ec at hm
 refine bg 43 [(0, .ptr (some (bp0, 0))), (1, .str p1), (2, .func (.func 148) [] [])] fun fr H => ?_
 refine AG 2 (AO 2 [] H fun fr H => AQ (AG 7 (Ag 5 [(11, Ai (p1.length : Int))] 15 0 1 A H fun fr t H => ?_)))
 refine AO 1 [(16, .bool (decide ((p1.length : Int) > p0.Bd)))] H fun fr H => Ad 16 H hm (fun hb hm H => ?_) fun hb hm H => ?_
 ·refine AG 2 (AO 2 [(6, .str ([] : List UInt8)), (7, Ai 7)] H fun fr H => AU ?_)
  obtain ⟨rfl, rfl⟩ := Cw hm
  exact ⟨.inl rfl, _, rH H, rfl, A⟩
 refine Bf id (AQ (AG 6 (Ag 3 [] 20 0 0 A H fun fr t H => ?_)))
 refine AO 2 [(21, Ai (p0.l_.length : Int)), (22, Ai 0)] H fun fr H => AV (id := 0) (by kernel_rfl) ?_
 obtain ⟨o1, ho, hm⟩ := bind_some hm
 refine Ax (Q' := fun e fr' h' => (∃ x3, e = .exit 0 ∧ x3 = o1 ∧ Has fr' 43 [(1, .str x3)] ∧ HH g h' [.obj bp0 (.cells none 2 [AF rp0_0 p0.l_.length, Ai p0.Bd]), .AI rp0_0 142 (AI (eP AL) p0.l_)] F) ∨ False) ?_ ?_
 ·refine Bh (by kernel_rfl) (fun (s : (List UInt8) × Int) fr' h' => ∃ x1 x2, (x1, x2) = s ∧ Has fr' 43 [(0, .ptr (some (bp0, 0))), (1, .str x1), (2, .func (.func 148) [] []), (20, AF rp0_0 p0.l_.length), (21, Ai (p0.l_.length : Int)), (22, Ai x2)] ∧ HH g h' [.obj bp0 (.cells none 2 [AF rp0_0 p0.l_.length, Ai p0.Bd]), .AI rp0_0 142 (AI (eP AL) p0.l_)] F) ho ⟨_, _, rfl, H.ls, A⟩ ?_
  clear ho hm H A
  intro s q fr h1 hI hm
  obtain ⟨x1, x2, rfl, H, A⟩ := hI
  unfold FX at hm
  refine AG 1 (AO 1 [(23, .bool (decide (x2 < (p0.l_.length : Int))))] H fun fr H => AQ (Ad 23 H hm (fun hb hm H => ?_) fun hb hm H => ?_))
  ·refine Bf id (AQ ?_)
   obtain ⟨o2, ho, hm⟩ := bind_some hm
   refine Ax (Q' := fun e fr' h' => (∃ x4, e = .normal ∧ x4 = o2 ∧ Has fr' 43 [(0, .ptr (some (bp0, 0))), (1, .str x4), (2, .func (.func 148) [] []), (20, AF rp0_0 p0.l_.length), (21, Ai (p0.l_.length : Int)), (22, Ai x2)] ∧ HH g h' [.obj bp0 (.cells none 2 [AF rp0_0 p0.l_.length, Ai p0.Bd]), .AI rp0_0 142 (AI (eP AL) p0.l_)] F) ∨ False) ?_ ?_
   ·replace hm := ho
    clear ho
    refine AV (id := 1) (by kernel_rfl) ?_
    refine AG 3 ?_
    obtain ⟨x5, hx, hm⟩ := bind_some hm
    obtain ⟨i1, er1, _, hx, hq1⟩ := HH.Kn (RL _) (by decide) A 1 (xs := p0.l_) rfl hx
    refine Aq 24 (.ptr (some (i1, x2.toNat * 1))) h1 H (fun fr => .of (Dc (s := Cs rp0_0 p0.l_.length) (by kernel_rfl) hx)) fun fr t H => ?_
    refine Aq 25 _ _ H (fun fr => .of (Da (by kernel_rfl) (DD (RL _) (HH.row A 1 rfl er1) hq1 (o := 0) rfl))) fun fr t H => ?_
    refine AO 1 [(9, .A8 (AL x5))] H fun fr H => AQ (AG 5 ?_)
    obtain ⟨x6, hx, hm⟩ := bind_some hm
    obtain ⟨v1, h2, hr, rfl, A1⟩ := Fq (av := [.A8 (AL x5)]) hx (A.cut 0)
    replace A := A.EX A1
    refine A0 2 [(26, .func (.func 148) [] [])] 28 hr H fun fr t H => ?_
    obtain ⟨x7, hx, hm⟩ := bind_some hm
    obtain ⟨v1, h3, hr, rfl, A1⟩ := PI (av := [.agg (AJ x6)]) hx (A.cut 0)
    replace A := A.EX A1
    refine BA 29 hr H fun fr t H => ?_
    refine AO 1 [(30, .bool (!x7))] H fun fr H => Ad 30 H hm (fun hb hm H => ?_) fun hb hm H => ?_
    ·refine BU (i := 1) (by kernel_rfl) ?_
     exact .inl ⟨_, rfl, AY hm, H.ls, A⟩
    refine Ce 4 id ?_
    cases hm
   clear ho
   clear A
   intro e fr h4 hQ
   rcases hQ with ⟨x4, rfl, rfl, H, A⟩ | hF
   ·show AW _ _ _ _ _ _ _
    refine Cy 2 (BV 2 [(0, .ptr (some (bp0, 0))), (1, .str x4), (2, .func (.func 148) [] []), (20, AF rp0_0 p0.l_.length), (21, Ai (p0.l_.length : Int)), (22, Ai (IntKind.i64.wrap (x2 + 1)))] H fun fr H => at_nil ?_)
    exact nx hm ⟨_, _, rfl, H.ls, A⟩
   exact hF.elim
  refine BU (i := 0) (by kernel_rfl) ?_
  exact nr hm fun e => .inl ⟨_, rfl, e, H.ls, A⟩
 clear ho
 clear A
 intro e fr h5 hQ
 rcases hQ with ⟨x3, rfl, rfl, H, A⟩ | hF
 ·show AW _ _ _ _ _ _ _
  refine AG 3 (AO 3 [(6, .str x3), (7, Ai 0)] H fun fr H => AU ?_)
  obtain ⟨rfl, rfl⟩ := Cw hm
  exact ⟨.inl rfl, _, rH H, rfl, A⟩
 exact hF.elim
def FB (p0 : CQ) (p1 : List UInt8) : Option ((List UInt8) × Int) :=
 (Ec p0 p1).bind fun (x1, x2) => some (x1, x2)
theorem Jq {p0 p1 bp0 rp0_0 q0 q1} (hm : FB p0 p1 = some (q0, q1)) (A : HH g h [.obj bp0 (.cells none 2 [AF rp0_0 p0.l_.length, Ai p0.Bd]), .AI rp0_0 142 (AI (eP AL) p0.l_)] F) (hc : BF (cfg.still 83) av = [.ptr (some (bp0, 0)), .str p1] := by kernel_rfl) : ∃ v h', BL cfg g h 83 av v h' ∧ v = .tuple [.str q0, Ai q1] ∧ HH g h' [.obj bp0 (.cells none 2 [AF rp0_0 p0.l_.length, Ai p0.Bd]), .AI rp0_0 142 (AI (eP AL) p0.l_)] F := by
 refine Dr 11 [.tmp 4, .tmp 5] hc ?_
 clear hc
 unfold FB at hm
 refine bg 11 [(0, .ptr (some (bp0, 0))), (1, .str p1)] fun fr H => ?_
 refine AG 2 (Bc 2 [] 7 H fun fr H => ?_)
 obtain ⟨⟨x1, x2⟩, hx, hm⟩ := bind_some hm
 obtain ⟨v1, h1, hr, rfl, A1⟩ := Ia (av := [.ptr (some (bp0, 0)), .str p1, .func (.func 148) [] []]) hx (A.cut 2)
 replace A := A.g22 A1
 refine A0 2 [] 8 hr H fun fr t H => ?_
 refine AO 4 [(4, .str x1), (5, Ai x2)] H fun fr H => AU ?_
 obtain ⟨rfl, rfl⟩ := Cw hm
 exact ⟨.inl rfl, _, rH H, rfl, A⟩
def KI (p0 : Az) : Option (Bool) :=
 some p0.Vp
theorem P1 {p0 q0} (hm : KI p0 = some q0) (A : HH g h [] F) (hc : BF (cfg.still 84) av = [.agg (AJ p0)] := by kernel_rfl) : ∃ v h', BL cfg g h 84 av v h' ∧ v = .bool q0 ∧ HH g h' [] F := by
 refine Dr 5 [.tmp 2] hc ?_
 clear hc
 unfold KI at hm
 refine bg 5 [(0, .agg (AJ p0))] fun fr H => ?_
 refine AG 2 ?_
 obtain ⟨h1, e1, A⟩ := A.pu (.cells none 2 (AJ p0))
 refine BB 1 (.ptr (some (h.size, 0))) e1 H fun fr t H => ?_
 refine Bc 1 [] 3 H fun fr H => Ag 1 [] 4 0 7 A H fun fr t H => ?_
 refine AO 1 [(2, .bool p0.Vp)] H fun fr H => AU ?_
 obtain rfl := AY hm
 refine ⟨.inl rfl, .bool p0.Vp, rH H, ?_⟩
 replace A := A.d0
 exact ⟨rfl, A⟩
def E4 (p0 : CQ) (s : (List UInt8) × Int) : Option (((List UInt8) × Int) ⊕ (((List UInt8)))) :=
 match s with
 | (x1, x2) => Aa (decide (x2 < (p0.l_.length : Int))) (((Fc p0.l_ x2).bind fun x5 => (Dx x5).bind fun x6 => (KI x6).bind fun x7 => Aa (!x7) (some x1) (none) : Option (((List UInt8)))).bind fun x4 => some (.inl (x4, IntKind.i64.wrap (x2 + 1)))) (some (.inr x1))
def D9 (p0 : CQ) (p1 : List UInt8) : Option ((List UInt8) × Int) :=
 Aa (decide ((p1.length : Int) > p0.Bd)) (some (([] : List UInt8), (7 : Int))) ((loop (E4 p0) (p1, (0 : Int))).bind fun x3 => some (x3, (0 : Int)))
theorem Hy {p0 p1 bp0 rp0_0 q0 q1} (hm : D9 p0 p1 = some (q0, q1)) (A : HH g h [.obj bp0 (.cells none 2 [AF rp0_0 p0.l_.length, Ai p0.Bd]), .AI rp0_0 142 (AI (eP AL) p0.l_)] F) (hc : BF (cfg.still 86) av = [.ptr (some (bp0, 0)), .str p1, .func (.func 84) [] []] := by kernel_rfl) : ∃ v h', BL cfg g h 86 av v h' ∧ v = .tuple [.str q0, Ai q1] ∧ HH g h' [.obj bp0 (.cells none 2 [AF rp0_0 p0.l_.length, Ai p0.Bd]), .AI rp0_0 142 (AI (eP AL) p0.l_)] F := by
 refine Dr 43 [.tmp 6, .tmp 7] hc ?_
 clear hc
 unfold D9 at hm
 refine bg 43 [(0, .ptr (some (bp0, 0))), (1, .str p1), (2, .func (.func 84) [] [])] fun fr H => ?_
 refine AG 2 (AO 2 [] H fun fr H => AQ (AG 7 (Ag 5 [(11, Ai (p1.length : Int))] 15 0 1 A H fun fr t H => ?_)))
 refine AO 1 [(16, .bool (decide ((p1.length : Int) > p0.Bd)))] H fun fr H => Ad 16 H hm (fun hb hm H => ?_) fun hb hm H => ?_
 ·refine AG 2 (AO 2 [(6, .str ([] : List UInt8)), (7, Ai 7)] H fun fr H => AU ?_)
  obtain ⟨rfl, rfl⟩ := Cw hm
  exact ⟨.inl rfl, _, rH H, rfl, A⟩
 refine Bf id (AQ (AG 6 (Ag 3 [] 20 0 0 A H fun fr t H => ?_)))
 refine AO 2 [(21, Ai (p0.l_.length : Int)), (22, Ai 0)] H fun fr H => AV (id := 0) (by kernel_rfl) ?_
 obtain ⟨o1, ho, hm⟩ := bind_some hm
 refine Ax (Q' := fun e fr' h' => (∃ x3, e = .exit 0 ∧ x3 = o1 ∧ Has fr' 43 [(1, .str x3)] ∧ HH g h' [.obj bp0 (.cells none 2 [AF rp0_0 p0.l_.length, Ai p0.Bd]), .AI rp0_0 142 (AI (eP AL) p0.l_)] F) ∨ False) ?_ ?_
 ·refine Bh (by kernel_rfl) (fun (s : (List UInt8) × Int) fr' h' => ∃ x1 x2, (x1, x2) = s ∧ Has fr' 43 [(0, .ptr (some (bp0, 0))), (1, .str x1), (2, .func (.func 84) [] []), (20, AF rp0_0 p0.l_.length), (21, Ai (p0.l_.length : Int)), (22, Ai x2)] ∧ HH g h' [.obj bp0 (.cells none 2 [AF rp0_0 p0.l_.length, Ai p0.Bd]), .AI rp0_0 142 (AI (eP AL) p0.l_)] F) ho ⟨_, _, rfl, H.ls, A⟩ ?_
  clear ho hm H A
  intro s q fr h1 hI hm
  obtain ⟨x1, x2, rfl, H, A⟩ := hI
  unfold E4 at hm
  refine AG 1 (AO 1 [(23, .bool (decide (x2 < (p0.l_.length : Int))))] H fun fr H => AQ (Ad 23 H hm (fun hb hm H => ?_) fun hb hm H => ?_))
  ·refine Bf id (AQ ?_)
   obtain ⟨o2, ho, hm⟩ := bind_some hm
   refine Ax (Q' := fun e fr' h' => (∃ x4, e = .normal ∧ x4 = o2 ∧ Has fr' 43 [(0, .ptr (some (bp0, 0))), (1, .str x4), (2, .func (.func 84) [] []), (20, AF rp0_0 p0.l_.length), (21, Ai (p0.l_.length : Int)), (22, Ai x2)] ∧ HH g h' [.obj bp0 (.cells none 2 [AF rp0_0 p0.l_.length, Ai p0.Bd]), .AI rp0_0 142 (AI (eP AL) p0.l_)] F) ∨ False) ?_ ?_
   ·replace hm := ho
    clear ho
    refine AV (id := 1) (by kernel_rfl) ?_
    refine AG 3 ?_
    obtain ⟨x5, hx, hm⟩ := bind_some hm
    obtain ⟨i1, er1, _, hx, hq1⟩ := HH.Kn (RL _) (by decide) A 1 (xs := p0.l_) rfl hx
    refine Aq 24 (.ptr (some (i1, x2.toNat * 1))) h1 H (fun fr => .of (Dc (s := Cs rp0_0 p0.l_.length) (by kernel_rfl) hx)) fun fr t H => ?_
    refine Aq 25 _ _ H (fun fr => .of (Da (by kernel_rfl) (DD (RL _) (HH.row A 1 rfl er1) hq1 (o := 0) rfl))) fun fr t H => ?_
    refine AO 1 [(9, .A8 (AL x5))] H fun fr H => AQ (AG 5 ?_)
    obtain ⟨x6, hx, hm⟩ := bind_some hm
    obtain ⟨v1, h2, hr, rfl, A1⟩ := Fq (av := [.A8 (AL x5)]) hx (A.cut 0)
    replace A := A.EX A1
    refine A0 2 [(26, .func (.func 84) [] [])] 28 hr H fun fr t H => ?_
    obtain ⟨x7, hx, hm⟩ := bind_some hm
    obtain ⟨v1, h3, hr, rfl, A1⟩ := P1 (av := [.agg (AJ x6)]) hx (A.cut 0)
    replace A := A.EX A1
    refine BA 29 hr H fun fr t H => ?_
    refine AO 1 [(30, .bool (!x7))] H fun fr H => Ad 30 H hm (fun hb hm H => ?_) fun hb hm H => ?_
    ·refine BU (i := 1) (by kernel_rfl) ?_
     exact .inl ⟨_, rfl, AY hm, H.ls, A⟩
    refine Ce 4 id ?_
    cases hm
   clear ho
   clear A
   intro e fr h4 hQ
   rcases hQ with ⟨x4, rfl, rfl, H, A⟩ | hF
   ·show AW _ _ _ _ _ _ _
    refine Cy 2 (BV 2 [(0, .ptr (some (bp0, 0))), (1, .str x4), (2, .func (.func 84) [] []), (20, AF rp0_0 p0.l_.length), (21, Ai (p0.l_.length : Int)), (22, Ai (IntKind.i64.wrap (x2 + 1)))] H fun fr H => at_nil ?_)
    exact nx hm ⟨_, _, rfl, H.ls, A⟩
   exact hF.elim
  refine BU (i := 0) (by kernel_rfl) ?_
  exact nr hm fun e => .inl ⟨_, rfl, e, H.ls, A⟩
 clear ho
 clear A
 intro e fr h5 hQ
 rcases hQ with ⟨x3, rfl, rfl, H, A⟩ | hF
 ·show AW _ _ _ _ _ _ _
  refine AG 3 (AO 3 [(6, .str x3), (7, Ai 0)] H fun fr H => AU ?_)
  obtain ⟨rfl, rfl⟩ := Cw hm
  exact ⟨.inl rfl, _, rH H, rfl, A⟩
 exact hF.elim
def Dg (p0 : List UInt8) (p1 : List UInt8) : Option (Bool) :=
 (D1 p0 (0 : Int)).bind fun x1 => (Aa (decide (x1 ≥ 0)) ((D1 p1 (0 : Int)).bind fun x3 => some (decide (x3 < 0))) (some false) : Option (Bool)).bind fun x2 => some x2
theorem Ed {p0 p1 q0} (hm : Dg p0 p1 = some q0) (A : HH g h [] F) (hc : BF (cfg.still 87) av = [.str p0, .str p1] := by kernel_rfl) : ∃ v h', BL cfg g h 87 av v h' ∧ v = .bool q0 ∧ HH g h' [] F := by
 refine Dr 13 [.tmp 4] hc ?_
 clear hc
 unfold Dg at hm
 refine bg 13 [(0, .str p0), (1, .str p1)] fun fr H => ?_
 refine AG 1 (Bc 1 [] 9 H fun fr H => ?_)
 obtain ⟨x1, hx, hm⟩ := bind_some hm
 obtain ⟨v1, h1, hr, rfl, A1⟩ := Fx (av := [.str p0, Ab 0]) hx (A.cut 0)
 replace A := A.EX A1
 refine A0 1 [] 6 hr H fun fr t H => ?_
 refine AK 2 [(8, .bool (decide (x1 ≥ 0)))] H fun fr H => ?_
 obtain ⟨x2, ho, hm⟩ := bind_some hm
 refine A9 4 (fun fr' h' => Has fr' 13 [(12, .bool x2)] ∧ HH g h' [] F) ?_ ?_
 ·rcases AX ho with ⟨hb, hm⟩ | ⟨hb, hm⟩
  ·replace H := H.kn 8 hb
   obtain ⟨x3, hx, hm⟩ := bind_some hm
   obtain ⟨v1, h3, hr, rfl, A1⟩ := Fx (av := [.str p1, Ab 0]) hx (A.cut 0)
   replace A := A.EX A1
   refine A0 1 [] 10 hr H fun fr t H => ?_
   refine AK 2 [(12, .bool (decide (x3 < 0)))] H fun fr H => ?_
   obtain rfl := AY hm
   exact at_nil ⟨H.ls, A⟩
  replace H := H.kn 8 hb
  refine AK 4 [(12, .bool false)] H fun fr H => ?_
  obtain rfl := AY hm
  exact at_nil ⟨H.ls, A⟩
 clear A
 intro t fr h2 hK
 obtain ⟨H, A⟩ := hK
 refine AO 1 [(4, .bool x2)] H fun fr H => AU ?_
 obtain rfl := AY hm
 exact ⟨.inl rfl, _, rH H, rfl, A⟩
def KS (p0 : Az) : Option (Bool) :=
 some p0.VZ
theorem Pl {p0 q0} (hm : KS p0 = some q0) (A : HH g h [] F) (hc : BF (cfg.still 85) av = [.agg (AJ p0)] := by kernel_rfl) : ∃ v h', BL cfg g h 85 av v h' ∧ v = .bool q0 ∧ HH g h' [] F := by
 refine Dr 5 [.tmp 2] hc ?_
 clear hc
 unfold KS at hm
 refine bg 5 [(0, .agg (AJ p0))] fun fr H => ?_
 refine AG 2 ?_
 obtain ⟨h1, e1, A⟩ := A.pu (.cells none 2 (AJ p0))
 refine BB 1 (.ptr (some (h.size, 0))) e1 H fun fr t H => ?_
 refine Bc 1 [] 3 H fun fr H => Ag 1 [] 4 0 8 A H fun fr t H => ?_
 refine AO 1 [(2, .bool p0.VZ)] H fun fr H => AU ?_
 obtain rfl := AY hm
 refine ⟨.inl rfl, .bool p0.VZ, rH H, ?_⟩
 replace A := A.d0
 exact ⟨rfl, A⟩
def E3 (p0 : CQ) (s : (List UInt8) × Int) : Option (((List UInt8) × Int) ⊕ (((List UInt8)))) :=
 match s with
 | (x1, x2) => Aa (decide (x2 < (p0.l_.length : Int))) (((Fc p0.l_ x2).bind fun x5 => (Dx x5).bind fun x6 => (KS x6).bind fun x7 => Aa (!x7) (some x1) (none) : Option (((List UInt8)))).bind fun x4 => some (.inl (x4, IntKind.i64.wrap (x2 + 1)))) (some (.inr x1))
def D6 (p0 : CQ) (p1 : List UInt8) : Option ((List UInt8) × Int) :=
 Aa (decide ((p1.length : Int) > p0.Bd)) (some (([] : List UInt8), (7 : Int))) ((loop (E3 p0) (p1, (0 : Int))).bind fun x3 => some (x3, (0 : Int)))
theorem H3 {p0 p1 bp0 rp0_0 q0 q1} (hm : D6 p0 p1 = some (q0, q1)) (A : HH g h [.obj bp0 (.cells none 2 [AF rp0_0 p0.l_.length, Ai p0.Bd]), .AI rp0_0 142 (AI (eP AL) p0.l_)] F) (hc : BF (cfg.still 86) av = [.ptr (some (bp0, 0)), .str p1, .func (.func 85) [] []] := by kernel_rfl) : ∃ v h', BL cfg g h 86 av v h' ∧ v = .tuple [.str q0, Ai q1] ∧ HH g h' [.obj bp0 (.cells none 2 [AF rp0_0 p0.l_.length, Ai p0.Bd]), .AI rp0_0 142 (AI (eP AL) p0.l_)] F := by
 refine Dr 43 [.tmp 6, .tmp 7] hc ?_
 clear hc
 unfold D6 at hm
 refine bg 43 [(0, .ptr (some (bp0, 0))), (1, .str p1), (2, .func (.func 85) [] [])] fun fr H => ?_
 refine AG 2 (AO 2 [] H fun fr H => AQ (AG 7 (Ag 5 [(11, Ai (p1.length : Int))] 15 0 1 A H fun fr t H => ?_)))
 refine AO 1 [(16, .bool (decide ((p1.length : Int) > p0.Bd)))] H fun fr H => Ad 16 H hm (fun hb hm H => ?_) fun hb hm H => ?_
 ·refine AG 2 (AO 2 [(6, .str ([] : List UInt8)), (7, Ai 7)] H fun fr H => AU ?_)
  obtain ⟨rfl, rfl⟩ := Cw hm
  exact ⟨.inl rfl, _, rH H, rfl, A⟩
 refine Bf id (AQ (AG 6 (Ag 3 [] 20 0 0 A H fun fr t H => ?_)))
 refine AO 2 [(21, Ai (p0.l_.length : Int)), (22, Ai 0)] H fun fr H => AV (id := 0) (by kernel_rfl) ?_
 obtain ⟨o1, ho, hm⟩ := bind_some hm
 refine Ax (Q' := fun e fr' h' => (∃ x3, e = .exit 0 ∧ x3 = o1 ∧ Has fr' 43 [(1, .str x3)] ∧ HH g h' [.obj bp0 (.cells none 2 [AF rp0_0 p0.l_.length, Ai p0.Bd]), .AI rp0_0 142 (AI (eP AL) p0.l_)] F) ∨ False) ?_ ?_
 ·refine Bh (by kernel_rfl) (fun (s : (List UInt8) × Int) fr' h' => ∃ x1 x2, (x1, x2) = s ∧ Has fr' 43 [(0, .ptr (some (bp0, 0))), (1, .str x1), (2, .func (.func 85) [] []), (20, AF rp0_0 p0.l_.length), (21, Ai (p0.l_.length : Int)), (22, Ai x2)] ∧ HH g h' [.obj bp0 (.cells none 2 [AF rp0_0 p0.l_.length, Ai p0.Bd]), .AI rp0_0 142 (AI (eP AL) p0.l_)] F) ho ⟨_, _, rfl, H.ls, A⟩ ?_
  clear ho hm H A
  intro s q fr h1 hI hm
  obtain ⟨x1, x2, rfl, H, A⟩ := hI
  unfold E3 at hm
  refine AG 1 (AO 1 [(23, .bool (decide (x2 < (p0.l_.length : Int))))] H fun fr H => AQ (Ad 23 H hm (fun hb hm H => ?_) fun hb hm H => ?_))
  ·refine Bf id (AQ ?_)
   obtain ⟨o2, ho, hm⟩ := bind_some hm
   refine Ax (Q' := fun e fr' h' => (∃ x4, e = .normal ∧ x4 = o2 ∧ Has fr' 43 [(0, .ptr (some (bp0, 0))), (1, .str x4), (2, .func (.func 85) [] []), (20, AF rp0_0 p0.l_.length), (21, Ai (p0.l_.length : Int)), (22, Ai x2)] ∧ HH g h' [.obj bp0 (.cells none 2 [AF rp0_0 p0.l_.length, Ai p0.Bd]), .AI rp0_0 142 (AI (eP AL) p0.l_)] F) ∨ False) ?_ ?_
   ·replace hm := ho
    clear ho
    refine AV (id := 1) (by kernel_rfl) ?_
    refine AG 3 ?_
    obtain ⟨x5, hx, hm⟩ := bind_some hm
    obtain ⟨i1, er1, _, hx, hq1⟩ := HH.Kn (RL _) (by decide) A 1 (xs := p0.l_) rfl hx
    refine Aq 24 (.ptr (some (i1, x2.toNat * 1))) h1 H (fun fr => .of (Dc (s := Cs rp0_0 p0.l_.length) (by kernel_rfl) hx)) fun fr t H => ?_
    refine Aq 25 _ _ H (fun fr => .of (Da (by kernel_rfl) (DD (RL _) (HH.row A 1 rfl er1) hq1 (o := 0) rfl))) fun fr t H => ?_
    refine AO 1 [(9, .A8 (AL x5))] H fun fr H => AQ (AG 5 ?_)
    obtain ⟨x6, hx, hm⟩ := bind_some hm
    obtain ⟨v1, h2, hr, rfl, A1⟩ := Fq (av := [.A8 (AL x5)]) hx (A.cut 0)
    replace A := A.EX A1
    refine A0 2 [(26, .func (.func 85) [] [])] 28 hr H fun fr t H => ?_
    obtain ⟨x7, hx, hm⟩ := bind_some hm
    obtain ⟨v1, h3, hr, rfl, A1⟩ := Pl (av := [.agg (AJ x6)]) hx (A.cut 0)
    replace A := A.EX A1
    refine BA 29 hr H fun fr t H => ?_
    refine AO 1 [(30, .bool (!x7))] H fun fr H => Ad 30 H hm (fun hb hm H => ?_) fun hb hm H => ?_
    ·refine BU (i := 1) (by kernel_rfl) ?_
     exact .inl ⟨_, rfl, AY hm, H.ls, A⟩
    refine Ce 4 id ?_
    cases hm
   clear ho
   clear A
   intro e fr h4 hQ
   rcases hQ with ⟨x4, rfl, rfl, H, A⟩ | hF
   ·show AW _ _ _ _ _ _ _
    refine Cy 2 (BV 2 [(0, .ptr (some (bp0, 0))), (1, .str x4), (2, .func (.func 85) [] []), (20, AF rp0_0 p0.l_.length), (21, Ai (p0.l_.length : Int)), (22, Ai (IntKind.i64.wrap (x2 + 1)))] H fun fr H => at_nil ?_)
    exact nx hm ⟨_, _, rfl, H.ls, A⟩
   exact hF.elim
  refine BU (i := 0) (by kernel_rfl) ?_
  exact nr hm fun e => .inl ⟨_, rfl, e, H.ls, A⟩
 clear ho
 clear A
 intro e fr h5 hQ
 rcases hQ with ⟨x3, rfl, rfl, H, A⟩ | hF
 ·show AW _ _ _ _ _ _ _
  refine AG 3 (AO 3 [(6, .str x3), (7, Ai 0)] H fun fr H => AU ?_)
  obtain ⟨rfl, rfl⟩ := Cw hm
  exact ⟨.inl rfl, _, rH H, rfl, A⟩
 exact hF.elim
def DK (p0 : List Ao) (s : Int) : Option ((Int) ⊕ ((Unit) ⊕ (Bool))) :=
 match s with
 | x1 => Aa (decide (x1 < (p0.length : Int))) ((Fc p0 x1).bind fun x3 => (Aa (decide ((x3.Key.length : Int) > 300)) (some true) ((Fc p0 x1).bind fun x5 => some (decide ((x5.Value.length : Int) > 300))) : Option (Bool)).bind fun x4 => Aa x4 (some (.inr (.inr true))) (some (.inl (IntKind.i64.wrap (x1 + 1))))) (some (.inr (.inl ())))
def Dz (p0 : List Ao) : Option (Bool) :=
 Aa (decide ((p0.length : Int) > 12)) (some true) ((loop (DK p0) (0 : Int)).bind fun o1 => (match o1 with | .inl _ => some false | .inr x2 => some x2))
theorem LQ {p0 q0} (hm : Dz p0 = some q0) (A : HH g h [] F) (hc : BF (cfg.still 35) av = [vs As p0] := by kernel_rfl) : ∃ v h', BL cfg g h 35 av v h' ∧ v = .bool q0 ∧ HH g h' [] F := by
 refine Dr 29 [.tmp 2] hc ?_
 clear hc
 unfold Dz at hm
 refine bg 29 [(0, vs As p0)] fun fr H => ?_
 refine AG 1 (AO 1 [] H fun fr H => AQ (AG 3 (AO 3 [(6, .bool (decide ((p0.length : Int) > 12)))] H fun fr H => Ad 6 H hm (fun hb hm H => ?_) fun hb hm H => ?_)))
 ·refine AG 1 (AO 1 [(2, .bool true)] H fun fr H => AU ?_)
  obtain rfl := AY hm
  exact ⟨.inl rfl, _, rH H, rfl, A⟩
 refine Bf id (AQ (AG 1 (AO 1 [(3, Ai 0)] H fun fr H => AV (id := 0) (by kernel_rfl) ?_)))
 obtain ⟨o1, ho, hm⟩ := bind_some hm
 refine Ax (Q' := fun e fr' h' => (e = .exit 0 ∧ .inl () = o1 ∧ Has fr' 29 [] ∧ HH g h' [] F) ∨ (∃ x2, e = .ret ∧ .inr x2 = o1 ∧ Has fr' 29 [(2, .bool x2)] ∧ HH g h' [] F) ∨ False) ?_ ?_
 ·refine Bh (by kernel_rfl) (fun (s : Int) fr' h' => ∃ x1, x1 = s ∧ Has fr' 29 [(0, vs As p0), (3, Ai x1)] ∧ HH g h' [] F) ho ⟨_, rfl, H.ls, A⟩ ?_
  clear ho hm H A
  intro s q fr h1 hI hm
  obtain ⟨x1, rfl, H, A⟩ := hI
  unfold DK at hm
  refine AQ (AG 4 (AO 4 [(10, .bool (decide (x1 < (p0.length : Int))))] H fun fr H => Ad 10 H hm (fun hb hm H => ?_) fun hb hm H => ?_))
  ·refine Bf id (AQ (AV (id := 1) (by kernel_rfl) ?_))
   refine AG 16 ?_
   obtain ⟨x3, hx, hm⟩ := bind_some hm
   refine Ap 2 [] 15 (.A8 [.str x3.Key, .str x3.Value]) h1 H (fun fr => .of (GC (e := As) (x := x3) CN (by decide) (by kernel_rfl) hx)) fun fr t H => ?_
   refine Ap 1 [] 17 (.str x3.Key) h1 H (fun fr => .of (G0 (by kernel_rfl))) fun fr t H => ?_
   refine AK 3 [(20, .bool (decide ((x3.Key.length : Int) > 300)))] H fun fr H => ?_
   obtain ⟨x4, ho, hm⟩ := bind_some hm
   refine A9 8 (fun fr' h' => Has fr' 29 [(0, vs As p0), (3, Ai x1), (28, .bool x4)] ∧ HH g h' [] F) ?_ ?_
   ·rcases AX ho with ⟨hb, hm⟩ | ⟨hb, hm⟩
    ·replace H := H.kn 20 hb
     refine AK 8 [(28, .bool true)] H fun fr H => ?_
     obtain rfl := AY hm
     exact at_nil ⟨H.ls, A⟩
    replace H := H.kn 20 hb
    obtain ⟨x5, hx, hm⟩ := bind_some hm
    refine Ap 2 [] 23 (.A8 [.str x5.Key, .str x5.Value]) h1 H (fun fr => .of (GC (e := As) (x := x5) CN (by decide) (by kernel_rfl) hx)) fun fr t H => ?_
    refine Ap 1 [] 25 (.str x5.Value) h1 H (fun fr => .of (G0 (by kernel_rfl))) fun fr t H => ?_
    refine AK 3 [(28, .bool (decide ((x5.Value.length : Int) > 300)))] H fun fr H => ?_
    obtain rfl := AY hm
    exact at_nil ⟨H.ls, A⟩
   clear A
   intro t fr h2 hK
   obtain ⟨H, A⟩ := hK
   refine BJ id (Ad 28 H hm (fun hb hm H => ?_) fun hb hm H => ?_)
   ·refine AG 1 (AO 1 [(2, .bool true)] H fun fr H => AU ?_)
    exact nr hm fun e => Or.inr (.inl ⟨_, rfl, e, H.ls, A⟩)
   refine Fh 3 id (BV 3 [(0, vs As p0), (3, Ai (IntKind.i64.wrap (x1 + 1)))] H fun fr H => at_nil ?_)
   exact nx hm ⟨_, rfl, H.ls, A⟩
  refine BU (i := 0) (by kernel_rfl) ?_
  exact nr hm fun e => .inl ⟨rfl, e, H.ls, A⟩
 clear ho
 clear A
 intro e fr h3 hQ
 rcases hQ with ⟨rfl, rfl, H, A⟩ | ⟨x2, rfl, rfl, H, A⟩ | hF
 ·show AW _ _ _ _ _ _ _
  refine AG 1 (AO 1 [(2, .bool false)] H fun fr H => AU ?_)
  obtain rfl := AY hm
  exact ⟨.inl rfl, _, rH H, rfl, A⟩
 ·obtain rfl := AY hm
  exact ⟨.inl rfl, _, rH H, rfl, A⟩
 exact hF.elim
def Cl (p0 : AN) : Option (Bool) :=
 (Dz p0.Extra).bind fun x1 => some (((((x1 || (decide ((p0.Name.length : Int) > 600))) || (decide ((p0.FE.length : Int) > 600))) || (decide ((p0.FF.length : Int) > 100))) || (decide ((p0.F3.length : Int) > 100))) || (decide ((p0.Data.length : Int) > 2000)))
theorem Kr {p0 q0} (hm : Cl p0 = some q0) (A : HH g h [] F) (hc : BF (cfg.still 12) av = [.agg (AD p0)] := by kernel_rfl) : ∃ v h', BL cfg g h 12 av v h' ∧ v = .bool q0 ∧ HH g h' [] F := by
 refine Dr 36 [.tmp 2] hc ?_
 clear hc
 unfold Cl at hm
 refine bg 36 [(0, .agg (AD p0))] fun fr H => ?_
 refine AG 2 ?_
 obtain ⟨h1, e1, A⟩ := A.pu (.cells none 2 (AD p0))
 refine BB 1 (.ptr (some (h.size, 0))) e1 H fun fr t H => ?_
 refine Bc 1 [] 34 H fun fr H => Ag 1 [] 4 0 12 A H fun fr t H => ?_
 obtain ⟨x1, hx, hm⟩ := bind_some hm
 obtain ⟨v1, h2, hr, rfl, A1⟩ := LQ (av := [vs As p0.Extra]) hx (A.cut 0)
 replace A : HH g h2 [.obj h.size (.cells none 2 (AD p0))] F := A.CY (n := 0) A1
 refine BA 5 hr H fun fr t H => ?_
 refine AK 1 [(6, .bool x1)] H fun fr H => A9 5 (fun fr' h' => h2 = h' ∧ Has fr' 36 [(1, .ptr (some (h.size, 0))), (11, .bool (x1 || (decide ((p0.Name.length : Int) > 600))))]) ?_ ?_
 ·cases hb : (x1 : Bool) with
  | true =>
   replace H := H.kn 6 hb
   exact AK 5 [(11, .bool true)] H fun fr H => BH H hb
  | false =>
   replace H := H.kn 6 hb
   refine Ag 1 [] 8 0 0 A H fun fr t H => ?_
   exact AK 3 [(11, .bool (decide ((p0.Name.length : Int) > 600)))] H fun fr H => BH H hb
 intro t fr h' hK
 obtain ⟨e, H⟩ := hK
 subst e
 refine AK 1 [(12, .bool (x1 || (decide ((p0.Name.length : Int) > 600))))] H fun fr H => A9 5 (fun fr' h' => h2 = h' ∧ Has fr' 36 [(1, .ptr (some (h.size, 0))), (17, .bool ((x1 || (decide ((p0.Name.length : Int) > 600))) || (decide ((p0.FE.length : Int) > 600))))]) ?_ ?_
 ·cases hb : (x1 || (decide ((p0.Name.length : Int) > 600)) : Bool) with
  | true =>
   replace H := H.kn 12 hb
   exact AK 5 [(17, .bool true)] H fun fr H => BH H hb
  | false =>
   replace H := H.kn 12 hb
   refine Ag 1 [] 14 0 1 A H fun fr t H => ?_
   exact AK 3 [(17, .bool (decide ((p0.FE.length : Int) > 600)))] H fun fr H => BH H hb
 intro t fr h' hK
 obtain ⟨e, H⟩ := hK
 subst e
 refine AK 1 [(18, .bool ((x1 || (decide ((p0.Name.length : Int) > 600))) || (decide ((p0.FE.length : Int) > 600))))] H fun fr H => A9 5 (fun fr' h' => h2 = h' ∧ Has fr' 36 [(1, .ptr (some (h.size, 0))), (23, .bool (((x1 || (decide ((p0.Name.length : Int) > 600))) || (decide ((p0.FE.length : Int) > 600))) || (decide ((p0.FF.length : Int) > 100))))]) ?_ ?_
 ·cases hb : ((x1 || (decide ((p0.Name.length : Int) > 600))) || (decide ((p0.FE.length : Int) > 600)) : Bool) with
  | true =>
   replace H := H.kn 18 hb
   exact AK 5 [(23, .bool true)] H fun fr H => BH H hb
  | false =>
   replace H := H.kn 18 hb
   refine Ag 1 [] 20 0 6 A H fun fr t H => ?_
   exact AK 3 [(23, .bool (decide ((p0.FF.length : Int) > 100)))] H fun fr H => BH H hb
 intro t fr h' hK
 obtain ⟨e, H⟩ := hK
 subst e
 refine AK 1 [(24, .bool (((x1 || (decide ((p0.Name.length : Int) > 600))) || (decide ((p0.FE.length : Int) > 600))) || (decide ((p0.FF.length : Int) > 100))))] H fun fr H => A9 5 (fun fr' h' => h2 = h' ∧ Has fr' 36 [(1, .ptr (some (h.size, 0))), (29, .bool ((((x1 || (decide ((p0.Name.length : Int) > 600))) || (decide ((p0.FE.length : Int) > 600))) || (decide ((p0.FF.length : Int) > 100))) || (decide ((p0.F3.length : Int) > 100))))]) ?_ ?_
 ·cases hb : (((x1 || (decide ((p0.Name.length : Int) > 600))) || (decide ((p0.FE.length : Int) > 600))) || (decide ((p0.FF.length : Int) > 100)) : Bool) with
  | true =>
   replace H := H.kn 24 hb
   exact AK 5 [(29, .bool true)] H fun fr H => BH H hb
  | false =>
   replace H := H.kn 24 hb
   refine Ag 1 [] 26 0 7 A H fun fr t H => ?_
   exact AK 3 [(29, .bool (decide ((p0.F3.length : Int) > 100)))] H fun fr H => BH H hb
 intro t fr h' hK
 obtain ⟨e, H⟩ := hK
 subst e
 refine AK 1 [(30, .bool ((((x1 || (decide ((p0.Name.length : Int) > 600))) || (decide ((p0.FE.length : Int) > 600))) || (decide ((p0.FF.length : Int) > 100))) || (decide ((p0.F3.length : Int) > 100))))] H fun fr H => A9 5 (fun fr' h' => h2 = h' ∧ Has fr' 36 [(35, .bool (((((x1 || (decide ((p0.Name.length : Int) > 600))) || (decide ((p0.FE.length : Int) > 600))) || (decide ((p0.FF.length : Int) > 100))) || (decide ((p0.F3.length : Int) > 100))) || (decide ((p0.Data.length : Int) > 2000))))]) ?_ ?_
 ·cases hb : ((((x1 || (decide ((p0.Name.length : Int) > 600))) || (decide ((p0.FE.length : Int) > 600))) || (decide ((p0.FF.length : Int) > 100))) || (decide ((p0.F3.length : Int) > 100)) : Bool) with
  | true =>
   replace H := H.kn 30 hb
   exact AK 5 [(35, .bool true)] H fun fr H => BH H hb
  | false =>
   replace H := H.kn 30 hb
   refine Ag 1 [] 32 0 13 A H fun fr t H => ?_
   exact AK 3 [(35, .bool (decide ((p0.Data.length : Int) > 2000)))] H fun fr H => BH H hb
 intro t fr h' hK
 obtain ⟨e, H⟩ := hK
 subst e
 refine AO 1 [(2, .bool (((((x1 || (decide ((p0.Name.length : Int) > 600))) || (decide ((p0.FE.length : Int) > 600))) || (decide ((p0.FF.length : Int) > 100))) || (decide ((p0.F3.length : Int) > 100))) || (decide ((p0.Data.length : Int) > 2000))))] H fun fr H => AU ?_
 obtain rfl := AY hm
 refine ⟨.inl rfl, .bool (((((x1 || (decide ((p0.Name.length : Int) > 600))) || (decide ((p0.FE.length : Int) > 600))) || (decide ((p0.FF.length : Int) > 100))) || (decide ((p0.F3.length : Int) > 100))) || (decide ((p0.Data.length : Int) > 2000))), rH H, ?_⟩
 replace A := A.d0
 exact ⟨rfl, A⟩
def Ek (p0 : List AN) (s : (List ((List UInt8) × Bool)) × Int) : Option (((List ((List UInt8) × Bool)) × Int) ⊕ (((List ((List UInt8) × Bool))))) :=
 match s with
 | (x2, x3) => Aa (decide (x3 < (p0.length : Int))) (((Fc p0 x3).bind fun x6 => (E6 x6.Name x6.Kind x6.Data).bind fun (x7, x8) => Aa x8 ((C2 (⟨x2⟩ : Ay) x7).bind fun x9 => some x9) (some x2) : Option (((List ((List UInt8) × Bool))))).bind fun x5 => some (.inl (x5, IntKind.i64.wrap (x3 + 1)))) (some (.inr x2))
def F5 (p0 : List AN) : Option (Ay) :=
 (Fm).bind fun x1w1 => (loop (Ek p0) (x1w1.Cf, (0 : Int))).bind fun x4 => some (⟨x4⟩ : Ay)
theorem N8 {p0 q00} (hm : F5 p0 = some q00) (A : HH g h [] F) (hc : BF (cfg.still 23) av = [vs AD p0] := by kernel_rfl) : ∃ v h', BL cfg g h 23 av v h' ∧ ∃ (bq00 : Nat) (bq00_0 : Nat), v = .ptr (some (bq00, 0)) ∧ HH g h' [.obj bq00 (.cells none 2 [.map (some bq00_0)]), .obj bq00_0 (.map 2 (BS (fun k : List UInt8 => .str k) (fun v : Bool => .bool v) q00.Cf))] F := by
 refine Dr 31 [.tmp 2] hc ?_
 clear hc
 unfold F5 at hm
 refine bg 31 [(0, vs AD p0)] fun fr H => ?_
 refine AG 1 (Bc 1 [] 2 H fun fr H => ?_)
 obtain ⟨x1w1, hx, hm⟩ := bind_some hm
 obtain ⟨v1, h1, hr, bx1w1, bx1w1_0, rfl, A1⟩ := Kc (av := []) hx (A.cut 0)
 replace A := A.YE A1
 refine BA 8 hr H fun fr t H => ?_
 refine AO 1 [(3, .ptr (some (bx1w1, 0)))] H fun fr H => AQ (AG 3 (AO 3 [(9, vs AD p0), (10, Ai (p0.length : Int)), (11, Ai 0)] H fun fr H => AV (id := 0) (by kernel_rfl) ?_))
 obtain ⟨o1, ho, hm⟩ := bind_some hm
 refine Ax (Q' := fun e fr' h' => (∃ x4, e = .exit 0 ∧ x4 = o1 ∧ Has fr' 31 [(3, .ptr (some (bx1w1, 0)))] ∧ HH g h' [.obj bx1w1 (.cells none 2 [.map (some bx1w1_0)]), .obj bx1w1_0 (.map 2 (BS (fun k : List UInt8 => .str k) (fun v : Bool => .bool v) x4))] F) ∨ False) ?_ ?_
 ·refine Bh (by kernel_rfl) (fun (s : (List ((List UInt8) × Bool)) × Int) fr' h' => ∃ x2 x3, (x2, x3) = s ∧ Has fr' 31 [(3, .ptr (some (bx1w1, 0))), (9, vs AD p0), (10, Ai (p0.length : Int)), (11, Ai x3)] ∧ HH g h' [.obj bx1w1 (.cells none 2 [.map (some bx1w1_0)]), .obj bx1w1_0 (.map 2 (BS (fun k : List UInt8 => .str k) (fun v : Bool => .bool v) x2))] F) ho ⟨_, _, rfl, H.ls, A⟩ ?_
  clear ho hm H A
  intro s q fr h2 hI hm
  obtain ⟨x2, x3, rfl, H, A⟩ := hI
  unfold Ek at hm
  refine AG 1 (AO 1 [(12, .bool (decide (x3 < (p0.length : Int))))] H fun fr H => AQ (Ad 12 H hm (fun hb hm H => ?_) fun hb hm H => ?_))
  ·refine Bf id (AQ ?_)
   obtain ⟨o2, ho, hm⟩ := bind_some hm
   refine Ax (Q' := fun e fr' h' => (∃ x5, e = .normal ∧ x5 = o2 ∧ Has fr' 31 [(3, .ptr (some (bx1w1, 0))), (9, vs AD p0), (10, Ai (p0.length : Int)), (11, Ai x3)] ∧ HH g h' [.obj bx1w1 (.cells none 2 [.map (some bx1w1_0)]), .obj bx1w1_0 (.map 2 (BS (fun k : List UInt8 => .str k) (fun v : Bool => .bool v) x5))] F) ∨ False) ?_ ?_
   ·replace hm := ho
    clear ho
    refine AV (id := 1) (by kernel_rfl) ?_
    refine AG 4 ?_
    obtain ⟨x6, hx, hm⟩ := bind_some hm
    refine Aq 13 (.A8 (AD x6)) h2 H (fun fr => .of (GC (e := AD) (x := x6) Bg (by decide) (by kernel_rfl) hx)) fun fr t H => ?_
    refine Aq 14 (.agg (AD x6)) h2 H (fun fr => .of (G0 (by kernel_rfl))) fun fr t H => ?_
    obtain ⟨h3, e1, A⟩ := A.pu (.cells none 2 [.str ([] : List UInt8), .str ([] : List UInt8), Ab 0, Ai 0, Ai 0, Ai 0, .str ([] : List UInt8), .str ([] : List UInt8), Ai 0, Ai 0, Ai 0, Ai 0, .slice none 0, .str ([] : List UInt8)])
    refine BB 5 (.ptr (some (h2.size, 0))) e1 H fun fr t H => ?_
    obtain ⟨h4, hx, A⟩ := A.s0 0 (AD x6) [_, _, _, _, _, _, _, _, _, _, _, _, _, _]
    refine F4 hx H fun fr t H => ?_
    refine CX 12 id (Ag 1 [] 17 0 0 A H fun fr t H => ?_)
    refine Ag 1 [] 19 0 2 A H fun fr t H => ?_
    refine Ag 1 [] 21 0 13 A H fun fr t H => ?_
    obtain ⟨⟨x7, x8⟩, hx, hm⟩ := bind_some hm
    obtain ⟨v1, h5, hr, rfl, A1⟩ := Kg (av := [.str x6.Name, Ab x6.Kind, .str x6.Data]) hx (A.cut 0)
    replace A := A.EX A1
    refine BA 22 hr H fun fr t H => ?_
    refine Bc 5 [(6, .str x7), (7, .bool x8)] 1 H fun fr H => AO 1 [(25, .bool x8)] H fun fr H => Ad 25 H hm (fun hb hm H => ?_) fun hb hm H => ?_
    ·refine Cy 3 ?_
     replace A := A.k3 1 2 0
     obtain ⟨x9, hx, hm⟩ := bind_some hm
     obtain ⟨v1, h6, hr, rfl, A1⟩ := HN (av := [.ptr (some (bx1w1, 0)), .str x7]) hx (A.cut 2)
     replace A := A.g22 A1
     refine Qk 2 [] hr H fun fr t H => ?_
     refine at_nil ?_
     replace A := A.d2
     exact .inl ⟨_, rfl, AY hm, H.ls, A⟩
    refine FL ?_
    replace A := A.k2 1 2
    exact .inl ⟨_, rfl, AY hm, H.ls, A⟩
   clear ho
   clear A
   intro e fr h7 hQ
   rcases hQ with ⟨x5, rfl, rfl, H, A⟩ | hF
   ·show AW _ _ _ _ _ _ _
    refine Cy 2 (BV 2 [(3, .ptr (some (bx1w1, 0))), (9, vs AD p0), (10, Ai (p0.length : Int)), (11, Ai (IntKind.i64.wrap (x3 + 1)))] H fun fr H => at_nil ?_)
    exact nx hm ⟨_, _, rfl, H.ls, A⟩
   exact hF.elim
  refine BU (i := 0) (by kernel_rfl) ?_
  exact nr hm fun e => .inl ⟨_, rfl, e, H.ls, A⟩
 clear ho
 clear A
 intro e fr h8 hQ
 rcases hQ with ⟨x4, rfl, rfl, H, A⟩ | hF
 ·show AW _ _ _ _ _ _ _
  refine AG 2 (AO 2 [(2, .ptr (some (bx1w1, 0)))] H fun fr H => AU ?_)
  obtain rfl := AY hm
  exact ⟨.inl rfl, _, rH H, _, _, rfl, A⟩
 exact hF.elim
def DT (p0 : Ay) : Option ((List (List UInt8))) :=
 Em (NH (p0.Cf.map Prod.fst)) <| some (J2 (p0.Cf.map Prod.fst))
theorem KP {p0 bp0 bp0_0 q0} (hm : DT p0 = some q0) (A : HH g h [.obj bp0 (.cells none 2 [.map (some bp0_0)]), .obj bp0_0 (.map 2 (BS (fun k : List UInt8 => .str k) (fun v : Bool => .bool v) p0.Cf))] F) (hc : BF (cfg.still 25) av = [.ptr (some (bp0, 0))] := by kernel_rfl) : ∃ v h', BL cfg g h 25 av v h' ∧ ∃ (rq0 : Option Nat), v = AF rq0 q0.length ∧ HH g h' [.AI rq0 9 (AI eS q0), .obj bp0 (.cells none 2 [.map (some bp0_0)]), .obj bp0_0 (.map 2 (BS (fun k : List UInt8 => .str k) (fun v : Bool => .bool v) p0.Cf))] F := by
 refine Dr 9 [.tmp 2] hc ?_
 clear hc
 unfold DT at hm
 refine bg 9 [(0, .ptr (some (bp0, 0)))] fun fr H => ?_
 refine AG 1 (Bc 1 [] 7 H fun fr H => Ag 3 [] 6 0 0 A H fun fr t H => ?_)
 obtain ⟨h1, e1, A⟩ := A.pu (.cells none 2 [.map (some bp0_0)])
 have hr : ∀ g, BL cfg g h 55 [.map (some bp0_0)] (.func (.func 95) [] [.ptr (some (h.size, 0))]) h1 := fun g => by rw [e1]; exact ⟨2, by kernel_rfl⟩
 refine Aq 7 _ _ H (fun fr => Steps.call (by kernel_rfl) (hr _)) fun fr t H => ?_
 replace A : HH g h1 [.obj h.size (.cells none 2 [.map (some bp0_0)]), _, _] F := ((A.front 2 rfl).front 1 rfl)
 have A1 := A.cut 2
 obtain ⟨hb, hm⟩ := BE hm
 obtain ⟨r1, h2, hr, A1⟩ := HH.sorted (C := cfg) (f := 54) (it := 95) (t := 9) (ev := fun v : Bool => .bool v) (m := p0.Cf) A1 (by kernel_rfl) (l := exts) rfl (by kernel_rfl) 0 1 rfl rfl hb
 replace A := A.g23 A1
 refine BA 8 hr H fun fr t H => ?_
 refine AO 1 [(2, AF r1 ((J2 (p0.Cf.map Prod.fst)).length))] H fun fr H => AU ?_
 obtain rfl := AY hm
 refine ⟨.inl rfl, AF r1 ((J2 (p0.Cf.map Prod.fst)).length), rH H, ?_⟩
 replace A := A.k3 0 3 2
 exact ⟨r1, rfl, A⟩
end
end Go.Av.L
