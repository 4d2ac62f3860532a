/-
 Models of functions, and that the abstract run tells them. Written by lift2.py.
-/
import Derived.Test.YthnnciphldbmeaaGreatDoorKCfg
import Derived.Test.YthnnciphldbmeaaGreatDoorK1
import Derived.Test.YthnnciphldbmeaaGreatDoorK4
namespace Go.Av.L
open Go.Av Go.Lib
set_option maxRecDepth 10000
set_option maxHeartbeats 4000000
set_option linter.unusedVariables false
set_option linter.unusedSimpArgs false
variable {g : Gd} {h : AM} {F : List Ck} {av : List AD}
noncomputable section
def KR (p0 : Ar) (p1 : Ar) : Option (Bool) :=
 (K4 p0 p1).bind fun x1 => some (decide (x1 ≥ 0))
theorem Pg {p0 p1 q0} (hm : KR p0 p1 = some q0) (A : HH g h [] F) (hc : BH (cfg.still 79) av = [.agg [Ai p0.Cf, Ai p0.Bb], .agg [Ai p1.Cf, Ai p1.Bb]] := by kernel_rfl) : ∃ v h', BN cfg g h 79 av v h' ∧ v = .bool q0 ∧ HH g h' [] F := by
 refine Dr 9 [.tmp 4] hc ?_
 clear hc
 unfold KR at hm
 refine bg 9 [(0, .agg [Ai p0.Cf, Ai p0.Bb]), (1, .agg [Ai p1.Cf, Ai p1.Bb])] fun fr H => ?_
 refine AH 3 ?_
 obtain ⟨h1, e1, A⟩ := A.pu (.cells none 2 [Ai p0.Cf, Ai p0.Bb])
 refine A7 2 (.ptr (some (h.size, 0))) e1 H fun fr t H => ?_
 obtain ⟨h2, e2, A⟩ := A.pu (.cells none 2 [Ai p1.Cf, Ai p1.Bb])
 refine A7 3 (.ptr (some (h1.size, 0))) e2 H fun fr t H => ?_
 refine Bn 1 [] 5 H fun fr H => As 5 _ _ H (fun fr => .of (B5 (by kernel_rfl) (A.GQ 1 rfl (o := 0) (n := 2) ⟨Nat.le_of_ble_eq_true rfl, rfl⟩))) fun fr t H => ?_
 refine As 6 _ _ H (fun fr => .of (B5 (by kernel_rfl) (A.GQ 0 rfl (o := 0) (n := 2) ⟨Nat.le_of_ble_eq_true rfl, rfl⟩))) fun fr t H => ?_
 obtain ⟨x1, hx, hm⟩ := bind_some hm
 obtain ⟨v1, h3, hr, rfl, A1⟩ := RB (av := [.agg [Ai p0.Cf, Ai p0.Bb], .agg [Ai p1.Cf, Ai p1.Bb]]) hx (A.cut 0)
 replace A : HH g h3 [.obj h1.size (.cells none 2 [Ai p1.Cf, Ai p1.Bb]), .obj h.size (.cells none 2 [Ai p0.Cf, Ai p0.Bb])] F := A.CY (n := 0) A1
 refine A8 7 hr H fun fr t H => ?_
 refine AP 2 [(4, .bool (decide (x1 ≥ 0)))] H fun fr H => AY ?_
 obtain rfl := Ag hm
 refine ⟨.inl rfl, .bool (decide (x1 ≥ 0)), rH H, ?_⟩
 replace A := A.d0
 exact ⟨rfl, A⟩
def DS (p0 : BO) (p1 : AK) : Option (Int) :=
 (Af (p0.c_.B4 && (p1.Kind != 53)) ((KR p1.Time p0.c_.Ay).bind fun x2 => some (!x2)) (some false) : Option (Bool)).bind fun x1 => Af x1 (some (5 : Int)) (some (0 : Int))
theorem H7 {p0 p1 bp0 rp0_14 rp0_15 bp0_16 rp0_16_0 bp0_17 q0} (hm : DS p0 p1 = some q0) (A : HH g h [.obj bp0 (.cells none 2 [vs AE p0.c_.Ah, vs AE p0.c_.Aj, vs AI p0.c_.Bj, .bool p0.c_.G1, .bool p0.c_.BE, Ai p0.c_.Bc, .bool p0.c_.B4, Ai p0.c_.Ay.Cf, Ai p0.c_.Ay.Bb, Ai p0.c_.Ge, Ai p0.c_.Bz, Ai p0.c_.Name, Ai p0.c_.Head, Ai p0.c_.BU, AF rp0_14 p0.AR.length, AF rp0_15 p0.AU.length, .ptr (some (bp0_16, 0)), .ptr (some (bp0_17, 0))]), .AL rp0_14 136 (AL (eP AB) p0.AR), .AL rp0_15 136 (AL (eP AB) p0.AU), .obj bp0_16 (.cells none 2 [AF rp0_16_0 p0.AX.l_.length, Ai p0.AX.BM]), .AL rp0_16_0 142 (AL (eP AJ) p0.AX.l_), .obj bp0_17 (.cells none 2 ([Ai p0.Ae.n_, Ai p0.Ae.An] ++ (CW 257 (AD.int .i64) p0.Ae.Aw ++ [])))] F) (hc : BH (cfg.still 41) av = [.ptr (some (bp0, 0)), .agg (AA p1)] := by kernel_rfl) : ∃ v h', BN cfg g h 41 av v h' ∧ v = Ai q0 ∧ HH g h' [.obj bp0 (.cells none 2 [vs AE p0.c_.Ah, vs AE p0.c_.Aj, vs AI p0.c_.Bj, .bool p0.c_.G1, .bool p0.c_.BE, Ai p0.c_.Bc, .bool p0.c_.B4, Ai p0.c_.Ay.Cf, Ai p0.c_.Ay.Bb, Ai p0.c_.Ge, Ai p0.c_.Bz, Ai p0.c_.Name, Ai p0.c_.Head, Ai p0.c_.BU, AF rp0_14 p0.AR.length, AF rp0_15 p0.AU.length, .ptr (some (bp0_16, 0)), .ptr (some (bp0_17, 0))]), .AL rp0_14 136 (AL (eP AB) p0.AR), .AL rp0_15 136 (AL (eP AB) p0.AU), .obj bp0_16 (.cells none 2 [AF rp0_16_0 p0.AX.l_.length, Ai p0.AX.BM]), .AL rp0_16_0 142 (AL (eP AJ) p0.AX.l_), .obj bp0_17 (.cells none 2 ([Ai p0.Ae.n_, Ai p0.Ae.An] ++ (CW 257 (AD.int .i64) p0.Ae.Aw ++ [])))] F := by
 refine Dr 26 [.tmp 4] hc ?_
 clear hc
 unfold DS at hm
 refine bg 26 [(0, .ptr (some (bp0, 0))), (1, .agg (AA p1))] fun fr H => ?_
 refine AH 2 ?_
 obtain ⟨h1, e1, A⟩ := A.pu (.cells none 2 (AA p1))
 refine A7 3 (.ptr (some (h.size, 0))) e1 H fun fr t H => ?_
 refine AP 1 [] H fun fr H => AV (AV (FF 1 21 ?_))
 refine AZ 4 [] 9 1 6 A H fun fr t H => ?_
 refine AG 1 [(10, .bool p0.c_.B4)] H fun fr H => Aq 4 (fun fr' h' => h1 = h' ∧ Has fr' 26 [(0, .ptr (some (bp0, 0))), (3, .ptr (some (h.size, 0))), (14, .bool (p0.c_.B4 && (p1.Kind != 53)))]) ?_ ?_
 ·cases hb : (p0.c_.B4 : Bool) with
  | true =>
   replace H := H.kn 10 hb
   refine AZ 1 [] 12 0 2 A H fun fr t H => ?_
   exact AG 2 [(14, .bool (p1.Kind != 53))] H fun fr H => Ap H hb
  | false =>
   replace H := H.kn 10 hb
   exact AG 4 [(14, .bool false)] H fun fr H => Ap H hb
 intro t fr h' hK
 obtain ⟨e, H⟩ := hK
 subst e
 refine AG 1 [(15, .bool (p0.c_.B4 && (p1.Kind != 53)))] H fun fr H => ?_
 obtain ⟨x1, ho, hm⟩ := bind_some hm
 refine Aq 10 (fun fr' h' => Has fr' 26 [(25, .bool x1)] ∧ HH g h' [.obj h.size (.cells none 2 (AA p1)), .obj bp0 (.cells none 2 [vs AE p0.c_.Ah, vs AE p0.c_.Aj, vs AI p0.c_.Bj, .bool p0.c_.G1, .bool p0.c_.BE, Ai p0.c_.Bc, .bool p0.c_.B4, Ai p0.c_.Ay.Cf, Ai p0.c_.Ay.Bb, Ai p0.c_.Ge, Ai p0.c_.Bz, Ai p0.c_.Name, Ai p0.c_.Head, Ai p0.c_.BU, AF rp0_14 p0.AR.length, AF rp0_15 p0.AU.length, .ptr (some (bp0_16, 0)), .ptr (some (bp0_17, 0))]), .AL rp0_14 136 (AL (eP AB) p0.AR), .AL rp0_15 136 (AL (eP AB) p0.AU), .obj bp0_16 (.cells none 2 [AF rp0_16_0 p0.AX.l_.length, Ai p0.AX.BM]), .AL rp0_16_0 142 (AL (eP AJ) p0.AX.l_), .obj bp0_17 (.cells none 2 ([Ai p0.Ae.n_, Ai p0.Ae.An] ++ (CW 257 (AD.int .i64) p0.Ae.Aw ++ [])))] F) ?_ ?_
 ·rcases Ac ho with ⟨hb, hm⟩ | ⟨hb, hm⟩
  ·replace H := H.kn 15 hb
   refine Ax 1 [] 17 _ _ H (fun fr => .of (B5 (by kernel_rfl) (A.GQ 0 rfl (o := 10) (n := 2) ⟨Nat.le_of_ble_eq_true rfl, rfl⟩))) fun fr t H => ?_
   refine Ax 4 [] 22 _ _ H (fun fr => .of (B5 (by kernel_rfl) (A.GQ 1 rfl (o := 7) (n := 2) ⟨Nat.le_of_ble_eq_true rfl, rfl⟩))) fun fr t H => ?_
   obtain ⟨x2, hx, hm⟩ := bind_some hm
   obtain ⟨v1, h3, hr, rfl, A1⟩ := Pg (av := [.agg [Ai p1.Time.Cf, Ai p1.Time.Bb], .agg [Ai p0.c_.Ay.Cf, Ai p0.c_.Ay.Bb]]) hx (A.cut 0)
   replace A : HH g h3 [.obj h.size (.cells none 2 (AA p1)), _, _, _, _, _, _] F := A.CY (n := 0) A1
   refine A8 23 hr H fun fr t H => ?_
   refine AG 2 [(25, .bool (!x2))] H fun fr H => ?_
   obtain rfl := Ag hm
   exact at_nil ⟨H.ls, A⟩
  replace H := H.kn 15 hb
  refine AG 10 [(25, .bool false)] H fun fr H => ?_
  obtain rfl := Ag hm
  exact at_nil ⟨H.ls, A⟩
 clear A
 intro t fr h2 hK
 obtain ⟨H, A⟩ := hK
 refine BF id (Ak 25 H hm (fun hb hm H => ?_) fun hb hm H => ?_)
 ·refine AH 1 (AP 1 [(4, Ai 5)] H fun fr H => AY ?_)
  obtain rfl := Ag hm
  refine ⟨.inl rfl, Ai 5, rH H, ?_⟩
  replace A := A.k6 1 2 3 4 5 6
  exact ⟨rfl, A⟩
 refine Cc 1 id (AP 1 [(4, Ai 0)] H fun fr H => AY ?_)
 obtain rfl := Ag hm
 refine ⟨.inl rfl, Ai 0, rH H, ?_⟩
 replace A := A.k6 1 2 3 4 5 6
 exact ⟨rfl, A⟩
def F3 (p0 : BS) (p1 : Int) : Option (Bool) :=
 some ((decide (p1 ≥ 0)) && (decide (p1 < p0.An)))
theorem L9 {p0 p1 bp0 q0} (hm : F3 p0 p1 = some q0) (A : HH g h [.obj bp0 (.cells none 2 ([Ai p0.n_, Ai p0.An] ++ (CW 257 (AD.int .i64) p0.Aw ++ [])))] F) (hc : BH (cfg.still 142) av = [.ptr (some (bp0, 0)), Ai p1] := by kernel_rfl) : ∃ v h', BN cfg g h 142 av v h' ∧ v = .bool q0 ∧ HH g h' [.obj bp0 (.cells none 2 ([Ai p0.n_, Ai p0.An] ++ (CW 257 (AD.int .i64) p0.Aw ++ [])))] F := by
 refine Dr 15 [.tmp 4] hc ?_
 clear hc
 unfold F3 at hm
 refine bg 15 [(0, .ptr (some (bp0, 0))), (1, Ai p1)] fun fr H => ?_
 refine AH 1 (Bn 1 [] 11 H fun fr H => AG 3 [(7, .bool (decide (p1 ≥ 0)))] H fun fr H => Aq 7 (fun fr' h' => h = h' ∧ Has fr' 15 [(14, .bool ((decide (p1 ≥ 0)) && (decide (p1 < p0.An))))]) ?_ ?_)
 ·cases hb : (decide (p1 ≥ 0) : Bool) with
  | true =>
   replace H := H.kn 7 hb
   refine Ax 4 [(8, Ai p1)] 12 (Ai p0.An) h H (fun fr => .of (DU (by kernel_rfl) (A.N6 0 rfl (o := 1) (by kernel_rfl)))) fun fr t H => ?_
   exact AG 2 [(14, .bool (decide (p1 < p0.An)))] H fun fr H => Ap H hb
  | false =>
   replace H := H.kn 7 hb
   exact AG 7 [(14, .bool false)] H fun fr H => Ap H hb
 intro t fr h' hK
 obtain ⟨e, H⟩ := hK
 subst e
 refine AP 1 [(4, .bool ((decide (p1 ≥ 0)) && (decide (p1 < p0.An))))] H fun fr H => AY ?_
 obtain rfl := Ag hm
 exact ⟨.inl rfl, _, rH H, rfl, A⟩
def FI (p0 : BS) (p1 : Int) : Option (Bool × Int × BS) :=
 (F3 p0 p1).bind fun x1 => Af (!x1) (some (false, (9 : Int), p0)) (((Sv 257 p0.Aw p1).bind fun x3 => Af (decide (x3 < 9007199254740991)) ((Sv 257 p0.Aw p1).bind fun x4 => (Sv 257 p0.Aw p1).bind fun x5 => some (PX p0.Aw p1.toNat (IntKind.i64.wrap (x4 + 1)))) (some p0.Aw) : Option (((Nat → Int)))).bind fun x2 => (Af (p0.n_ == 0) (some true) ((Sv 257 x2 p1).bind fun x7 => some (x7 == p0.n_)) : Option (Bool)).bind fun x6 => some (x6, (0 : Int), (⟨p0.n_, p0.An, x2⟩ : BS)))
theorem LL {p0 p1 bp0 q0 q1 u0} (hm : FI p0 p1 = some (q0, q1, u0)) (A : HH g h [.obj bp0 (.cells none 2 ([Ai p0.n_, Ai p0.An] ++ (CW 257 (AD.int .i64) p0.Aw ++ [])))] F) (hc : BH (cfg.still 80) av = [.ptr (some (bp0, 0)), Ai p1] := by kernel_rfl) : ∃ v h', BN cfg g h 80 av v h' ∧ v = .tuple [.bool q0, Ai q1] ∧ HH g h' [.obj bp0 (.cells none 2 ([Ai u0.n_, Ai u0.An] ++ (CW 257 (AD.int .i64) u0.Aw ++ [])))] F := by
 refine Dr 45 [.tmp 4, .tmp 5] hc ?_
 clear hc
 unfold FI at hm
 refine bg 45 [(0, .ptr (some (bp0, 0))), (1, Ai p1)] fun fr H => ?_
 refine AH 2 (AP 2 [] H fun fr H => AV (AH 4 ?_))
 obtain ⟨x1, hx, hm⟩ := bind_some hm
 obtain ⟨v1, h1, hr, rfl, A1⟩ := L9 (av := [.ptr (some (bp0, 0)), Ai p1]) hx (A.cut 1)
 replace A := A.g11 A1
 refine BD 2 [] 8 hr H fun fr t H => ?_
 refine AP 1 [(9, .bool (!x1))] H fun fr H => Ak 9 H hm (fun hb hm H => ?_) fun hb hm H => ?_
 ·refine AH 2 (AP 2 [(4, .bool false), (5, Ai 9)] H fun fr H => AY ?_)
  obtain ⟨rfl, rfl, rfl⟩ := HY hm
  exact ⟨.inl rfl, _, rH H, rfl, A⟩
 refine Br id (AV ?_)
 obtain ⟨o1, ho, hm⟩ := bind_some hm
 refine BG (Q' := fun e fr' h' => (∃ x2, e = .normal ∧ x2 = o1 ∧ Has fr' 45 [(0, .ptr (some (bp0, 0))), (1, Ai p1)] ∧ HH g h' [.obj bp0 (.cells none 2 ([Ai p0.n_, Ai p0.An] ++ (CW 257 (AD.int .i64) x2 ++ [])))] F) ∨ False) ?_ ?_
 ·replace hm := ho
  clear ho
  refine AH 7 ?_
  obtain ⟨x3, hq1, hm⟩ := bind_some hm
  refine Ax 4 [] 14 (.ptr (some (bp0, 2 + p1.toNat * 1))) h1 H (fun fr => .of (QE (by kernel_rfl) (Mm hq1 (bp0, 2) 1))) fun fr t H => ?_
  refine As 15 _ _ H (fun fr => .of (DU (by kernel_rfl) (HH.YH A 0 (AD.int .i64) (X := p0.Aw) [Ai p0.n_, Ai p0.An] ([] : List AD) (off := 2) rfl rfl (i := p1) hq1))) fun fr t H => ?_
  refine AP 1 [(16, .bool (decide (x3 < 9007199254740991)))] H fun fr H => Ak 16 H hm (fun hb hm H => ?_) fun hb hm H => ?_
  ·refine FF 4 11 ?_
   obtain ⟨x4, hq2, hm⟩ := bind_some hm
   refine Ax 4 [(17, .ptr (some (bp0, 0))), (18, Ai p1)] 21 (.ptr (some (bp0, 2 + p1.toNat * 1))) h1 H (fun fr => .of (QE (by kernel_rfl) (Mm hq2 (bp0, 2) 1))) fun fr t H => ?_
   refine As 22 _ _ H (fun fr => .of (DU (by kernel_rfl) (HH.YH A 0 (AD.int .i64) (X := p0.Aw) [Ai p0.n_, Ai p0.An] ([] : List AD) (off := 2) rfl rfl (i := p1) hq2))) fun fr t H => ?_
   obtain ⟨x5, hq3, hm⟩ := bind_some hm
   refine Ax 3 [(23, Ai (IntKind.i64.wrap (x4 + 1)))] 26 (.ptr (some (bp0, 2 + p1.toNat * 1))) h1 H (fun fr => .of (QE (by kernel_rfl) (Mm hq3 (bp0, 2) 1))) fun fr t H => ?_
   obtain ⟨h2, hx, A1⟩ := HH.Ye A 0 (AD.int .i64) (X := p0.Aw) [Ai p0.n_, Ai p0.An] ([] : List AD) (off := 2) rfl rfl (i := p1) (IntKind.i64.wrap (x4 + 1)) hq3 rfl
   replace A : HH g h2 [.obj bp0 (.cells none 2 ([Ai p0.n_, Ai p0.An] ++ (CW 257 (AD.int .i64) (PX p0.Aw p1.toNat (IntKind.i64.wrap (x4 + 1))) ++ [])))] F := A1
   refine Ep hx H fun fr t H => ?_
   refine at_nil ?_
   exact .inl ⟨_, rfl, Ag hm, H.ls, A⟩
  exact HG (.inl ⟨_, rfl, Ag hm, H.ls, A⟩)
 clear ho
 clear A
 intro e fr h3 hQ
 rcases hQ with ⟨x2, rfl, rfl, H, A⟩ | hF
 ·show AW _ _ _ _ _ _ _
  refine AV (FF 5 20 ?_)
  refine Ax 3 [] 30 (Ai p0.n_) h3 H (fun fr => .of (DU (by kernel_rfl) (A.N6 0 rfl (o := 0) (by kernel_rfl)))) fun fr t H => ?_
  refine AG 2 [(32, .bool (p0.n_ == 0))] H fun fr H => ?_
  obtain ⟨x6, ho, hm⟩ := bind_some hm
  refine Aq 12 (fun fr' h' => Has fr' 45 [(44, .bool x6)] ∧ HH g h' [.obj bp0 (.cells none 2 ([Ai p0.n_, Ai p0.An] ++ (CW 257 (AD.int .i64) x2 ++ [])))] F) ?_ ?_
  ·rcases Ac ho with ⟨hb, hm⟩ | ⟨hb, hm⟩
   ·replace H := H.kn 32 hb
    refine AG 12 [(44, .bool true)] H fun fr H => ?_
    obtain rfl := Ag hm
    exact at_nil ⟨H.ls, A⟩
   replace H := H.kn 32 hb
   obtain ⟨x7, hq4, hm⟩ := bind_some hm
   refine Ax 4 [] 37 (.ptr (some (bp0, 2 + p1.toNat * 1))) h3 H (fun fr => .of (QE (by kernel_rfl) (Mm hq4 (bp0, 2) 1))) fun fr t H => ?_
   refine As 38 _ _ H (fun fr => .of (DU (by kernel_rfl) (HH.YH A 0 (AD.int .i64) (X := x2) [Ai p0.n_, Ai p0.An] ([] : List AD) (off := 2) rfl rfl (i := p1) hq4))) fun fr t H => ?_
   refine Ax 3 [] 42 (Ai p0.n_) h3 H (fun fr => .of (DU (by kernel_rfl) (A.N6 0 rfl (o := 0) (by kernel_rfl)))) fun fr t H => ?_
   refine AG 2 [(44, .bool (x7 == p0.n_))] H fun fr H => ?_
   obtain rfl := Ag hm
   exact at_nil ⟨H.ls, A⟩
  clear A
  intro t fr h4 hK
  obtain ⟨H, A⟩ := hK
  refine AP 2 [(4, .bool x6), (5, Ai 0)] H fun fr H => AY ?_
  obtain ⟨rfl, rfl, rfl⟩ := HY hm
  exact ⟨.inl rfl, _, rH H, rfl, A⟩
 exact hF.elim
def CK (p0 : BO) (p1 : AK) : Option (Int × BS) :=
 (Af (decide ((p0.AR.length : Int) > 0)) ((EA p0.AR p1.Name).bind fun (x3, x4) => Af (!x4) (some (.inr (6 : Int))) (some (.inl x3))) (some (.inl (0 : Int))) : Option ((Int) ⊕ (Int))).bind fun o1 => (match o1 with | .inl x1 => (FI p0.Ae x1).bind fun (x5, x6, x7) => Af (!x5) (some ((7 : Int), x7)) (some ((0 : Int), x7)) | .inr x2 => some (x2, p0.Ae))
theorem HP {p0 p1 bp0 rp0_14 rp0_15 bp0_16 rp0_16_0 bp0_17 q0 u5} (hm : CK p0 p1 = some (q0, u5)) (A : HH g h [.obj bp0 (.cells none 2 [vs AE p0.c_.Ah, vs AE p0.c_.Aj, vs AI p0.c_.Bj, .bool p0.c_.G1, .bool p0.c_.BE, Ai p0.c_.Bc, .bool p0.c_.B4, Ai p0.c_.Ay.Cf, Ai p0.c_.Ay.Bb, Ai p0.c_.Ge, Ai p0.c_.Bz, Ai p0.c_.Name, Ai p0.c_.Head, Ai p0.c_.BU, AF rp0_14 p0.AR.length, AF rp0_15 p0.AU.length, .ptr (some (bp0_16, 0)), .ptr (some (bp0_17, 0))]), .AL rp0_14 136 (AL (eP AB) p0.AR), .AL rp0_15 136 (AL (eP AB) p0.AU), .obj bp0_16 (.cells none 2 [AF rp0_16_0 p0.AX.l_.length, Ai p0.AX.BM]), .AL rp0_16_0 142 (AL (eP AJ) p0.AX.l_), .obj bp0_17 (.cells none 2 ([Ai p0.Ae.n_, Ai p0.Ae.An] ++ (CW 257 (AD.int .i64) p0.Ae.Aw ++ [])))] F) (hc : BH (cfg.still 42) av = [.ptr (some (bp0, 0)), .agg (AA p1)] := by kernel_rfl) : ∃ v h', BN cfg g h 42 av v h' ∧ v = Ai q0 ∧ HH g h' [.obj bp0 (.cells none 2 [vs AE p0.c_.Ah, vs AE p0.c_.Aj, vs AI p0.c_.Bj, .bool p0.c_.G1, .bool p0.c_.BE, Ai p0.c_.Bc, .bool p0.c_.B4, Ai p0.c_.Ay.Cf, Ai p0.c_.Ay.Bb, Ai p0.c_.Ge, Ai p0.c_.Bz, Ai p0.c_.Name, Ai p0.c_.Head, Ai p0.c_.BU, AF rp0_14 p0.AR.length, AF rp0_15 p0.AU.length, .ptr (some (bp0_16, 0)), .ptr (some (bp0_17, 0))]), .AL rp0_14 136 (AL (eP AB) p0.AR), .AL rp0_15 136 (AL (eP AB) p0.AU), .obj bp0_16 (.cells none 2 [AF rp0_16_0 p0.AX.l_.length, Ai p0.AX.BM]), .AL rp0_16_0 142 (AL (eP AJ) p0.AX.l_), .obj bp0_17 (.cells none 2 ([Ai u5.n_, Ai u5.An] ++ (CW 257 (AD.int .i64) u5.Aw ++ [])))] F := by
 refine Dr 40 [.tmp 4] hc ?_
 clear hc
 unfold CK at hm
 refine bg 40 [(0, .ptr (some (bp0, 0))), (1, .agg (AA p1))] fun fr H => ?_
 refine AH 2 ?_
 obtain ⟨h1, e1, A⟩ := A.pu (.cells none 2 (AA p1))
 refine A7 3 (.ptr (some (h.size, 0))) e1 H fun fr t H => ?_
 refine Bn 1 [] 1 H fun fr H => AP 1 [(5, Ai 0)] H fun fr H => AV ?_
 obtain ⟨o1, ho, hm⟩ := bind_some hm
 refine BG (Q' := fun e fr' h' => (∃ x1, e = .normal ∧ .inl x1 = o1 ∧ Has fr' 40 [(0, .ptr (some (bp0, 0))), (5, Ai x1)] ∧ HH g h' [.obj h.size (.cells none 2 (AA p1)), .obj bp0 (.cells none 2 [vs AE p0.c_.Ah, vs AE p0.c_.Aj, vs AI p0.c_.Bj, .bool p0.c_.G1, .bool p0.c_.BE, Ai p0.c_.Bc, .bool p0.c_.B4, Ai p0.c_.Ay.Cf, Ai p0.c_.Ay.Bb, Ai p0.c_.Ge, Ai p0.c_.Bz, Ai p0.c_.Name, Ai p0.c_.Head, Ai p0.c_.BU, AF rp0_14 p0.AR.length, AF rp0_15 p0.AU.length, .ptr (some (bp0_16, 0)), .ptr (some (bp0_17, 0))]), .AL rp0_14 136 (AL (eP AB) p0.AR), .AL rp0_15 136 (AL (eP AB) p0.AU), .obj bp0_16 (.cells none 2 [AF rp0_16_0 p0.AX.l_.length, Ai p0.AX.BM]), .AL rp0_16_0 142 (AL (eP AJ) p0.AX.l_), .obj bp0_17 (.cells none 2 ([Ai p0.Ae.n_, Ai p0.Ae.An] ++ (CW 257 (AD.int .i64) p0.Ae.Aw ++ [])))] F) ∨ (∃ x2, e = .ret ∧ .inr x2 = o1 ∧ Has fr' 40 [(4, Ai x2)] ∧ HH g h' [.obj h.size (.cells none 2 (AA p1)), .obj bp0 (.cells none 2 [vs AE p0.c_.Ah, vs AE p0.c_.Aj, vs AI p0.c_.Bj, .bool p0.c_.G1, .bool p0.c_.BE, Ai p0.c_.Bc, .bool p0.c_.B4, Ai p0.c_.Ay.Cf, Ai p0.c_.Ay.Bb, Ai p0.c_.Ge, Ai p0.c_.Bz, Ai p0.c_.Name, Ai p0.c_.Head, Ai p0.c_.BU, AF rp0_14 p0.AR.length, AF rp0_15 p0.AU.length, .ptr (some (bp0_16, 0)), .ptr (some (bp0_17, 0))]), .AL rp0_14 136 (AL (eP AB) p0.AR), .AL rp0_15 136 (AL (eP AB) p0.AU), .obj bp0_16 (.cells none 2 [AF rp0_16_0 p0.AX.l_.length, Ai p0.AX.BM]), .AL rp0_16_0 142 (AL (eP AJ) p0.AX.l_), .obj bp0_17 (.cells none 2 ([Ai p0.Ae.n_, Ai p0.Ae.An] ++ (CW 257 (AD.int .i64) p0.Ae.Aw ++ [])))] F) ∨ False) ?_ ?_
 ·replace hm := ho
  clear ho
  refine AH 6 (AZ 3 [] 13 1 14 A H fun fr t H => ?_)
  refine AP 2 [(15, .bool (decide ((p0.AR.length : Int) > 0)))] H fun fr H => Ak 15 H hm (fun hb hm H => ?_) fun hb hm H => ?_
  ·refine AV (FF 3 12 ?_)
   refine AZ 3 [] 20 1 14 A H fun fr t H => ?_
   refine AZ 1 [] 22 0 0 A H fun fr t H => ?_
   replace A : HH g h1 [_, .obj h.size (.cells none 2 (AA p1)), _, _, _, _, _] F := (A.front 2 rfl)
   obtain ⟨⟨x3, x4⟩, hx, hm⟩ := bind_some hm
   obtain ⟨v1, h2, hr, rfl, A1⟩ := Hu (av := [AF rp0_14 p0.AR.length, .str p1.Name]) hx (A.cut 1)
   replace A := A.g11 A1
   refine A8 23 hr H fun fr t H => ?_
   refine AP 5 [(6, Ai x3), (7, .bool x4)] H fun fr H => AV (AH 2 (AP 2 [(27, .bool (!x4))] H fun fr H => Ak 27 H hm (fun hb hm H => ?_) fun hb hm H => ?_))
   ·refine AH 1 (AP 1 [(4, Ai 6)] H fun fr H => AY ?_)
    replace A := A.k7 1 2 0 3 4 5 6
    exact .inr (.inl ⟨_, rfl, Ag hm, H.ls, A⟩)
   refine Fg 2 id (Bk 2 [(0, .ptr (some (bp0, 0))), (5, Ai x3)] H fun fr H => at_nil ?_)
   replace A := A.k7 1 2 0 3 4 5 6
   exact .inl ⟨_, rfl, Ag hm, H.ls, A⟩
  exact HG (.inl ⟨_, rfl, Ag hm, H.ls, A⟩)
 clear ho
 clear A
 intro e fr h3 hQ
 rcases hQ with ⟨x1, rfl, rfl, H, A⟩ | ⟨x2, rfl, rfl, H, A⟩ | hF
 ·show AW _ _ _ _ _ _ _
  refine AV (AH 11 (AZ 3 [] 33 1 17 A H fun fr t H => ?_))
  replace A := A.k7 6 0 1 2 3 4 5
  obtain ⟨⟨x5, x6, x7⟩, hx, hm⟩ := bind_some hm
  obtain ⟨v1, h4, hr, rfl, A1⟩ := LL (av := [.ptr (some (bp0_17, 0)), Ai x1]) hx (A.cut 1)
  replace A := A.g11 A1
  refine BD 1 [] 35 hr H fun fr t H => ?_
  refine Bn 5 [(8, .bool x5)] 2 H fun fr H => AP 2 [(39, .bool (!x5))] H fun fr H => Ak 39 H hm (fun hb hm H => ?_) fun hb hm H => ?_
  ·refine AH 1 (AP 1 [(4, Ai 7)] H fun fr H => AY ?_)
   obtain ⟨rfl, rfl⟩ := C9 hm
   refine ⟨.inl rfl, Ai 7, rH H, ?_⟩
   replace A := A.k6 2 3 4 5 6 0
   exact ⟨rfl, A⟩
  refine Cc 1 id (AP 1 [(4, Ai 0)] H fun fr H => AY ?_)
  obtain ⟨rfl, rfl⟩ := C9 hm
  refine ⟨.inl rfl, Ai 0, rH H, ?_⟩
  replace A := A.k6 2 3 4 5 6 0
  exact ⟨rfl, A⟩
 ·obtain ⟨rfl, rfl⟩ := C9 hm
  refine ⟨.inl rfl, Ai x2, rH H, ?_⟩
  replace A := A.k6 1 2 3 4 5 6
  exact ⟨rfl, A⟩
 exact hF.elim
def EO (p0 : List UInt8) : Option ((List UInt8)) :=
 Af ((p0 == ([] : List UInt8)) || (([47] : List UInt8) == ([] : List UInt8))) (some p0) ((EF p0 (47 : Int)).bind fun x1 => some x1)
theorem Gs {p0 q0} (hm : EO p0 = some q0) (A : HH g h [] F) (hc : BH (cfg.still 81) av = [.str p0, .str ([47] : List UInt8)] := by kernel_rfl) : ∃ v h', BN cfg g h 81 av v h' ∧ v = .str q0 ∧ HH g h' [] F := by
 refine Dr 37 [.tmp 4] hc ?_
 clear hc
 unfold EO at hm
 refine bg 37 [(0, .str p0), (1, .str ([47] : List UInt8))] fun fr H => ?_
 refine AH 1 (AP 1 [] H fun fr H => AV (AH 6 (AG 3 [(9, .bool (p0 == ([] : List UInt8)))] H fun fr H => Aq 3 (fun fr' h' => h = h' ∧ Has fr' 37 [(0, .str p0), (1, .str ([47] : List UInt8)), (12, .bool ((p0 == ([] : List UInt8)) || (([47] : List UInt8) == ([] : List UInt8))))]) ?_ ?_)))
 ·cases hb : (p0 == ([] : List UInt8) : Bool) with
  | true =>
   replace H := H.kn 9 hb
   exact AG 3 [(12, .bool true)] H fun fr H => Ap H hb
  | false =>
   replace H := H.kn 9 hb
   exact AG 3 [(12, .bool (([47] : List UInt8) == ([] : List UInt8)))] H fun fr H => Ap H hb
 intro t fr h' hK
 obtain ⟨e, H⟩ := hK
 subst e
 refine BF id (Ak 12 H hm (fun hb hm H => ?_) fun hb hm H => ?_)
 ·refine AH 2 (AP 2 [(4, .str p0)] H fun fr H => AY ?_)
  obtain rfl := Ag hm
  exact ⟨.inl rfl, _, rH H, rfl, A⟩
 refine Br id (AV (AH 8 (AP 8 [(21, .bool true)] H fun fr H => GI (x := .tmp 21) (by kernel_rfl) H (fun fr => by kernel_rfl) ?_)))
 refine AH 5 ?_
 obtain ⟨x1, hx, hm⟩ := bind_some hm
 obtain ⟨v1, h1, hr, rfl, A1⟩ := Gx (av := [.str p0, Ab 47]) hx (A.cut 0)
 replace A := A.E8 A1
 refine BD 3 [] 25 hr H fun fr t H => ?_
 refine AP 1 [(4, .str x1)] H fun fr H => AY ?_
 obtain rfl := Ag hm
 exact ⟨.inl rfl, _, rH H, rfl, A⟩
def D5 (p0 : List UInt8) (p1 : Int) : Option (Int) :=
 (JK p0 p1).bind fun x1 => some x1
theorem Jl {p0 p1 q0} (hm : D5 p0 p1 = some q0) (A : HH g h [] F) (hc : BH (cfg.still 147) av = [.str p0, Ab p1] := by kernel_rfl) : ∃ v h', BN cfg g h 147 av v h' ∧ v = Ai q0 ∧ HH g h' [] F := by
 refine Dr 8 [.tmp 4] hc ?_
 clear hc
 unfold D5 at hm
 refine bg 8 [(0, .str p0), (1, Ab p1)] fun fr H => ?_
 refine AH 1 (Bn 1 [] 4 H fun fr H => ?_)
 obtain ⟨x1, hx, hm⟩ := bind_some hm
 refine Ax 2 [] 7 (Ai x1) h H (fun fr => Steps.call (by kernel_rfl) (V5 (C := cfg) (f := 208) (by kernel_rfl) (l := exts) rfl (by kernel_rfl) hx)) fun fr t H => ?_
 refine AP 1 [(4, Ai x1)] H fun fr H => AY ?_
 obtain rfl := Ag hm
 exact ⟨.inl rfl, _, rH H, rfl, A⟩
def Cu (p0 : List UInt8) (p1 : Int) : Option (Int) :=
 (D5 p0 p1).bind fun x1 => some x1
theorem GG {p0 p1 q0} (hm : Cu p0 p1 = some q0) (A : HH g h [] F) (hc : BH (cfg.still 82) av = [.str p0, Ab p1] := by kernel_rfl) : ∃ v h', BN cfg g h 82 av v h' ∧ v = Ai q0 ∧ HH g h' [] F := by
 refine Dr 8 [.tmp 4] hc ?_
 clear hc
 unfold Cu at hm
 refine bg 8 [(0, .str p0), (1, Ab p1)] fun fr H => ?_
 refine AH 1 (Bn 1 [] 4 H fun fr H => ?_)
 obtain ⟨x1, hx, hm⟩ := bind_some hm
 obtain ⟨v1, h1, hr, rfl, A1⟩ := Jl (av := [.str p0, Ab p1]) hx (A.cut 0)
 replace A := A.E8 A1
 refine BD 2 [] 7 hr H fun fr t H => ?_
 refine AP 1 [(4, Ai x1)] H fun fr H => AY ?_
 obtain rfl := Ag hm
 exact ⟨.inl rfl, _, rH H, rfl, A⟩
def Hc (s : (List UInt8) × Int) : Option (((List UInt8) × Int) ⊕ (((List UInt8)) ⊕ ((List UInt8) × Bool))) :=
 match s with
 | (x1, x2) => Af ((decide (x2 > 0)) && (!(x1 == ([] : List UInt8)))) ((EO x1).bind fun x6 => (Cu x6 (47 : Int)).bind fun x7 => Af (decide (x7 < 0)) (some (.inr (.inr (([] : List UInt8), false)))) ((Ln x6 (some x7) none).bind fun x8 => (EO x8).bind fun x9 => some (.inl (x9, IntKind.i64.wrap (x2 - 1))))) (some (.inr (.inl x1)))
def EW (p0 : List UInt8) (p1 : Int) : Option ((List UInt8) × Bool) :=
 Af (decide (p1 < 0)) (some (([] : List UInt8), false)) ((loop (Hc) (p0, p1)).bind fun o1 => (match o1 with | .inl x3 => some (x3, !(x3 == ([] : List UInt8))) | .inr (x4, x5) => some (x4, x5)))
theorem Ig {p0 p1 q0 q1} (hm : EW p0 p1 = some (q0, q1)) (A : HH g h [] F) (hc : BH (cfg.still 44) av = [.str p0, Ai p1] := by kernel_rfl) : ∃ v h', BN cfg g h 44 av v h' ∧ v = .tuple [.str q0, .bool q1] ∧ HH g h' [] F := by
 refine Dr 30 [.tmp 4, .tmp 5] hc ?_
 clear hc
 unfold EW at hm
 refine bg 30 [(0, .str p0), (1, Ai p1)] fun fr H => ?_
 refine AH 2 (AP 2 [] H fun fr H => AV (AH 2 (AP 2 [(8, .bool (decide (p1 < 0)))] H fun fr H => Ak 8 H hm (fun hb hm H => ?_) fun hb hm H => ?_)))
 ·refine AH 2 (AP 2 [(4, .str ([] : List UInt8)), (5, .bool false)] H fun fr H => AY ?_)
  obtain ⟨rfl, rfl⟩ := C9 hm
  exact ⟨.inl rfl, _, rH H, rfl, A⟩
 refine Br id (AV (Aa (id := 0) (by kernel_rfl) ?_))
 obtain ⟨o1, ho, hm⟩ := bind_some hm
 refine BG (Q' := fun e fr' h' => (∃ x3, e = .exit 0 ∧ .inl x3 = o1 ∧ Has fr' 30 [(0, .str x3)] ∧ HH g h' [] F) ∨ (∃ x4 x5, e = .ret ∧ .inr (x4, x5) = o1 ∧ Has fr' 30 [(4, .str x4), (5, .bool x5)] ∧ HH g h' [] F) ∨ False) ?_ ?_
 ·refine Bv (by kernel_rfl) (fun (s : (List UInt8) × Int) fr' h' => ∃ x1 x2, (x1, x2) = s ∧ Has fr' 30 [(0, .str x1), (1, Ai x2)] ∧ HH g h' [] F) ho ⟨_, _, rfl, H.ls, A⟩ ?_
  clear ho hm H A
  intro s q fr h1 hI hm
  obtain ⟨x1, x2, rfl, H, A⟩ := hI
  unfold Hc at hm
  refine AV (AH 6 (AG 3 [(11, .bool (decide (x2 > 0)))] H fun fr H => Aq 3 (fun fr' h' => h1 = h' ∧ Has fr' 30 [(0, .str x1), (1, Ai x2), (14, .bool ((decide (x2 > 0)) && (!(x1 == ([] : List UInt8)))))]) ?_ ?_))
  ·cases hb : (decide (x2 > 0) : Bool) with
   | true =>
    replace H := H.kn 11 hb
    exact AG 3 [(14, .bool (!(x1 == ([] : List UInt8))))] H fun fr H => Ap H hb
   | false =>
    replace H := H.kn 11 hb
    exact AG 3 [(14, .bool false)] H fun fr H => Ap H hb
  intro t fr h' hK
  obtain ⟨e, H⟩ := hK
  subst e
  refine BF id (Ak 14 H hm (fun hb hm H => ?_) fun hb hm H => ?_)
  ·refine Br id (AV (Aa (id := 1) (by kernel_rfl) ?_))
   refine AH 3 ?_
   obtain ⟨x6, hx, hm⟩ := bind_some hm
   obtain ⟨v1, h2, hr, rfl, A1⟩ := Gs (av := [.str x1, .str ([47] : List UInt8)]) hx (A.cut 0)
   replace A := A.E8 A1
   refine BD 1 [] 18 hr H fun fr t H => ?_
   refine Bk 1 [(0, .str x6), (1, Ai x2)] H fun fr H => Cb 3 id ?_
   obtain ⟨x7, hx, hm⟩ := bind_some hm
   obtain ⟨v1, h3, hr, rfl, A1⟩ := GG (av := [.str x6, Ab 47]) hx (A.cut 0)
   replace A := A.E8 A1
   refine BD 1 [] 20 hr H fun fr t H => ?_
   refine AP 1 [(6, Ai x7)] H fun fr H => AV (AH 2 (AP 2 [(22, .bool (decide (x7 < 0)))] H fun fr H => Ak 22 H hm (fun hb hm H => ?_) fun hb hm H => ?_))
   ·refine AH 2 (AP 2 [(4, .str ([] : List UInt8)), (5, .bool false)] H fun fr H => AY ?_)
    exact nr hm fun e => Or.inr (.inl ⟨_, _, rfl, e, H.ls, A⟩)
   refine Fg 5 id ?_
   obtain ⟨x8, hx, hm⟩ := bind_some hm
   refine Ax 2 [] 25 (.str x8) h3 H (fun fr => .of (JV (k := .i64) (k' := .i64) (lo := (some x7)) (hi := none) (by kernel_rfl) hx)) fun fr t H => ?_
   obtain ⟨x9, hx, hm⟩ := bind_some hm
   obtain ⟨v1, h4, hr, rfl, A1⟩ := Gs (av := [.str x8, .str ([47] : List UInt8)]) hx (A.cut 0)
   replace A := A.E8 A1
   refine A8 26 hr H fun fr t H => ?_
   refine Bk 1 [(0, .str x9), (1, Ai x2)] H fun fr H => Ij 3 id (Bk 3 [(0, .str x9), (1, Ai (IntKind.i64.wrap (x2 - 1)))] H fun fr H => at_nil ?_)
   exact nx hm ⟨_, _, rfl, H.ls, A⟩
  refine Bh (i := 0) (by kernel_rfl) ?_
  exact nr hm fun e => .inl ⟨_, rfl, e, H.ls, A⟩
 clear ho
 clear A
 intro e fr h5 hQ
 rcases hQ with ⟨x3, rfl, rfl, H, A⟩ | ⟨x4, x5, rfl, rfl, H, A⟩ | hF
 ·show AW _ _ _ _ _ _ _
  refine AH 5 (AP 5 [(4, .str x3), (5, .bool (!(x3 == ([] : List UInt8))))] H fun fr H => AY ?_)
  obtain ⟨rfl, rfl⟩ := C9 hm
  exact ⟨.inl rfl, _, rH H, rfl, A⟩
 ·obtain ⟨rfl, rfl⟩ := C9 hm
  exact ⟨.inl rfl, _, rH H, rfl, A⟩
 exact hF.elim
def CQ (p0 : BO) (p1 : AK) : Option (Int) :=
 (EW p1.Name p0.c_.Bz).bind fun (x1, x2) => Af (!x2) (some (8 : Int)) (some (0 : Int))
theorem Ha {p0 p1 bp0 rp0_14 rp0_15 bp0_16 rp0_16_0 bp0_17 q0} (hm : CQ p0 p1 = some q0) (A : HH g h [.obj bp0 (.cells none 2 [vs AE p0.c_.Ah, vs AE p0.c_.Aj, vs AI p0.c_.Bj, .bool p0.c_.G1, .bool p0.c_.BE, Ai p0.c_.Bc, .bool p0.c_.B4, Ai p0.c_.Ay.Cf, Ai p0.c_.Ay.Bb, Ai p0.c_.Ge, Ai p0.c_.Bz, Ai p0.c_.Name, Ai p0.c_.Head, Ai p0.c_.BU, AF rp0_14 p0.AR.length, AF rp0_15 p0.AU.length, .ptr (some (bp0_16, 0)), .ptr (some (bp0_17, 0))]), .AL rp0_14 136 (AL (eP AB) p0.AR), .AL rp0_15 136 (AL (eP AB) p0.AU), .obj bp0_16 (.cells none 2 [AF rp0_16_0 p0.AX.l_.length, Ai p0.AX.BM]), .AL rp0_16_0 142 (AL (eP AJ) p0.AX.l_), .obj bp0_17 (.cells none 2 ([Ai p0.Ae.n_, Ai p0.Ae.An] ++ (CW 257 (AD.int .i64) p0.Ae.Aw ++ [])))] F) (hc : BH (cfg.still 43) av = [.ptr (some (bp0, 0)), .agg (AA p1)] := by kernel_rfl) : ∃ v h', BN cfg g h 43 av v h' ∧ v = Ai q0 ∧ HH g h' [.obj bp0 (.cells none 2 [vs AE p0.c_.Ah, vs AE p0.c_.Aj, vs AI p0.c_.Bj, .bool p0.c_.G1, .bool p0.c_.BE, Ai p0.c_.Bc, .bool p0.c_.B4, Ai p0.c_.Ay.Cf, Ai p0.c_.Ay.Bb, Ai p0.c_.Ge, Ai p0.c_.Bz, Ai p0.c_.Name, Ai p0.c_.Head, Ai p0.c_.BU, AF rp0_14 p0.AR.length, AF rp0_15 p0.AU.length, .ptr (some (bp0_16, 0)), .ptr (some (bp0_17, 0))]), .AL rp0_14 136 (AL (eP AB) p0.AR), .AL rp0_15 136 (AL (eP AB) p0.AU), .obj bp0_16 (.cells none 2 [AF rp0_16_0 p0.AX.l_.length, Ai p0.AX.BM]), .AL rp0_16_0 142 (AL (eP AJ) p0.AX.l_), .obj bp0_17 (.cells none 2 ([Ai p0.Ae.n_, Ai p0.Ae.An] ++ (CW 257 (AD.int .i64) p0.Ae.Aw ++ [])))] F := by
 refine Dr 20 [.tmp 4] hc ?_
 clear hc
 unfold CQ at hm
 refine bg 20 [(0, .ptr (some (bp0, 0))), (1, .agg (AA p1))] fun fr H => ?_
 refine AH 2 ?_
 obtain ⟨h1, e1, A⟩ := A.pu (.cells none 2 (AA p1))
 refine A7 3 (.ptr (some (h.size, 0))) e1 H fun fr t H => ?_
 refine AP 1 [] H fun fr H => AV (AV (FF 1 13 ?_))
 refine AZ 1 [] 9 0 0 A H fun fr t H => ?_
 refine AZ 4 [] 14 1 10 A H fun fr t H => ?_
 obtain ⟨⟨x1, x2⟩, hx, hm⟩ := bind_some hm
 obtain ⟨v1, h2, hr, rfl, A1⟩ := Ig (av := [.str p1.Name, Ai p0.c_.Bz]) hx (A.cut 0)
 replace A : HH g h2 [.obj h.size (.cells none 2 (AA p1)), _, _, _, _, _, _] F := A.CY (n := 0) A1
 refine A8 15 hr H fun fr t H => ?_
 refine Bn 5 [(6, .bool x2)] 2 H fun fr H => AP 2 [(19, .bool (!x2))] H fun fr H => Ak 19 H hm (fun hb hm H => ?_) fun hb hm H => ?_
 ·refine AH 1 (AP 1 [(4, Ai 8)] H fun fr H => AY ?_)
  obtain rfl := Ag hm
  refine ⟨.inl rfl, Ai 8, rH H, ?_⟩
  replace A := A.k6 1 2 3 4 5 6
  exact ⟨rfl, A⟩
 refine Cc 1 id (AP 1 [(4, Ai 0)] H fun fr H => AY ?_)
 obtain rfl := Ag hm
 refine ⟨.inl rfl, Ai 0, rH H, ?_⟩
 replace A := A.k6 1 2 3 4 5 6
 exact ⟨rfl, A⟩
def EE (p0 : Ee) : Option (Az) :=
 some p0.x_
theorem F5 {p0 q0} (hm : EE p0 = some q0) (A : HH g h [] F) (hc : BH (cfg.still 149) av = [.BC (AJ p0)] := by kernel_rfl) : ∃ v h', BN cfg g h 149 av v h' ∧ v = .agg (AI q0) ∧ HH g h' [] F := by
 refine Dr 7 [.cell 2 135] hc ?_
 clear hc
 unfold EE at hm
 refine bg 7 [(0, .BC (AJ p0))] fun fr H => ?_
 refine AH 1 ?_
 obtain ⟨h1, e1, A⟩ := A.pu (.cells none 2 [.str ([] : List UInt8), .str ([] : List UInt8), .bool false, .bool false, .bool false, Ai 0, .bool false, .bool false, .bool false])
 refine A7 2 (.ptr (some (h.size, 0))) e1 H fun fr t H => ?_
 refine Cb 5 id (Ax 3 [] 6 (.agg (AI p0.x_)) h1 H (fun fr => .of (IQ (by kernel_rfl))) fun fr t H => ?_)
 obtain ⟨h2, hx, A⟩ := A.s0 0 (AI p0.x_) [_, _, _, _, _, _, _, _, _]
 refine FX hx H fun fr t H => ?_
 refine BF id (AY ?_)
 obtain rfl := Ag hm
 refine ⟨.inl rfl, .agg (AI p0.x_), EY (.cell (rT H) (B6 (by kernel_rfl) (by kernel_rfl) (A.la 0 0 9)) .nil), ?_⟩
 replace A := A.d0
 exact ⟨rfl, A⟩
def Jj (p0 : Az) : Option (Bool) :=
 some p0.Names
theorem Ot {p0 q0} (hm : Jj p0 = some q0) (A : HH g h [] F) (hc : BH (cfg.still 148) av = [.agg (AI p0)] := by kernel_rfl) : ∃ v h', BN cfg g h 148 av v h' ∧ v = .bool q0 ∧ HH g h' [] F := by
 refine Dr 5 [.tmp 2] hc ?_
 clear hc
 unfold Jj at hm
 refine bg 5 [(0, .agg (AI p0))] fun fr H => ?_
 refine AH 2 ?_
 obtain ⟨h1, e1, A⟩ := A.pu (.cells none 2 (AI p0))
 refine A7 1 (.ptr (some (h.size, 0))) e1 H fun fr t H => ?_
 refine Bn 1 [] 3 H fun fr H => AZ 1 [] 4 0 6 A H fun fr t H => ?_
 refine AP 1 [(2, .bool p0.Names)] H fun fr H => AY ?_
 obtain rfl := Ag hm
 refine ⟨.inl rfl, .bool p0.Names, rH H, ?_⟩
 replace A := A.d0
 exact ⟨rfl, A⟩
def C7 (p0 : CT) (s : (List UInt8) × Int) : Option (((List UInt8) × Int) ⊕ (((List UInt8)))) :=
 match s with
 | (x1, x2) => Af (decide (x2 < (p0.l_.length : Int))) (((GP p0.l_ x2).bind fun x5 => (EE x5).bind fun x6 => (Jj x6).bind fun x7 => Af (!x7) (some x1) (none) : Option (((List UInt8)))).bind fun x4 => some (.inl (x4, IntKind.i64.wrap (x2 + 1)))) (some (.inr x1))
def Cr (p0 : CT) (p1 : List UInt8) : Option ((List UInt8) × Int) :=
 Af (decide ((p1.length : Int) > p0.BM)) (some (([] : List UInt8), (7 : Int))) ((loop (C7 p0) (p1, (0 : Int))).bind fun x3 => some (x3, (0 : Int)))
theorem I2 {p0 p1 bp0 rp0_0 q0 q1} (hm : Cr p0 p1 = some (q0, q1)) (A : HH g h [.obj bp0 (.cells none 2 [AF rp0_0 p0.l_.length, Ai p0.BM]), .AL rp0_0 142 (AL (eP AJ) p0.l_)] F) (hc : BH (cfg.still 86) av = [.ptr (some (bp0, 0)), .str p1, .func (.func 148) [] []] := by kernel_rfl) : ∃ v h', BN cfg g h 86 av v h' ∧ v = .tuple [.str q0, Ai q1] ∧ HH g h' [.obj bp0 (.cells none 2 [AF rp0_0 p0.l_.length, Ai p0.BM]), .AL rp0_0 142 (AL (eP AJ) p0.l_)] F := by
 refine Dr 43 [.tmp 6, .tmp 7] hc ?_
 clear hc
 unfold Cr at hm
 refine bg 43 [(0, .ptr (some (bp0, 0))), (1, .str p1), (2, .func (.func 148) [] [])] fun fr H => ?_
 refine AH 2 (AP 2 [] H fun fr H => AV (AH 7 (AZ 5 [(11, Ai (p1.length : Int))] 15 0 1 A H fun fr t H => ?_)))
 refine AP 1 [(16, .bool (decide ((p1.length : Int) > p0.BM)))] H fun fr H => Ak 16 H hm (fun hb hm H => ?_) fun hb hm H => ?_
 ·refine AH 2 (AP 2 [(6, .str ([] : List UInt8)), (7, Ai 7)] H fun fr H => AY ?_)
  obtain ⟨rfl, rfl⟩ := C9 hm
  exact ⟨.inl rfl, _, rH H, rfl, A⟩
 refine Br id (AV (AH 6 (AZ 3 [] 20 0 0 A H fun fr t H => ?_)))
 refine AP 2 [(21, Ai (p0.l_.length : Int)), (22, Ai 0)] H fun fr H => Aa (id := 0) (by kernel_rfl) ?_
 obtain ⟨o1, ho, hm⟩ := bind_some hm
 refine BG (Q' := fun e fr' h' => (∃ x3, e = .exit 0 ∧ x3 = o1 ∧ Has fr' 43 [(1, .str x3)] ∧ HH g h' [.obj bp0 (.cells none 2 [AF rp0_0 p0.l_.length, Ai p0.BM]), .AL rp0_0 142 (AL (eP AJ) p0.l_)] F) ∨ False) ?_ ?_
 ·refine Bv (by kernel_rfl) (fun (s : (List UInt8) × Int) fr' h' => ∃ x1 x2, (x1, x2) = s ∧ Has fr' 43 [(0, .ptr (some (bp0, 0))), (1, .str x1), (2, .func (.func 148) [] []), (20, AF rp0_0 p0.l_.length), (21, Ai (p0.l_.length : Int)), (22, Ai x2)] ∧ HH g h' [.obj bp0 (.cells none 2 [AF rp0_0 p0.l_.length, Ai p0.BM]), .AL rp0_0 142 (AL (eP AJ) p0.l_)] F) ho ⟨_, _, rfl, H.ls, A⟩ ?_
  clear ho hm H A
  intro s q fr h1 hI hm
  obtain ⟨x1, x2, rfl, H, A⟩ := hI
  unfold C7 at hm
  refine AH 1 (AP 1 [(23, .bool (decide (x2 < (p0.l_.length : Int))))] H fun fr H => AV (Ak 23 H hm (fun hb hm H => ?_) fun hb hm H => ?_))
  ·refine Br id (AV ?_)
   obtain ⟨o2, ho, hm⟩ := bind_some hm
   refine BG (Q' := fun e fr' h' => (∃ x4, e = .normal ∧ x4 = o2 ∧ Has fr' 43 [(0, .ptr (some (bp0, 0))), (1, .str x4), (2, .func (.func 148) [] []), (20, AF rp0_0 p0.l_.length), (21, Ai (p0.l_.length : Int)), (22, Ai x2)] ∧ HH g h' [.obj bp0 (.cells none 2 [AF rp0_0 p0.l_.length, Ai p0.BM]), .AL rp0_0 142 (AL (eP AJ) p0.l_)] F) ∨ False) ?_ ?_
   ·replace hm := ho
    clear ho
    refine Aa (id := 1) (by kernel_rfl) ?_
    refine AH 3 ?_
    obtain ⟨x5, hx, hm⟩ := bind_some hm
    obtain ⟨i1, er1, _, hx, hq1⟩ := HH.Ll (Qb _) (by decide) A 1 (xs := p0.l_) rfl hx
    refine As 24 (.ptr (some (i1, x2.toNat * 1))) h1 H (fun fr => .of (D7 (s := DP rp0_0 p0.l_.length) (by kernel_rfl) hx)) fun fr t H => ?_
    refine As 25 _ _ H (fun fr => .of (DU (by kernel_rfl) (EP (Qb _) (HH.row A 1 rfl er1) hq1 (o := 0) rfl))) fun fr t H => ?_
    refine AP 1 [(9, .BC (AJ x5))] H fun fr H => AV (AH 5 ?_)
    obtain ⟨x6, hx, hm⟩ := bind_some hm
    obtain ⟨v1, h2, hr, rfl, A1⟩ := F5 (av := [.BC (AJ x5)]) hx (A.cut 0)
    replace A := A.E8 A1
    refine BD 2 [(26, .func (.func 148) [] [])] 28 hr H fun fr t H => ?_
    obtain ⟨x7, hx, hm⟩ := bind_some hm
    obtain ⟨v1, h3, hr, rfl, A1⟩ := Ot (av := [.agg (AI x6)]) hx (A.cut 0)
    replace A := A.E8 A1
    refine A8 29 hr H fun fr t H => ?_
    refine AP 1 [(30, .bool (!x7))] H fun fr H => Ak 30 H hm (fun hb hm H => ?_) fun hb hm H => ?_
    ·refine Bh (i := 1) (by kernel_rfl) ?_
     exact .inl ⟨_, rfl, Ag hm, H.ls, A⟩
    refine Cc 4 id ?_
    cases hm
   clear ho
   clear A
   intro e fr h4 hQ
   rcases hQ with ⟨x4, rfl, rfl, H, A⟩ | hF
   ·show AW _ _ _ _ _ _ _
    refine ED 2 (Bk 2 [(0, .ptr (some (bp0, 0))), (1, .str x4), (2, .func (.func 148) [] []), (20, AF rp0_0 p0.l_.length), (21, Ai (p0.l_.length : Int)), (22, Ai (IntKind.i64.wrap (x2 + 1)))] H fun fr H => at_nil ?_)
    exact nx hm ⟨_, _, rfl, H.ls, A⟩
   exact hF.elim
  refine Bh (i := 0) (by kernel_rfl) ?_
  exact nr hm fun e => .inl ⟨_, rfl, e, H.ls, A⟩
 clear ho
 clear A
 intro e fr h5 hQ
 rcases hQ with ⟨x3, rfl, rfl, H, A⟩ | hF
 ·show AW _ _ _ _ _ _ _
  refine AH 3 (AP 3 [(6, .str x3), (7, Ai 0)] H fun fr H => AY ?_)
  obtain ⟨rfl, rfl⟩ := C9 hm
  exact ⟨.inl rfl, _, rH H, rfl, A⟩
 exact hF.elim
def D3 (p0 : CT) (p1 : List UInt8) : Option ((List UInt8) × Int) :=
 (Cr p0 p1).bind fun (x1, x2) => some (x1, x2)
theorem Jd {p0 p1 bp0 rp0_0 q0 q1} (hm : D3 p0 p1 = some (q0, q1)) (A : HH g h [.obj bp0 (.cells none 2 [AF rp0_0 p0.l_.length, Ai p0.BM]), .AL rp0_0 142 (AL (eP AJ) p0.l_)] F) (hc : BH (cfg.still 83) av = [.ptr (some (bp0, 0)), .str p1] := by kernel_rfl) : ∃ v h', BN cfg g h 83 av v h' ∧ v = .tuple [.str q0, Ai q1] ∧ HH g h' [.obj bp0 (.cells none 2 [AF rp0_0 p0.l_.length, Ai p0.BM]), .AL rp0_0 142 (AL (eP AJ) p0.l_)] F := by
 refine Dr 11 [.tmp 4, .tmp 5] hc ?_
 clear hc
 unfold D3 at hm
 refine bg 11 [(0, .ptr (some (bp0, 0))), (1, .str p1)] fun fr H => ?_
 refine AH 2 (Bn 2 [] 7 H fun fr H => ?_)
 obtain ⟨⟨x1, x2⟩, hx, hm⟩ := bind_some hm
 obtain ⟨v1, h1, hr, rfl, A1⟩ := I2 (av := [.ptr (some (bp0, 0)), .str p1, .func (.func 148) [] []]) hx (A.cut 2)
 replace A := A.g22 A1
 refine BD 2 [] 8 hr H fun fr t H => ?_
 refine AP 4 [(4, .str x1), (5, Ai x2)] H fun fr H => AY ?_
 obtain ⟨rfl, rfl⟩ := C9 hm
 exact ⟨.inl rfl, _, rH H, rfl, A⟩
def KB (p0 : Az) : Option (Bool) :=
 some p0.U4
theorem Pc {p0 q0} (hm : KB p0 = some q0) (A : HH g h [] F) (hc : BH (cfg.still 84) av = [.agg (AI p0)] := by kernel_rfl) : ∃ v h', BN cfg g h 84 av v h' ∧ v = .bool q0 ∧ HH g h' [] F := by
 refine Dr 5 [.tmp 2] hc ?_
 clear hc
 unfold KB at hm
 refine bg 5 [(0, .agg (AI p0))] fun fr H => ?_
 refine AH 2 ?_
 obtain ⟨h1, e1, A⟩ := A.pu (.cells none 2 (AI p0))
 refine A7 1 (.ptr (some (h.size, 0))) e1 H fun fr t H => ?_
 refine Bn 1 [] 3 H fun fr H => AZ 1 [] 4 0 7 A H fun fr t H => ?_
 refine AP 1 [(2, .bool p0.U4)] H fun fr H => AY ?_
 obtain rfl := Ag hm
 refine ⟨.inl rfl, .bool p0.U4, rH H, ?_⟩
 replace A := A.d0
 exact ⟨rfl, A⟩
def Co (p0 : CT) (s : (List UInt8) × Int) : Option (((List UInt8) × Int) ⊕ (((List UInt8)))) :=
 match s with
 | (x1, x2) => Af (decide (x2 < (p0.l_.length : Int))) (((GP p0.l_ x2).bind fun x5 => (EE x5).bind fun x6 => (KB x6).bind fun x7 => Af (!x7) (some x1) (none) : Option (((List UInt8)))).bind fun x4 => some (.inl (x4, IntKind.i64.wrap (x2 + 1)))) (some (.inr x1))
def CZ (p0 : CT) (p1 : List UInt8) : Option ((List UInt8) × Int) :=
 Af (decide ((p1.length : Int) > p0.BM)) (some (([] : List UInt8), (7 : Int))) ((loop (Co p0) (p1, (0 : Int))).bind fun x3 => some (x3, (0 : Int)))
theorem H9 {p0 p1 bp0 rp0_0 q0 q1} (hm : CZ p0 p1 = some (q0, q1)) (A : HH g h [.obj bp0 (.cells none 2 [AF rp0_0 p0.l_.length, Ai p0.BM]), .AL rp0_0 142 (AL (eP AJ) p0.l_)] F) (hc : BH (cfg.still 86) av = [.ptr (some (bp0, 0)), .str p1, .func (.func 84) [] []] := by kernel_rfl) : ∃ v h', BN cfg g h 86 av v h' ∧ v = .tuple [.str q0, Ai q1] ∧ HH g h' [.obj bp0 (.cells none 2 [AF rp0_0 p0.l_.length, Ai p0.BM]), .AL rp0_0 142 (AL (eP AJ) p0.l_)] F := by
 refine Dr 43 [.tmp 6, .tmp 7] hc ?_
 clear hc
 unfold CZ at hm
 refine bg 43 [(0, .ptr (some (bp0, 0))), (1, .str p1), (2, .func (.func 84) [] [])] fun fr H => ?_
 refine AH 2 (AP 2 [] H fun fr H => AV (AH 7 (AZ 5 [(11, Ai (p1.length : Int))] 15 0 1 A H fun fr t H => ?_)))
 refine AP 1 [(16, .bool (decide ((p1.length : Int) > p0.BM)))] H fun fr H => Ak 16 H hm (fun hb hm H => ?_) fun hb hm H => ?_
 ·refine AH 2 (AP 2 [(6, .str ([] : List UInt8)), (7, Ai 7)] H fun fr H => AY ?_)
  obtain ⟨rfl, rfl⟩ := C9 hm
  exact ⟨.inl rfl, _, rH H, rfl, A⟩
 refine Br id (AV (AH 6 (AZ 3 [] 20 0 0 A H fun fr t H => ?_)))
 refine AP 2 [(21, Ai (p0.l_.length : Int)), (22, Ai 0)] H fun fr H => Aa (id := 0) (by kernel_rfl) ?_
 obtain ⟨o1, ho, hm⟩ := bind_some hm
 refine BG (Q' := fun e fr' h' => (∃ x3, e = .exit 0 ∧ x3 = o1 ∧ Has fr' 43 [(1, .str x3)] ∧ HH g h' [.obj bp0 (.cells none 2 [AF rp0_0 p0.l_.length, Ai p0.BM]), .AL rp0_0 142 (AL (eP AJ) p0.l_)] F) ∨ False) ?_ ?_
 ·refine Bv (by kernel_rfl) (fun (s : (List UInt8) × Int) fr' h' => ∃ x1 x2, (x1, x2) = s ∧ Has fr' 43 [(0, .ptr (some (bp0, 0))), (1, .str x1), (2, .func (.func 84) [] []), (20, AF rp0_0 p0.l_.length), (21, Ai (p0.l_.length : Int)), (22, Ai x2)] ∧ HH g h' [.obj bp0 (.cells none 2 [AF rp0_0 p0.l_.length, Ai p0.BM]), .AL rp0_0 142 (AL (eP AJ) p0.l_)] F) ho ⟨_, _, rfl, H.ls, A⟩ ?_
  clear ho hm H A
  intro s q fr h1 hI hm
  obtain ⟨x1, x2, rfl, H, A⟩ := hI
  unfold Co at hm
  refine AH 1 (AP 1 [(23, .bool (decide (x2 < (p0.l_.length : Int))))] H fun fr H => AV (Ak 23 H hm (fun hb hm H => ?_) fun hb hm H => ?_))
  ·refine Br id (AV ?_)
   obtain ⟨o2, ho, hm⟩ := bind_some hm
   refine BG (Q' := fun e fr' h' => (∃ x4, e = .normal ∧ x4 = o2 ∧ Has fr' 43 [(0, .ptr (some (bp0, 0))), (1, .str x4), (2, .func (.func 84) [] []), (20, AF rp0_0 p0.l_.length), (21, Ai (p0.l_.length : Int)), (22, Ai x2)] ∧ HH g h' [.obj bp0 (.cells none 2 [AF rp0_0 p0.l_.length, Ai p0.BM]), .AL rp0_0 142 (AL (eP AJ) p0.l_)] F) ∨ False) ?_ ?_
   ·replace hm := ho
    clear ho
    refine Aa (id := 1) (by kernel_rfl) ?_
    refine AH 3 ?_
    obtain ⟨x5, hx, hm⟩ := bind_some hm
    obtain ⟨i1, er1, _, hx, hq1⟩ := HH.Ll (Qb _) (by decide) A 1 (xs := p0.l_) rfl hx
    refine As 24 (.ptr (some (i1, x2.toNat * 1))) h1 H (fun fr => .of (D7 (s := DP rp0_0 p0.l_.length) (by kernel_rfl) hx)) fun fr t H => ?_
    refine As 25 _ _ H (fun fr => .of (DU (by kernel_rfl) (EP (Qb _) (HH.row A 1 rfl er1) hq1 (o := 0) rfl))) fun fr t H => ?_
    refine AP 1 [(9, .BC (AJ x5))] H fun fr H => AV (AH 5 ?_)
    obtain ⟨x6, hx, hm⟩ := bind_some hm
    obtain ⟨v1, h2, hr, rfl, A1⟩ := F5 (av := [.BC (AJ x5)]) hx (A.cut 0)
    replace A := A.E8 A1
    refine BD 2 [(26, .func (.func 84) [] [])] 28 hr H fun fr t H => ?_
    obtain ⟨x7, hx, hm⟩ := bind_some hm
    obtain ⟨v1, h3, hr, rfl, A1⟩ := Pc (av := [.agg (AI x6)]) hx (A.cut 0)
    replace A := A.E8 A1
    refine A8 29 hr H fun fr t H => ?_
    refine AP 1 [(30, .bool (!x7))] H fun fr H => Ak 30 H hm (fun hb hm H => ?_) fun hb hm H => ?_
    ·refine Bh (i := 1) (by kernel_rfl) ?_
     exact .inl ⟨_, rfl, Ag hm, H.ls, A⟩
    refine Cc 4 id ?_
    cases hm
   clear ho
   clear A
   intro e fr h4 hQ
   rcases hQ with ⟨x4, rfl, rfl, H, A⟩ | hF
   ·show AW _ _ _ _ _ _ _
    refine ED 2 (Bk 2 [(0, .ptr (some (bp0, 0))), (1, .str x4), (2, .func (.func 84) [] []), (20, AF rp0_0 p0.l_.length), (21, Ai (p0.l_.length : Int)), (22, Ai (IntKind.i64.wrap (x2 + 1)))] H fun fr H => at_nil ?_)
    exact nx hm ⟨_, _, rfl, H.ls, A⟩
   exact hF.elim
  refine Bh (i := 0) (by kernel_rfl) ?_
  exact nr hm fun e => .inl ⟨_, rfl, e, H.ls, A⟩
 clear ho
 clear A
 intro e fr h5 hQ
 rcases hQ with ⟨x3, rfl, rfl, H, A⟩ | hF
 ·show AW _ _ _ _ _ _ _
  refine AH 3 (AP 3 [(6, .str x3), (7, Ai 0)] H fun fr H => AY ?_)
  obtain ⟨rfl, rfl⟩ := C9 hm
  exact ⟨.inl rfl, _, rH H, rfl, A⟩
 exact hF.elim
def C6 (p0 : List UInt8) (p1 : List UInt8) : Option (Bool) :=
 (Cu p0 (0 : Int)).bind fun x1 => (Af (decide (x1 ≥ 0)) ((Cu p1 (0 : Int)).bind fun x3 => some (decide (x3 < 0))) (some false) : Option (Bool)).bind fun x2 => some x2
theorem Eo {p0 p1 q0} (hm : C6 p0 p1 = some q0) (A : HH g h [] F) (hc : BH (cfg.still 87) av = [.str p0, .str p1] := by kernel_rfl) : ∃ v h', BN cfg g h 87 av v h' ∧ v = .bool q0 ∧ HH g h' [] F := by
 refine Dr 13 [.tmp 4] hc ?_
 clear hc
 unfold C6 at hm
 refine bg 13 [(0, .str p0), (1, .str p1)] fun fr H => ?_
 refine AH 1 (Bn 1 [] 9 H fun fr H => ?_)
 obtain ⟨x1, hx, hm⟩ := bind_some hm
 obtain ⟨v1, h1, hr, rfl, A1⟩ := GG (av := [.str p0, Ab 0]) hx (A.cut 0)
 replace A := A.E8 A1
 refine BD 1 [] 6 hr H fun fr t H => ?_
 refine AG 2 [(8, .bool (decide (x1 ≥ 0)))] H fun fr H => ?_
 obtain ⟨x2, ho, hm⟩ := bind_some hm
 refine Aq 4 (fun fr' h' => Has fr' 13 [(12, .bool x2)] ∧ HH g h' [] F) ?_ ?_
 ·rcases Ac ho with ⟨hb, hm⟩ | ⟨hb, hm⟩
  ·replace H := H.kn 8 hb
   obtain ⟨x3, hx, hm⟩ := bind_some hm
   obtain ⟨v1, h3, hr, rfl, A1⟩ := GG (av := [.str p1, Ab 0]) hx (A.cut 0)
   replace A := A.E8 A1
   refine BD 1 [] 10 hr H fun fr t H => ?_
   refine AG 2 [(12, .bool (decide (x3 < 0)))] H fun fr H => ?_
   obtain rfl := Ag hm
   exact at_nil ⟨H.ls, A⟩
  replace H := H.kn 8 hb
  refine AG 4 [(12, .bool false)] H fun fr H => ?_
  obtain rfl := Ag hm
  exact at_nil ⟨H.ls, A⟩
 clear A
 intro t fr h2 hK
 obtain ⟨H, A⟩ := hK
 refine AP 1 [(4, .bool x2)] H fun fr H => AY ?_
 obtain rfl := Ag hm
 exact ⟨.inl rfl, _, rH H, rfl, A⟩
def KC (p0 : Az) : Option (Bool) :=
 some p0.U6
theorem PY {p0 q0} (hm : KC p0 = some q0) (A : HH g h [] F) (hc : BH (cfg.still 85) av = [.agg (AI p0)] := by kernel_rfl) : ∃ v h', BN cfg g h 85 av v h' ∧ v = .bool q0 ∧ HH g h' [] F := by
 refine Dr 5 [.tmp 2] hc ?_
 clear hc
 unfold KC at hm
 refine bg 5 [(0, .agg (AI p0))] fun fr H => ?_
 refine AH 2 ?_
 obtain ⟨h1, e1, A⟩ := A.pu (.cells none 2 (AI p0))
 refine A7 1 (.ptr (some (h.size, 0))) e1 H fun fr t H => ?_
 refine Bn 1 [] 3 H fun fr H => AZ 1 [] 4 0 8 A H fun fr t H => ?_
 refine AP 1 [(2, .bool p0.U6)] H fun fr H => AY ?_
 obtain rfl := Ag hm
 refine ⟨.inl rfl, .bool p0.U6, rH H, ?_⟩
 replace A := A.d0
 exact ⟨rfl, A⟩
def Cp (p0 : CT) (s : (List UInt8) × Int) : Option (((List UInt8) × Int) ⊕ (((List UInt8)))) :=
 match s with
 | (x1, x2) => Af (decide (x2 < (p0.l_.length : Int))) (((GP p0.l_ x2).bind fun x5 => (EE x5).bind fun x6 => (KC x6).bind fun x7 => Af (!x7) (some x1) (none) : Option (((List UInt8)))).bind fun x4 => some (.inl (x4, IntKind.i64.wrap (x2 + 1)))) (some (.inr x1))
def Ca (p0 : CT) (p1 : List UInt8) : Option ((List UInt8) × Int) :=
 Af (decide ((p1.length : Int) > p0.BM)) (some (([] : List UInt8), (7 : Int))) ((loop (Cp p0) (p1, (0 : Int))).bind fun x3 => some (x3, (0 : Int)))
theorem IA {p0 p1 bp0 rp0_0 q0 q1} (hm : Ca p0 p1 = some (q0, q1)) (A : HH g h [.obj bp0 (.cells none 2 [AF rp0_0 p0.l_.length, Ai p0.BM]), .AL rp0_0 142 (AL (eP AJ) p0.l_)] F) (hc : BH (cfg.still 86) av = [.ptr (some (bp0, 0)), .str p1, .func (.func 85) [] []] := by kernel_rfl) : ∃ v h', BN cfg g h 86 av v h' ∧ v = .tuple [.str q0, Ai q1] ∧ HH g h' [.obj bp0 (.cells none 2 [AF rp0_0 p0.l_.length, Ai p0.BM]), .AL rp0_0 142 (AL (eP AJ) p0.l_)] F := by
 refine Dr 43 [.tmp 6, .tmp 7] hc ?_
 clear hc
 unfold Ca at hm
 refine bg 43 [(0, .ptr (some (bp0, 0))), (1, .str p1), (2, .func (.func 85) [] [])] fun fr H => ?_
 refine AH 2 (AP 2 [] H fun fr H => AV (AH 7 (AZ 5 [(11, Ai (p1.length : Int))] 15 0 1 A H fun fr t H => ?_)))
 refine AP 1 [(16, .bool (decide ((p1.length : Int) > p0.BM)))] H fun fr H => Ak 16 H hm (fun hb hm H => ?_) fun hb hm H => ?_
 ·refine AH 2 (AP 2 [(6, .str ([] : List UInt8)), (7, Ai 7)] H fun fr H => AY ?_)
  obtain ⟨rfl, rfl⟩ := C9 hm
  exact ⟨.inl rfl, _, rH H, rfl, A⟩
 refine Br id (AV (AH 6 (AZ 3 [] 20 0 0 A H fun fr t H => ?_)))
 refine AP 2 [(21, Ai (p0.l_.length : Int)), (22, Ai 0)] H fun fr H => Aa (id := 0) (by kernel_rfl) ?_
 obtain ⟨o1, ho, hm⟩ := bind_some hm
 refine BG (Q' := fun e fr' h' => (∃ x3, e = .exit 0 ∧ x3 = o1 ∧ Has fr' 43 [(1, .str x3)] ∧ HH g h' [.obj bp0 (.cells none 2 [AF rp0_0 p0.l_.length, Ai p0.BM]), .AL rp0_0 142 (AL (eP AJ) p0.l_)] F) ∨ False) ?_ ?_
 ·refine Bv (by kernel_rfl) (fun (s : (List UInt8) × Int) fr' h' => ∃ x1 x2, (x1, x2) = s ∧ Has fr' 43 [(0, .ptr (some (bp0, 0))), (1, .str x1), (2, .func (.func 85) [] []), (20, AF rp0_0 p0.l_.length), (21, Ai (p0.l_.length : Int)), (22, Ai x2)] ∧ HH g h' [.obj bp0 (.cells none 2 [AF rp0_0 p0.l_.length, Ai p0.BM]), .AL rp0_0 142 (AL (eP AJ) p0.l_)] F) ho ⟨_, _, rfl, H.ls, A⟩ ?_
  clear ho hm H A
  intro s q fr h1 hI hm
  obtain ⟨x1, x2, rfl, H, A⟩ := hI
  unfold Cp at hm
  refine AH 1 (AP 1 [(23, .bool (decide (x2 < (p0.l_.length : Int))))] H fun fr H => AV (Ak 23 H hm (fun hb hm H => ?_) fun hb hm H => ?_))
  ·refine Br id (AV ?_)
   obtain ⟨o2, ho, hm⟩ := bind_some hm
   refine BG (Q' := fun e fr' h' => (∃ x4, e = .normal ∧ x4 = o2 ∧ Has fr' 43 [(0, .ptr (some (bp0, 0))), (1, .str x4), (2, .func (.func 85) [] []), (20, AF rp0_0 p0.l_.length), (21, Ai (p0.l_.length : Int)), (22, Ai x2)] ∧ HH g h' [.obj bp0 (.cells none 2 [AF rp0_0 p0.l_.length, Ai p0.BM]), .AL rp0_0 142 (AL (eP AJ) p0.l_)] F) ∨ False) ?_ ?_
   ·replace hm := ho
    clear ho
    refine Aa (id := 1) (by kernel_rfl) ?_
    refine AH 3 ?_
    obtain ⟨x5, hx, hm⟩ := bind_some hm
    obtain ⟨i1, er1, _, hx, hq1⟩ := HH.Ll (Qb _) (by decide) A 1 (xs := p0.l_) rfl hx
    refine As 24 (.ptr (some (i1, x2.toNat * 1))) h1 H (fun fr => .of (D7 (s := DP rp0_0 p0.l_.length) (by kernel_rfl) hx)) fun fr t H => ?_
    refine As 25 _ _ H (fun fr => .of (DU (by kernel_rfl) (EP (Qb _) (HH.row A 1 rfl er1) hq1 (o := 0) rfl))) fun fr t H => ?_
    refine AP 1 [(9, .BC (AJ x5))] H fun fr H => AV (AH 5 ?_)
    obtain ⟨x6, hx, hm⟩ := bind_some hm
    obtain ⟨v1, h2, hr, rfl, A1⟩ := F5 (av := [.BC (AJ x5)]) hx (A.cut 0)
    replace A := A.E8 A1
    refine BD 2 [(26, .func (.func 85) [] [])] 28 hr H fun fr t H => ?_
    obtain ⟨x7, hx, hm⟩ := bind_some hm
    obtain ⟨v1, h3, hr, rfl, A1⟩ := PY (av := [.agg (AI x6)]) hx (A.cut 0)
    replace A := A.E8 A1
    refine A8 29 hr H fun fr t H => ?_
    refine AP 1 [(30, .bool (!x7))] H fun fr H => Ak 30 H hm (fun hb hm H => ?_) fun hb hm H => ?_
    ·refine Bh (i := 1) (by kernel_rfl) ?_
     exact .inl ⟨_, rfl, Ag hm, H.ls, A⟩
    refine Cc 4 id ?_
    cases hm
   clear ho
   clear A
   intro e fr h4 hQ
   rcases hQ with ⟨x4, rfl, rfl, H, A⟩ | hF
   ·show AW _ _ _ _ _ _ _
    refine ED 2 (Bk 2 [(0, .ptr (some (bp0, 0))), (1, .str x4), (2, .func (.func 85) [] []), (20, AF rp0_0 p0.l_.length), (21, Ai (p0.l_.length : Int)), (22, Ai (IntKind.i64.wrap (x2 + 1)))] H fun fr H => at_nil ?_)
    exact nx hm ⟨_, _, rfl, H.ls, A⟩
   exact hF.elim
  refine Bh (i := 0) (by kernel_rfl) ?_
  exact nr hm fun e => .inl ⟨_, rfl, e, H.ls, A⟩
 clear ho
 clear A
 intro e fr h5 hQ
 rcases hQ with ⟨x3, rfl, rfl, H, A⟩ | hF
 ·show AW _ _ _ _ _ _ _
  refine AH 3 (AP 3 [(6, .str x3), (7, Ai 0)] H fun fr H => AY ?_)
  obtain ⟨rfl, rfl⟩ := C9 hm
  exact ⟨.inl rfl, _, rH H, rfl, A⟩
 exact hF.elim
def DW (p0 : List Am) (s : Int) : Option ((Int) ⊕ ((Unit) ⊕ (Bool))) :=
 match s with
 | x1 => Af (decide (x1 < (p0.length : Int))) ((GP p0 x1).bind fun x3 => (Af (decide ((x3.Key.length : Int) > 300)) (some true) ((GP p0 x1).bind fun x5 => some (decide ((x5.Value.length : Int) > 300))) : Option (Bool)).bind fun x4 => Af x4 (some (.inr (.inr true))) (some (.inl (IntKind.i64.wrap (x1 + 1))))) (some (.inr (.inl ())))
def EB (p0 : List Am) : Option (Bool) :=
 Af (decide ((p0.length : Int) > 12)) (some true) ((loop (DW p0) (0 : Int)).bind fun o1 => (match o1 with | .inl _ => some false | .inr x2 => some x2))
theorem Kz {p0 q0} (hm : EB p0 = some q0) (A : HH g h [] F) (hc : BH (cfg.still 35) av = [vs Ad p0] := by kernel_rfl) : ∃ v h', BN cfg g h 35 av v h' ∧ v = .bool q0 ∧ HH g h' [] F := by
 refine Dr 29 [.tmp 2] hc ?_
 clear hc
 unfold EB at hm
 refine bg 29 [(0, vs Ad p0)] fun fr H => ?_
 refine AH 1 (AP 1 [] H fun fr H => AV (AH 3 (AP 3 [(6, .bool (decide ((p0.length : Int) > 12)))] H fun fr H => Ak 6 H hm (fun hb hm H => ?_) fun hb hm H => ?_)))
 ·refine AH 1 (AP 1 [(2, .bool true)] H fun fr H => AY ?_)
  obtain rfl := Ag hm
  exact ⟨.inl rfl, _, rH H, rfl, A⟩
 refine Br id (AV (AH 1 (AP 1 [(3, Ai 0)] H fun fr H => Aa (id := 0) (by kernel_rfl) ?_)))
 obtain ⟨o1, ho, hm⟩ := bind_some hm
 refine BG (Q' := fun e fr' h' => (e = .exit 0 ∧ .inl () = o1 ∧ Has fr' 29 [] ∧ HH g h' [] F) ∨ (∃ x2, e = .ret ∧ .inr x2 = o1 ∧ Has fr' 29 [(2, .bool x2)] ∧ HH g h' [] F) ∨ False) ?_ ?_
 ·refine Bv (by kernel_rfl) (fun (s : Int) fr' h' => ∃ x1, x1 = s ∧ Has fr' 29 [(0, vs Ad p0), (3, Ai x1)] ∧ HH g h' [] F) ho ⟨_, rfl, H.ls, A⟩ ?_
  clear ho hm H A
  intro s q fr h1 hI hm
  obtain ⟨x1, rfl, H, A⟩ := hI
  unfold DW at hm
  refine AV (AH 4 (AP 4 [(10, .bool (decide (x1 < (p0.length : Int))))] H fun fr H => Ak 10 H hm (fun hb hm H => ?_) fun hb hm H => ?_))
  ·refine Br id (AV (Aa (id := 1) (by kernel_rfl) ?_))
   refine AH 16 ?_
   obtain ⟨x3, hx, hm⟩ := bind_some hm
   refine Ax 2 [] 15 (.BC [.str x3.Key, .str x3.Value]) h1 H (fun fr => .of (Ht (e := Ad) (x := x3) Bx (by decide) (by kernel_rfl) hx)) fun fr t H => ?_
   refine Ax 1 [] 17 (.str x3.Key) h1 H (fun fr => .of (IQ (by kernel_rfl))) fun fr t H => ?_
   refine AG 3 [(20, .bool (decide ((x3.Key.length : Int) > 300)))] H fun fr H => ?_
   obtain ⟨x4, ho, hm⟩ := bind_some hm
   refine Aq 8 (fun fr' h' => Has fr' 29 [(0, vs Ad p0), (3, Ai x1), (28, .bool x4)] ∧ HH g h' [] F) ?_ ?_
   ·rcases Ac ho with ⟨hb, hm⟩ | ⟨hb, hm⟩
    ·replace H := H.kn 20 hb
     refine AG 8 [(28, .bool true)] H fun fr H => ?_
     obtain rfl := Ag hm
     exact at_nil ⟨H.ls, A⟩
    replace H := H.kn 20 hb
    obtain ⟨x5, hx, hm⟩ := bind_some hm
    refine Ax 2 [] 23 (.BC [.str x5.Key, .str x5.Value]) h1 H (fun fr => .of (Ht (e := Ad) (x := x5) Bx (by decide) (by kernel_rfl) hx)) fun fr t H => ?_
    refine Ax 1 [] 25 (.str x5.Value) h1 H (fun fr => .of (IQ (by kernel_rfl))) fun fr t H => ?_
    refine AG 3 [(28, .bool (decide ((x5.Value.length : Int) > 300)))] H fun fr H => ?_
    obtain rfl := Ag hm
    exact at_nil ⟨H.ls, A⟩
   clear A
   intro t fr h2 hK
   obtain ⟨H, A⟩ := hK
   refine BF id (Ak 28 H hm (fun hb hm H => ?_) fun hb hm H => ?_)
   ·refine AH 1 (AP 1 [(2, .bool true)] H fun fr H => AY ?_)
    exact nr hm fun e => Or.inr (.inl ⟨_, rfl, e, H.ls, A⟩)
   refine Fg 3 id (Bk 3 [(0, vs Ad p0), (3, Ai (IntKind.i64.wrap (x1 + 1)))] H fun fr H => at_nil ?_)
   exact nx hm ⟨_, rfl, H.ls, A⟩
  refine Bh (i := 0) (by kernel_rfl) ?_
  exact nr hm fun e => .inl ⟨rfl, e, H.ls, A⟩
 clear ho
 clear A
 intro e fr h3 hQ
 rcases hQ with ⟨rfl, rfl, H, A⟩ | ⟨x2, rfl, rfl, H, A⟩ | hF
 ·show AW _ _ _ _ _ _ _
  refine AH 1 (AP 1 [(2, .bool false)] H fun fr H => AY ?_)
  obtain rfl := Ag hm
  exact ⟨.inl rfl, _, rH H, rfl, A⟩
 ·obtain rfl := Ag hm
  exact ⟨.inl rfl, _, rH H, rfl, A⟩
 exact hF.elim
def Cw (p0 : AK) : Option (Bool) :=
 (EB p0.Extra).bind fun x1 => some (((((x1 || (decide ((p0.Name.length : Int) > 600))) || (decide ((p0.Be.length : Int) > 600))) || (decide ((p0.B1.length : Int) > 100))) || (decide ((p0.CI.length : Int) > 100))) || (decide ((p0.Data.length : Int) > 2000)))
theorem LI {p0 q0} (hm : Cw p0 = some q0) (A : HH g h [] F) (hc : BH (cfg.still 12) av = [.agg (AA p0)] := by kernel_rfl) : ∃ v h', BN cfg g h 12 av v h' ∧ v = .bool q0 ∧ HH g h' [] F := by
 refine Dr 36 [.tmp 2] hc ?_
 clear hc
 unfold Cw at hm
 refine bg 36 [(0, .agg (AA p0))] fun fr H => ?_
 refine AH 2 ?_
 obtain ⟨h1, e1, A⟩ := A.pu (.cells none 2 (AA p0))
 refine A7 1 (.ptr (some (h.size, 0))) e1 H fun fr t H => ?_
 refine Bn 1 [] 34 H fun fr H => AZ 1 [] 4 0 12 A H fun fr t H => ?_
 obtain ⟨x1, hx, hm⟩ := bind_some hm
 obtain ⟨v1, h2, hr, rfl, A1⟩ := Kz (av := [vs Ad p0.Extra]) hx (A.cut 0)
 replace A : HH g h2 [.obj h.size (.cells none 2 (AA p0))] F := A.CY (n := 0) A1
 refine A8 5 hr H fun fr t H => ?_
 refine AG 1 [(6, .bool x1)] H fun fr H => Aq 5 (fun fr' h' => h2 = h' ∧ Has fr' 36 [(1, .ptr (some (h.size, 0))), (11, .bool (x1 || (decide ((p0.Name.length : Int) > 600))))]) ?_ ?_
 ·cases hb : (x1 : Bool) with
  | true =>
   replace H := H.kn 6 hb
   exact AG 5 [(11, .bool true)] H fun fr H => Ap H hb
  | false =>
   replace H := H.kn 6 hb
   refine AZ 1 [] 8 0 0 A H fun fr t H => ?_
   exact AG 3 [(11, .bool (decide ((p0.Name.length : Int) > 600)))] H fun fr H => Ap H hb
 intro t fr h' hK
 obtain ⟨e, H⟩ := hK
 subst e
 refine AG 1 [(12, .bool (x1 || (decide ((p0.Name.length : Int) > 600))))] H fun fr H => Aq 5 (fun fr' h' => h2 = h' ∧ Has fr' 36 [(1, .ptr (some (h.size, 0))), (17, .bool ((x1 || (decide ((p0.Name.length : Int) > 600))) || (decide ((p0.Be.length : Int) > 600))))]) ?_ ?_
 ·cases hb : (x1 || (decide ((p0.Name.length : Int) > 600)) : Bool) with
  | true =>
   replace H := H.kn 12 hb
   exact AG 5 [(17, .bool true)] H fun fr H => Ap H hb
  | false =>
   replace H := H.kn 12 hb
   refine AZ 1 [] 14 0 1 A H fun fr t H => ?_
   exact AG 3 [(17, .bool (decide ((p0.Be.length : Int) > 600)))] H fun fr H => Ap H hb
 intro t fr h' hK
 obtain ⟨e, H⟩ := hK
 subst e
 refine AG 1 [(18, .bool ((x1 || (decide ((p0.Name.length : Int) > 600))) || (decide ((p0.Be.length : Int) > 600))))] H fun fr H => Aq 5 (fun fr' h' => h2 = h' ∧ Has fr' 36 [(1, .ptr (some (h.size, 0))), (23, .bool (((x1 || (decide ((p0.Name.length : Int) > 600))) || (decide ((p0.Be.length : Int) > 600))) || (decide ((p0.B1.length : Int) > 100))))]) ?_ ?_
 ·cases hb : ((x1 || (decide ((p0.Name.length : Int) > 600))) || (decide ((p0.Be.length : Int) > 600)) : Bool) with
  | true =>
   replace H := H.kn 18 hb
   exact AG 5 [(23, .bool true)] H fun fr H => Ap H hb
  | false =>
   replace H := H.kn 18 hb
   refine AZ 1 [] 20 0 6 A H fun fr t H => ?_
   exact AG 3 [(23, .bool (decide ((p0.B1.length : Int) > 100)))] H fun fr H => Ap H hb
 intro t fr h' hK
 obtain ⟨e, H⟩ := hK
 subst e
 refine AG 1 [(24, .bool (((x1 || (decide ((p0.Name.length : Int) > 600))) || (decide ((p0.Be.length : Int) > 600))) || (decide ((p0.B1.length : Int) > 100))))] H fun fr H => Aq 5 (fun fr' h' => h2 = h' ∧ Has fr' 36 [(1, .ptr (some (h.size, 0))), (29, .bool ((((x1 || (decide ((p0.Name.length : Int) > 600))) || (decide ((p0.Be.length : Int) > 600))) || (decide ((p0.B1.length : Int) > 100))) || (decide ((p0.CI.length : Int) > 100))))]) ?_ ?_
 ·cases hb : (((x1 || (decide ((p0.Name.length : Int) > 600))) || (decide ((p0.Be.length : Int) > 600))) || (decide ((p0.B1.length : Int) > 100)) : Bool) with
  | true =>
   replace H := H.kn 24 hb
   exact AG 5 [(29, .bool true)] H fun fr H => Ap H hb
  | false =>
   replace H := H.kn 24 hb
   refine AZ 1 [] 26 0 7 A H fun fr t H => ?_
   exact AG 3 [(29, .bool (decide ((p0.CI.length : Int) > 100)))] H fun fr H => Ap H hb
 intro t fr h' hK
 obtain ⟨e, H⟩ := hK
 subst e
 refine AG 1 [(30, .bool ((((x1 || (decide ((p0.Name.length : Int) > 600))) || (decide ((p0.Be.length : Int) > 600))) || (decide ((p0.B1.length : Int) > 100))) || (decide ((p0.CI.length : Int) > 100))))] H fun fr H => Aq 5 (fun fr' h' => h2 = h' ∧ Has fr' 36 [(35, .bool (((((x1 || (decide ((p0.Name.length : Int) > 600))) || (decide ((p0.Be.length : Int) > 600))) || (decide ((p0.B1.length : Int) > 100))) || (decide ((p0.CI.length : Int) > 100))) || (decide ((p0.Data.length : Int) > 2000))))]) ?_ ?_
 ·cases hb : ((((x1 || (decide ((p0.Name.length : Int) > 600))) || (decide ((p0.Be.length : Int) > 600))) || (decide ((p0.B1.length : Int) > 100))) || (decide ((p0.CI.length : Int) > 100)) : Bool) with
  | true =>
   replace H := H.kn 30 hb
   exact AG 5 [(35, .bool true)] H fun fr H => Ap H hb
  | false =>
   replace H := H.kn 30 hb
   refine AZ 1 [] 32 0 13 A H fun fr t H => ?_
   exact AG 3 [(35, .bool (decide ((p0.Data.length : Int) > 2000)))] H fun fr H => Ap H hb
 intro t fr h' hK
 obtain ⟨e, H⟩ := hK
 subst e
 refine AP 1 [(2, .bool (((((x1 || (decide ((p0.Name.length : Int) > 600))) || (decide ((p0.Be.length : Int) > 600))) || (decide ((p0.B1.length : Int) > 100))) || (decide ((p0.CI.length : Int) > 100))) || (decide ((p0.Data.length : Int) > 2000))))] H fun fr H => AY ?_
 obtain rfl := Ag hm
 refine ⟨.inl rfl, .bool (((((x1 || (decide ((p0.Name.length : Int) > 600))) || (decide ((p0.Be.length : Int) > 600))) || (decide ((p0.B1.length : Int) > 100))) || (decide ((p0.CI.length : Int) > 100))) || (decide ((p0.Data.length : Int) > 2000))), rH H, ?_⟩
 replace A := A.d0
 exact ⟨rfl, A⟩
def Cl (p0 : List UInt8) (s : Int) : Option ((Int) ⊕ ((Int))) :=
 match s with
 | x1 => (Af (decide (x1 < (p0.length : Int))) ((P1 p0 x1).bind fun x4 => some (x4 != 0)) (some false) : Option (Bool)).bind fun x3 => Af x3 (some (.inl (IntKind.i64.wrap (x1 + 1)))) (some (.inr x1))
def CV (p0 : List UInt8) : Option ((List UInt8)) :=
 (loop (Cl p0) (0 : Int)).bind fun x2 => (Ln p0 none (some x2)).bind fun x5 => some x5
theorem Eu {p0 q0} (hm : CV p0 = some q0) (A : HH g h [] F) (hc : BH (cfg.still 36) av = [.str p0] := by kernel_rfl) : ∃ v h', BN cfg g h 36 av v h' ∧ v = .str q0 ∧ HH g h' [] F := by
 refine Dr 19 [.tmp 2] hc ?_
 clear hc
 unfold CV at hm
 refine bg 19 [(0, .str p0)] fun fr H => ?_
 refine AH 1 (Bn 1 [] 1 H fun fr H => AP 1 [(3, Ai 0)] H fun fr H => AV (Aa (id := 0) (by kernel_rfl) ?_))
 obtain ⟨o1, ho, hm⟩ := bind_some hm
 refine BG (Q' := fun e fr' h' => (∃ x2, e = .exit 0 ∧ x2 = o1 ∧ Has fr' 19 [(0, .str p0), (3, Ai x2)] ∧ HH g h' [] F) ∨ False) ?_ ?_
 ·refine Bv (by kernel_rfl) (fun (s : Int) fr' h' => ∃ x1, x1 = s ∧ Has fr' 19 [(0, .str p0), (3, Ai x1)] ∧ HH g h' [] F) ho ⟨_, rfl, H.ls, A⟩ ?_
  clear ho hm H A
  intro s q fr h1 hI hm
  obtain ⟨x1, rfl, H, A⟩ := hI
  unfold Cl at hm
  refine AV (AH 10 (AG 5 [(8, .bool (decide (x1 < (p0.length : Int))))] H fun fr H => ?_))
  obtain ⟨x3, ho, hm⟩ := bind_some hm
  refine Aq 5 (fun fr' h' => Has fr' 19 [(0, .str p0), (3, Ai x1), (13, .bool x3)] ∧ HH g h' [] F) ?_ ?_
  ·rcases Ac ho with ⟨hb, hm⟩ | ⟨hb, hm⟩
   ·replace H := H.kn 8 hb
    obtain ⟨x4, hx, hm⟩ := bind_some hm
    refine Ax 2 [] 11 (Ab x4) h1 H (fun fr => .of (Iy (by kernel_rfl) hx)) fun fr t H => ?_
    refine AG 2 [(13, .bool (x4 != 0))] H fun fr H => ?_
    obtain rfl := Ag hm
    exact at_nil ⟨H.ls, A⟩
   replace H := H.kn 8 hb
   refine AG 5 [(13, .bool false)] H fun fr H => ?_
   obtain rfl := Ag hm
   exact at_nil ⟨H.ls, A⟩
  clear A
  intro t fr h2 hK
  obtain ⟨H, A⟩ := hK
  refine BF id (Ak 13 H hm (fun hb hm H => ?_) fun hb hm H => ?_)
  ·refine Br id (Aa (id := 1) (by kernel_rfl) ?_)
   refine ED 3 (Bk 3 [(0, .str p0), (3, Ai (IntKind.i64.wrap (x1 + 1)))] H fun fr H => at_nil ?_)
   exact nx hm ⟨_, rfl, H.ls, A⟩
  refine Bh (i := 0) (by kernel_rfl) ?_
  exact nr hm fun e => .inl ⟨_, rfl, e, H.ls, A⟩
 clear ho
 clear A
 intro e fr h3 hQ
 rcases hQ with ⟨x2, rfl, rfl, H, A⟩ | hF
 ·show AW _ _ _ _ _ _ _
  refine AH 4 ?_
  obtain ⟨x5, hx, hm⟩ := bind_some hm
  refine Ax 2 [] 18 (.str x5) h3 H (fun fr => .of (JV (k := .i64) (k' := .i64) (lo := none) (hi := (some x2)) (by kernel_rfl) hx)) fun fr t H => ?_
  refine AP 1 [(2, .str x5)] H fun fr H => AY ?_
  obtain rfl := Ag hm
  exact ⟨.inl rfl, _, rH H, rfl, A⟩
 exact hF.elim
def DI (p0 : Am) (s : Int) : Option ((Int) ⊕ ((Unit) ⊕ (Bool))) :=
 match s with
 | x1 => Af (decide (x1 < (p0.Key.length : Int))) ((P1 p0.Key x1).bind fun x3 => Af (x3 == 61) (some (.inr (.inr false))) (some (.inl (IntKind.i64.wrap (x1 + 1))))) (some (.inr (.inl ())))
def Dt (p0 : Am) : Option (Bool) :=
 (loop (DI p0) (0 : Int)).bind fun o1 => (match o1 with | .inl _ => some (!(p0.Key == ([] : List UInt8))) | .inr x2 => some x2)
theorem Ki {p0 q0} (hm : Dt p0 = some q0) (A : HH g h [] F) (hc : BH (cfg.still 37) av = [.agg [.str p0.Key, .str p0.Value]] := by kernel_rfl) : ∃ v h', BN cfg g h 37 av v h' ∧ v = .bool q0 ∧ HH g h' [] F := by
 refine Dr 19 [.tmp 2] hc ?_
 clear hc
 unfold Dt at hm
 refine bg 19 [(0, .agg [.str p0.Key, .str p0.Value])] fun fr H => ?_
 refine AH 2 ?_
 obtain ⟨h1, e1, A⟩ := A.pu (.cells none 2 [.str p0.Key, .str p0.Value])
 refine A7 1 (.ptr (some (h.size, 0))) e1 H fun fr t H => ?_
 refine AP 1 [] H fun fr H => AV (AH 1 (AP 1 [(3, Ai 0)] H fun fr H => Aa (id := 0) (by kernel_rfl) ?_))
 obtain ⟨o1, ho, hm⟩ := bind_some hm
 refine BG (Q' := fun e fr' h' => (e = .exit 0 ∧ .inl () = o1 ∧ Has fr' 19 [(1, .ptr (some (h.size, 0)))] ∧ HH g h' [.obj h.size (.cells none 2 [.str p0.Key, .str p0.Value])] F) ∨ (∃ x2, e = .ret ∧ .inr x2 = o1 ∧ Has fr' 19 [(2, .bool x2)] ∧ HH g h' [.obj h.size (.cells none 2 [.str p0.Key, .str p0.Value])] F) ∨ False) ?_ ?_
 ·refine Bv (by kernel_rfl) (fun (s : Int) fr' h' => ∃ x1, x1 = s ∧ Has fr' 19 [(1, .ptr (some (h.size, 0))), (3, Ai x1)] ∧ HH g h' [.obj h.size (.cells none 2 [.str p0.Key, .str p0.Value])] F) ho ⟨_, rfl, H.ls, A⟩ ?_
  clear ho hm H A
  intro s q fr h2 hI hm
  obtain ⟨x1, rfl, H, A⟩ := hI
  unfold DI at hm
  refine AV (AH 5 (AZ 2 [(4, Ai x1)] 6 0 0 A H fun fr t H => ?_))
  refine AP 2 [(8, .bool (decide (x1 < (p0.Key.length : Int))))] H fun fr H => Ak 8 H hm (fun hb hm H => ?_) fun hb hm H => ?_
  ·refine Br id (AV (Aa (id := 1) (by kernel_rfl) ?_))
   refine AH 5 (AZ 1 [] 12 0 0 A H fun fr t H => ?_)
   obtain ⟨x3, hx, hm⟩ := bind_some hm
   refine Ax 1 [] 14 (Ab x3) h2 H (fun fr => .of (Iy (by kernel_rfl) hx)) fun fr t H => ?_
   refine AP 1 [(15, .bool (x3 == 61))] H fun fr H => Ak 15 H hm (fun hb hm H => ?_) fun hb hm H => ?_
   ·refine AH 1 (AP 1 [(2, .bool false)] H fun fr H => AY ?_)
    exact nr hm fun e => Or.inr (.inl ⟨_, rfl, e, H.ls, A⟩)
   refine Fg 3 id (Bk 3 [(1, .ptr (some (h.size, 0))), (3, Ai (IntKind.i64.wrap (x1 + 1)))] H fun fr H => at_nil ?_)
   exact nx hm ⟨_, rfl, H.ls, A⟩
  refine Bh (i := 0) (by kernel_rfl) ?_
  exact nr hm fun e => .inl ⟨rfl, e, H.ls, A⟩
 clear ho
 clear A
 intro e fr h3 hQ
 rcases hQ with ⟨rfl, rfl, H, A⟩ | ⟨x2, rfl, rfl, H, A⟩ | hF
 ·show AW _ _ _ _ _ _ _
  refine AH 4 (AZ 1 [] 17 0 0 A H fun fr t H => ?_)
  refine AP 2 [(2, .bool (!(p0.Key == ([] : List UInt8))))] H fun fr H => AY ?_
  obtain rfl := Ag hm
  refine ⟨.inl rfl, .bool (!(p0.Key == ([] : List UInt8))), rH H, ?_⟩
  replace A := A.d0
  exact ⟨rfl, A⟩
 ·obtain rfl := Ag hm
  refine ⟨.inl rfl, .bool x2, rH H, ?_⟩
  replace A := A.d0
  exact ⟨rfl, A⟩
 exact hF.elim
def E1 (p0 : Int) (p1 : Int) : Option (Bool) :=
 some ((((decide (p0 ≥ (-9007199254740991))) && (decide (p0 ≤ 9007199254740991))) && (decide (p1 ≥ 0))) && (decide (p1 ≤ 999999999)))
theorem Kn {p0 p1 q0} (hm : E1 p0 p1 = some q0) (A : HH g h [] F) (hc : BH (cfg.still 10) av = [Ai p0, Ai p1] := by kernel_rfl) : ∃ v h', BN cfg g h 10 av v h' ∧ v = .bool q0 ∧ HH g h' [] F := by
 refine Dr 19 [.tmp 4] hc ?_
 clear hc
 unfold E1 at hm
 refine bg 19 [(0, Ai p0), (1, Ai p1)] fun fr H => ?_
 refine AH 1 (Bn 1 [] 15 H fun fr H => AG 3 [(7, .bool (decide (p0 ≥ (-9007199254740991))))] H fun fr H => Aq 3 (fun fr' h' => h = h' ∧ Has fr' 19 [(1, Ai p1), (10, .bool ((decide (p0 ≥ (-9007199254740991))) && (decide (p0 ≤ 9007199254740991))))]) ?_ ?_)
 ·cases hb : (decide (p0 ≥ (-9007199254740991)) : Bool) with
  | true =>
   replace H := H.kn 7 hb
   exact AG 3 [(10, .bool (decide (p0 ≤ 9007199254740991)))] H fun fr H => Ap H hb
  | false =>
   replace H := H.kn 7 hb
   exact AG 3 [(10, .bool false)] H fun fr H => Ap H hb
 intro t fr h' hK
 obtain ⟨e, H⟩ := hK
 subst e
 refine AG 1 [(11, .bool ((decide (p0 ≥ (-9007199254740991))) && (decide (p0 ≤ 9007199254740991))))] H fun fr H => Aq 3 (fun fr' h' => h = h' ∧ Has fr' 19 [(1, Ai p1), (14, .bool (((decide (p0 ≥ (-9007199254740991))) && (decide (p0 ≤ 9007199254740991))) && (decide (p1 ≥ 0))))]) ?_ ?_
 ·cases hb : ((decide (p0 ≥ (-9007199254740991))) && (decide (p0 ≤ 9007199254740991)) : Bool) with
  | true =>
   replace H := H.kn 11 hb
   exact AG 3 [(14, .bool (decide (p1 ≥ 0)))] H fun fr H => Ap H hb
  | false =>
   replace H := H.kn 11 hb
   exact AG 3 [(14, .bool false)] H fun fr H => Ap H hb
 intro t fr h' hK
 obtain ⟨e, H⟩ := hK
 subst e
 refine AG 1 [(15, .bool (((decide (p0 ≥ (-9007199254740991))) && (decide (p0 ≤ 9007199254740991))) && (decide (p1 ≥ 0))))] H fun fr H => Aq 3 (fun fr' h' => h = h' ∧ Has fr' 19 [(18, .bool ((((decide (p0 ≥ (-9007199254740991))) && (decide (p0 ≤ 9007199254740991))) && (decide (p1 ≥ 0))) && (decide (p1 ≤ 999999999))))]) ?_ ?_
 ·cases hb : (((decide (p0 ≥ (-9007199254740991))) && (decide (p0 ≤ 9007199254740991))) && (decide (p1 ≥ 0)) : Bool) with
  | true =>
   replace H := H.kn 15 hb
   exact AG 3 [(18, .bool (decide (p1 ≤ 999999999)))] H fun fr H => Ap H hb
  | false =>
   replace H := H.kn 15 hb
   exact AG 3 [(18, .bool false)] H fun fr H => Ap H hb
 intro t fr h' hK
 obtain ⟨e, H⟩ := hK
 subst e
 refine AP 1 [(4, .bool ((((decide (p0 ≥ (-9007199254740991))) && (decide (p0 ≤ 9007199254740991))) && (decide (p1 ≥ 0))) && (decide (p1 ≤ 999999999))))] H fun fr H => AY ?_
 obtain rfl := Ag hm
 exact ⟨.inl rfl, _, rH H, rfl, A⟩
end
end Go.Av.L
