/-
 A part.
-/
import Derived.Test.YtdjbadhilkmiiaaGreatDoorKCfg
import Derived.Test.YtdjbadhilkmiiaaGreatDoorK1
import Derived.Test.YtdjbadhilkmiiaaGreatDoorK2
import Derived.Test.YtdjbadhilkmiiaaGreatDoorK3
import Derived.Test.YtdjbadhilkmiiaaGreatDoorK5
namespace Go.Av.L
open Go.Av Go.Lib
set_option maxRecDepth 10000
set_option maxHeartbeats 4000000
set_option linter.unusedVariables false
set_option linter.unusedSimpArgs false
variable {g : Gd} {h : AJ} {F : List Ck} {av : List AB}
noncomputable section
def Gs (p0 : Cf) (p1 : Int) : Option (Bool) :=
 some ((decide (p1 ≥ 0)) && (decide (p1 < p0.Az)))
theorem Ll {p0 p1 bp0 q0} (hm : Gs p0 p1 = some q0) (A : HH g h [.obj bp0 (.cells none 2 ([Ai p0.n_, Ai p0.Az] ++ (DC 257 (AB.int .i64) p0.Bl ++ [])))] F) (hc : Ba (cfg.still 122) av = [.ptr (some (bp0, 0)), Ai p1] := by kernel_rfl) : ∃ v h', Bi cfg g h 122 av v h' ∧ v = .bool q0 ∧ HH g h' [.obj bp0 (.cells none 2 ([Ai p0.n_, Ai p0.Az] ++ (DC 257 (AB.int .i64) p0.Bl ++ [])))] F := by
 refine EN 15 [.tmp 4] hc ?_
 clear hc
 unfold Gs at hm
 refine bg 15 [(0, .ptr (some (bp0, 0))), (1, Ai p1)] fun fr H => ?_
 refine AF 1 (B1 1 [] 11 H fun fr H => AG 3 [(7, .bool (decide (p1 ≥ 0)))] H fun fr H => A9 7 (fun fr' h' => h = h' ∧ Has fr' 15 [(14, .bool ((decide (p1 ≥ 0)) && (decide (p1 < p0.Az))))]) ?_ ?_)
 ·cases hb : (decide (p1 ≥ 0) : Bool) with
  | true =>
   replace H := H.kn 7 hb
   refine BA 4 [(8, Ai p1)] 12 (Ai p0.Az) h H (fun fr => .of (EP (by kernel_rfl) (A.Ni 0 rfl (o := 1) (by kernel_rfl)))) fun fr t H => ?_
   exact AG 2 [(14, .bool (decide (p1 < p0.Az)))] H fun fr H => BK H hb
  | false =>
   replace H := H.kn 7 hb
   exact AG 7 [(14, .bool false)] H fun fr H => BK H hb
 intro t fr h' hK
 obtain ⟨e, H⟩ := hK
 subst e
 refine AP 1 [(4, .bool ((decide (p1 ≥ 0)) && (decide (p1 < p0.Az))))] H fun fr H => AY ?_
 obtain rfl := Ag hm
 exact ⟨.inl rfl, _, rH H, rfl, A⟩
def F8 (p0 : Cf) (p1 : Int) : Option (Bool × Int × Cf) :=
 (Gs p0 p1).bind fun x1 => Ac (!x1) (some (false, (9 : Int), p0)) (((Ss 257 p0.Bl p1).bind fun x3 => Ac (decide (x3 < 9007199254740991)) ((Ss 257 p0.Bl p1).bind fun x4 => (Ss 257 p0.Bl p1).bind fun x5 => some (O8 p0.Bl p1.toNat (IntKind.i64.wrap (x4 + 1)))) (some p0.Bl) : Option (((Nat → Int)))).bind fun x2 => (Ac (p0.n_ == 0) (some true) ((Ss 257 x2 p1).bind fun x7 => some (x7 == p0.n_)) : Option (Bool)).bind fun x6 => some (x6, (0 : Int), (⟨p0.n_, p0.Az, x2⟩ : Cf)))
theorem KO {p0 p1 bp0 q0 q1 u0} (hm : F8 p0 p1 = some (q0, q1, u0)) (A : HH g h [.obj bp0 (.cells none 2 ([Ai p0.n_, Ai p0.Az] ++ (DC 257 (AB.int .i64) p0.Bl ++ [])))] F) (hc : Ba (cfg.still 76) av = [.ptr (some (bp0, 0)), Ai p1] := by kernel_rfl) : ∃ v h', Bi cfg g h 76 av v h' ∧ v = .tuple [.bool q0, Ai q1] ∧ HH g h' [.obj bp0 (.cells none 2 ([Ai u0.n_, Ai u0.Az] ++ (DC 257 (AB.int .i64) u0.Bl ++ [])))] F := by
 refine EN 45 [.tmp 4, .tmp 5] hc ?_
 clear hc
 unfold F8 at hm
 refine bg 45 [(0, .ptr (some (bp0, 0))), (1, Ai p1)] fun fr H => ?_
 refine AF 2 (AP 2 [] H fun fr H => AR (AF 4 ?_))
 obtain ⟨x1, hx, hm⟩ := bind_some hm
 obtain ⟨v1, h1, hr, rfl, A1⟩ := Ll (av := [.ptr (some (bp0, 0)), Ai p1]) hx (A.cut 1)
 replace A := A.g11 A1
 refine Ap 2 [] 8 hr H fun fr t H => ?_
 refine AP 1 [(9, .bool (!x1))] H fun fr H => Ae 9 H hm (fun hb hm H => ?_) fun hb hm H => ?_
 ·refine AF 2 (AP 2 [(4, .bool false), (5, Ai 9)] H fun fr H => AY ?_)
  obtain ⟨rfl, rfl, rfl⟩ := Ho hm
  exact ⟨.inl rfl, _, rH H, rfl, A⟩
 refine B0 id (AR ?_)
 obtain ⟨o1, ho, hm⟩ := bind_some hm
 refine BU (Q' := fun e fr' h' => (∃ x2, e = .normal ∧ x2 = o1 ∧ Has fr' 45 [(0, .ptr (some (bp0, 0))), (1, Ai p1)] ∧ HH g h' [.obj bp0 (.cells none 2 ([Ai p0.n_, Ai p0.Az] ++ (DC 257 (AB.int .i64) x2 ++ [])))] F) ∨ False) ?_ ?_
 ·replace hm := ho
  clear ho
  refine AF 7 ?_
  obtain ⟨x3, hq1, hm⟩ := bind_some hm
  refine BA 4 [] 14 (.ptr (some (bp0, 2 + p1.toNat * 1))) h1 H (fun fr => .of (Hv (by kernel_rfl) (MF hq1 (bp0, 2) 1))) fun fr t H => ?_
  refine As 15 _ _ H (fun fr => .of (EP (by kernel_rfl) (HH.Xe A 0 (AB.int .i64) (X := p0.Bl) [Ai p0.n_, Ai p0.Az] ([] : List AB) (off := 2) rfl rfl (i := p1) hq1))) fun fr t H => ?_
  refine AP 1 [(16, .bool (decide (x3 < 9007199254740991)))] H fun fr H => Ae 16 H hm (fun hb hm H => ?_) fun hb hm H => ?_
  ·refine Df 4 11 ?_
   obtain ⟨x4, hq2, hm⟩ := bind_some hm
   refine BA 4 [(17, .ptr (some (bp0, 0))), (18, Ai p1)] 21 (.ptr (some (bp0, 2 + p1.toNat * 1))) h1 H (fun fr => .of (Hv (by kernel_rfl) (MF hq2 (bp0, 2) 1))) fun fr t H => ?_
   refine As 22 _ _ H (fun fr => .of (EP (by kernel_rfl) (HH.Xe A 0 (AB.int .i64) (X := p0.Bl) [Ai p0.n_, Ai p0.Az] ([] : List AB) (off := 2) rfl rfl (i := p1) hq2))) fun fr t H => ?_
   obtain ⟨x5, hq3, hm⟩ := bind_some hm
   refine BA 3 [(23, Ai (IntKind.i64.wrap (x4 + 1)))] 26 (.ptr (some (bp0, 2 + p1.toNat * 1))) h1 H (fun fr => .of (Hv (by kernel_rfl) (MF hq3 (bp0, 2) 1))) fun fr t H => ?_
   obtain ⟨h2, hx, A1⟩ := HH.Xw A 0 (AB.int .i64) (X := p0.Bl) [Ai p0.n_, Ai p0.Az] ([] : List AB) (off := 2) rfl rfl (i := p1) (IntKind.i64.wrap (x4 + 1)) hq3 rfl
   replace A : HH g h2 [.obj bp0 (.cells none 2 ([Ai p0.n_, Ai p0.Az] ++ (DC 257 (AB.int .i64) (O8 p0.Bl p1.toNat (IntKind.i64.wrap (x4 + 1))) ++ [])))] F := A1
   refine Hk hx H fun fr t H => ?_
   refine at_nil ?_
   exact .inl ⟨_, rfl, Ag hm, H.ls, A⟩
  exact Fz (.inl ⟨_, rfl, Ag hm, H.ls, A⟩)
 clear ho
 clear A
 intro e fr h3 hQ
 rcases hQ with ⟨x2, rfl, rfl, H, A⟩ | hF
 ·show AW _ _ _ _ _ _ _
  refine AR (Df 5 20 ?_)
  refine BA 3 [] 30 (Ai p0.n_) h3 H (fun fr => .of (EP (by kernel_rfl) (A.Ni 0 rfl (o := 0) (by kernel_rfl)))) fun fr t H => ?_
  refine AG 2 [(32, .bool (p0.n_ == 0))] H fun fr H => ?_
  obtain ⟨x6, ho, hm⟩ := bind_some hm
  refine A9 12 (fun fr' h' => Has fr' 45 [(44, .bool x6)] ∧ HH g h' [.obj bp0 (.cells none 2 ([Ai p0.n_, Ai p0.Az] ++ (DC 257 (AB.int .i64) x2 ++ [])))] F) ?_ ?_
  ·rcases AZ ho with ⟨hb, hm⟩ | ⟨hb, hm⟩
   ·replace H := H.kn 32 hb
    refine AG 12 [(44, .bool true)] H fun fr H => ?_
    obtain rfl := Ag hm
    exact at_nil ⟨H.ls, A⟩
   replace H := H.kn 32 hb
   obtain ⟨x7, hq4, hm⟩ := bind_some hm
   refine BA 4 [] 37 (.ptr (some (bp0, 2 + p1.toNat * 1))) h3 H (fun fr => .of (Hv (by kernel_rfl) (MF hq4 (bp0, 2) 1))) fun fr t H => ?_
   refine As 38 _ _ H (fun fr => .of (EP (by kernel_rfl) (HH.Xe A 0 (AB.int .i64) (X := x2) [Ai p0.n_, Ai p0.Az] ([] : List AB) (off := 2) rfl rfl (i := p1) hq4))) fun fr t H => ?_
   refine BA 3 [] 42 (Ai p0.n_) h3 H (fun fr => .of (EP (by kernel_rfl) (A.Ni 0 rfl (o := 0) (by kernel_rfl)))) fun fr t H => ?_
   refine AG 2 [(44, .bool (x7 == p0.n_))] H fun fr H => ?_
   obtain rfl := Ag hm
   exact at_nil ⟨H.ls, A⟩
  clear A
  intro t fr h4 hK
  obtain ⟨H, A⟩ := hK
  refine AP 2 [(4, .bool x6), (5, Ai 0)] H fun fr H => AY ?_
  obtain ⟨rfl, rfl, rfl⟩ := Ho hm
  exact ⟨.inl rfl, _, rH H, rfl, A⟩
 exact hF.elim
def Di (p0 : B2) (p1 : Bk) : Option (Int × Cf) :=
 (Ac (decide ((p0.Aj.length : Int) > 0)) ((E6 p0.Aj p1.Name).bind fun (x3, x4) => Ac (!x4) (some (.inr (6 : Int))) (some (.inl x3))) (some (.inl (0 : Int))) : Option ((Int) ⊕ (Int))).bind fun o1 => (match o1 with | .inl x1 => (F8 p0.Ar x1).bind fun (x5, x6, x7) => Ac (!x5) (some ((7 : Int), x7)) (some ((0 : Int), x7)) | .inr x2 => some (x2, p0.Ar))
theorem G5 {p0 p1 bp0 rp0_14 rp0_15 bp0_16 rp0_16_0 bp0_17 q0 u5} (hm : Di p0 p1 = some (q0, u5)) (A : HH g h [.obj bp0 (.cells none 2 [vs AA p0.c_.AQ, vs AA p0.c_.AS, vs AL p0.c_.Bt, .bool p0.c_.FT, .bool p0.c_.Ay, Ai p0.c_.BN, .bool p0.c_.Be, Ai p0.c_.An.CX, Ai p0.c_.An.BS, Ai p0.c_.Eu, Ai p0.c_.Bf, Ai p0.c_.Name, Ai p0.c_.Head, Ai p0.c_.BF, AH rp0_14 p0.Aj.length, AH rp0_15 p0.Ak.length, .ptr (some (bp0_16, 0)), .ptr (some (bp0_17, 0))]), .AK rp0_14 93 (AK (eP AE) p0.Aj), .AK rp0_15 93 (AK (eP AE) p0.Ak), .obj bp0_16 (.cells none 2 [AH rp0_16_0 p0.Aq.l_.length, Ai p0.Aq.Cm]), .AK rp0_16_0 99 (AK (eP AU) p0.Aq.l_), .obj bp0_17 (.cells none 2 ([Ai p0.Ar.n_, Ai p0.Ar.Az] ++ (DC 257 (AB.int .i64) p0.Ar.Bl ++ [])))] F) (hc : Ba (cfg.still 26) av = [.ptr (some (bp0, 0)), .agg (Aa p1)] := by kernel_rfl) : ∃ v h', Bi cfg g h 26 av v h' ∧ v = Ai q0 ∧ HH g h' [.obj bp0 (.cells none 2 [vs AA p0.c_.AQ, vs AA p0.c_.AS, vs AL p0.c_.Bt, .bool p0.c_.FT, .bool p0.c_.Ay, Ai p0.c_.BN, .bool p0.c_.Be, Ai p0.c_.An.CX, Ai p0.c_.An.BS, Ai p0.c_.Eu, Ai p0.c_.Bf, Ai p0.c_.Name, Ai p0.c_.Head, Ai p0.c_.BF, AH rp0_14 p0.Aj.length, AH rp0_15 p0.Ak.length, .ptr (some (bp0_16, 0)), .ptr (some (bp0_17, 0))]), .AK rp0_14 93 (AK (eP AE) p0.Aj), .AK rp0_15 93 (AK (eP AE) p0.Ak), .obj bp0_16 (.cells none 2 [AH rp0_16_0 p0.Aq.l_.length, Ai p0.Aq.Cm]), .AK rp0_16_0 99 (AK (eP AU) p0.Aq.l_), .obj bp0_17 (.cells none 2 ([Ai u5.n_, Ai u5.Az] ++ (DC 257 (AB.int .i64) u5.Bl ++ [])))] F := by
 refine EN 40 [.tmp 4] hc ?_
 clear hc
 unfold Di at hm
 refine bg 40 [(0, .ptr (some (bp0, 0))), (1, .agg (Aa p1))] fun fr H => ?_
 refine AF 2 ?_
 obtain ⟨h1, e1, A⟩ := A.pu (.cells none 2 (Aa p1))
 refine BP 3 (.ptr (some (h.size, 0))) e1 H fun fr t H => ?_
 refine B1 1 [] 1 H fun fr H => AP 1 [(5, Ai 0)] H fun fr H => AR ?_
 obtain ⟨o1, ho, hm⟩ := bind_some hm
 refine BU (Q' := fun e fr' h' => (∃ x1, e = .normal ∧ .inl x1 = o1 ∧ Has fr' 40 [(0, .ptr (some (bp0, 0))), (5, Ai x1)] ∧ HH g h' [.obj h.size (.cells none 2 (Aa p1)), .obj bp0 (.cells none 2 [vs AA p0.c_.AQ, vs AA p0.c_.AS, vs AL p0.c_.Bt, .bool p0.c_.FT, .bool p0.c_.Ay, Ai p0.c_.BN, .bool p0.c_.Be, Ai p0.c_.An.CX, Ai p0.c_.An.BS, Ai p0.c_.Eu, Ai p0.c_.Bf, Ai p0.c_.Name, Ai p0.c_.Head, Ai p0.c_.BF, AH rp0_14 p0.Aj.length, AH rp0_15 p0.Ak.length, .ptr (some (bp0_16, 0)), .ptr (some (bp0_17, 0))]), .AK rp0_14 93 (AK (eP AE) p0.Aj), .AK rp0_15 93 (AK (eP AE) p0.Ak), .obj bp0_16 (.cells none 2 [AH rp0_16_0 p0.Aq.l_.length, Ai p0.Aq.Cm]), .AK rp0_16_0 99 (AK (eP AU) p0.Aq.l_), .obj bp0_17 (.cells none 2 ([Ai p0.Ar.n_, Ai p0.Ar.Az] ++ (DC 257 (AB.int .i64) p0.Ar.Bl ++ [])))] F) ∨ (∃ x2, e = .ret ∧ .inr x2 = o1 ∧ Has fr' 40 [(4, Ai x2)] ∧ HH g h' [.obj h.size (.cells none 2 (Aa p1)), .obj bp0 (.cells none 2 [vs AA p0.c_.AQ, vs AA p0.c_.AS, vs AL p0.c_.Bt, .bool p0.c_.FT, .bool p0.c_.Ay, Ai p0.c_.BN, .bool p0.c_.Be, Ai p0.c_.An.CX, Ai p0.c_.An.BS, Ai p0.c_.Eu, Ai p0.c_.Bf, Ai p0.c_.Name, Ai p0.c_.Head, Ai p0.c_.BF, AH rp0_14 p0.Aj.length, AH rp0_15 p0.Ak.length, .ptr (some (bp0_16, 0)), .ptr (some (bp0_17, 0))]), .AK rp0_14 93 (AK (eP AE) p0.Aj), .AK rp0_15 93 (AK (eP AE) p0.Ak), .obj bp0_16 (.cells none 2 [AH rp0_16_0 p0.Aq.l_.length, Ai p0.Aq.Cm]), .AK rp0_16_0 99 (AK (eP AU) p0.Aq.l_), .obj bp0_17 (.cells none 2 ([Ai p0.Ar.n_, Ai p0.Ar.Az] ++ (DC 257 (AB.int .i64) p0.Ar.Bl ++ [])))] F) ∨ False) ?_ ?_
 ·replace hm := ho
  clear ho
  refine AF 6 (Ah 3 [] 13 1 14 A H fun fr t H => ?_)
  refine AP 2 [(15, .bool (decide ((p0.Aj.length : Int) > 0)))] H fun fr H => Ae 15 H hm (fun hb hm H => ?_) fun hb hm H => ?_
  ·refine AR (Df 3 12 ?_)
   refine Ah 3 [] 20 1 14 A H fun fr t H => ?_
   refine Ah 1 [] 22 0 0 A H fun fr t H => ?_
   replace A : HH g h1 [_, .obj h.size (.cells none 2 (Aa p1)), _, _, _, _, _] F := (A.front 2 rfl)
   obtain ⟨⟨x3, x4⟩, hx, hm⟩ := bind_some hm
   obtain ⟨v1, h2, hr, rfl, A1⟩ := Hg (av := [AH rp0_14 p0.Aj.length, .str p1.Name]) hx (A.cut 1)
   replace A := A.g11 A1
   refine A8 23 hr H fun fr t H => ?_
   refine AP 5 [(6, Ai x3), (7, .bool x4)] H fun fr H => AR (AF 2 (AP 2 [(27, .bool (!x4))] H fun fr H => Ae 27 H hm (fun hb hm H => ?_) fun hb hm H => ?_))
   ·refine AF 1 (AP 1 [(4, Ai 6)] H fun fr H => AY ?_)
    replace A := A.k7 1 2 0 3 4 5 6
    exact .inr (.inl ⟨_, rfl, Ag hm, H.ls, A⟩)
   refine F3 2 id (BV 2 [(0, .ptr (some (bp0, 0))), (5, Ai x3)] H fun fr H => at_nil ?_)
   replace A := A.k7 1 2 0 3 4 5 6
   exact .inl ⟨_, rfl, Ag hm, H.ls, A⟩
  exact Fz (.inl ⟨_, rfl, Ag hm, H.ls, A⟩)
 clear ho
 clear A
 intro e fr h3 hQ
 rcases hQ with ⟨x1, rfl, rfl, H, A⟩ | ⟨x2, rfl, rfl, H, A⟩ | hF
 ·show AW _ _ _ _ _ _ _
  refine AR (AF 11 (Ah 3 [] 33 1 17 A H fun fr t H => ?_))
  replace A := A.k7 6 0 1 2 3 4 5
  obtain ⟨⟨x5, x6, x7⟩, hx, hm⟩ := bind_some hm
  obtain ⟨v1, h4, hr, rfl, A1⟩ := KO (av := [.ptr (some (bp0_17, 0)), Ai x1]) hx (A.cut 1)
  replace A := A.g11 A1
  refine Ap 1 [] 35 hr H fun fr t H => ?_
  refine B1 5 [(8, .bool x5)] 2 H fun fr H => AP 2 [(39, .bool (!x5))] H fun fr H => Ae 39 H hm (fun hb hm H => ?_) fun hb hm H => ?_
  ·refine AF 1 (AP 1 [(4, Ai 7)] H fun fr H => AY ?_)
   obtain ⟨rfl, rfl⟩ := B6 hm
   refine ⟨.inl rfl, Ai 7, rH H, ?_⟩
   replace A := A.k6 2 3 4 5 6 0
   exact ⟨rfl, A⟩
  refine CN 1 id (AP 1 [(4, Ai 0)] H fun fr H => AY ?_)
  obtain ⟨rfl, rfl⟩ := B6 hm
  refine ⟨.inl rfl, Ai 0, rH H, ?_⟩
  replace A := A.k6 2 3 4 5 6 0
  exact ⟨rfl, A⟩
 ·obtain ⟨rfl, rfl⟩ := B6 hm
  refine ⟨.inl rfl, Ai x2, rH H, ?_⟩
  replace A := A.k6 1 2 3 4 5 6
  exact ⟨rfl, A⟩
 exact hF.elim
def EK (p0 : List UInt8) : Option ((List UInt8)) :=
 Ac ((p0 == ([] : List UInt8)) || (([47] : List UInt8) == ([] : List UInt8))) (some p0) ((DW p0 (47 : Int)).bind fun x1 => some x1)
theorem Gc {p0 q0} (hm : EK p0 = some q0) (A : HH g h [] F) (hc : Ba (cfg.still 77) av = [.str p0, .str ([47] : List UInt8)] := by kernel_rfl) : ∃ v h', Bi cfg g h 77 av v h' ∧ v = .str q0 ∧ HH g h' [] F := by
 refine EN 37 [.tmp 4] hc ?_
 clear hc
 unfold EK at hm
 refine bg 37 [(0, .str p0), (1, .str ([47] : List UInt8))] fun fr H => ?_
 refine AF 1 (AP 1 [] H fun fr H => AR (AF 6 (AG 3 [(9, .bool (p0 == ([] : List UInt8)))] H fun fr H => A9 3 (fun fr' h' => h = h' ∧ Has fr' 37 [(0, .str p0), (1, .str ([47] : List UInt8)), (12, .bool ((p0 == ([] : List UInt8)) || (([47] : List UInt8) == ([] : List UInt8))))]) ?_ ?_)))
 ·cases hb : (p0 == ([] : List UInt8) : Bool) with
  | true =>
   replace H := H.kn 9 hb
   exact AG 3 [(12, .bool true)] H fun fr H => BK H hb
  | false =>
   replace H := H.kn 9 hb
   exact AG 3 [(12, .bool (([47] : List UInt8) == ([] : List UInt8)))] H fun fr H => BK H hb
 intro t fr h' hK
 obtain ⟨e, H⟩ := hK
 subst e
 refine BD id (Ae 12 H hm (fun hb hm H => ?_) fun hb hm H => ?_)
 ·refine AF 2 (AP 2 [(4, .str p0)] H fun fr H => AY ?_)
  obtain rfl := Ag hm
  exact ⟨.inl rfl, _, rH H, rfl, A⟩
 refine B0 id (AR (AF 8 (AP 8 [(21, .bool true)] H fun fr H => IF (x := .tmp 21) (by kernel_rfl) H (fun fr => by kernel_rfl) ?_)))
 refine AF 5 ?_
 obtain ⟨x1, hx, hm⟩ := bind_some hm
 obtain ⟨v1, h1, hr, rfl, A1⟩ := Gk (av := [.str p0, Ab 47]) hx (A.cut 0)
 replace A := A.C4 A1
 refine Ap 3 [] 25 hr H fun fr t H => ?_
 refine AP 1 [(4, .str x1)] H fun fr H => AY ?_
 obtain rfl := Ag hm
 exact ⟨.inl rfl, _, rH H, rfl, A⟩
def EF (p0 : List UInt8) (p1 : Int) : Option (Int) :=
 (FB p0 p1).bind fun x1 => some x1
theorem Fq {p0 p1 q0} (hm : EF p0 p1 = some q0) (A : HH g h [] F) (hc : Ba (cfg.still 78) av = [.str p0, Ab p1] := by kernel_rfl) : ∃ v h', Bi cfg g h 78 av v h' ∧ v = Ai q0 ∧ HH g h' [] F := by
 refine EN 8 [.tmp 4] hc ?_
 clear hc
 unfold EF at hm
 refine bg 8 [(0, .str p0), (1, Ab p1)] fun fr H => ?_
 refine AF 1 (B1 1 [] 4 H fun fr H => ?_)
 obtain ⟨x1, hx, hm⟩ := bind_some hm
 obtain ⟨v1, h1, hr, rfl, A1⟩ := JM (av := [.str p0, Ab p1]) hx (A.cut 0)
 replace A := A.C4 A1
 refine Ap 2 [] 7 hr H fun fr t H => ?_
 refine AP 1 [(4, Ai x1)] H fun fr H => AY ?_
 obtain rfl := Ag hm
 exact ⟨.inl rfl, _, rH H, rfl, A⟩
def Jf (s : (List UInt8) × Int) : Option (((List UInt8) × Int) ⊕ (((List UInt8)) ⊕ ((List UInt8) × Bool))) :=
 match s with
 | (x1, x2) => Ac ((decide (x2 > 0)) && (!(x1 == ([] : List UInt8)))) ((EK x1).bind fun x6 => (EF x6 (47 : Int)).bind fun x7 => Ac (decide (x7 < 0)) (some (.inr (.inr (([] : List UInt8), false)))) ((HX x6 (some x7) none).bind fun x8 => (EK x8).bind fun x9 => some (.inl (x9, IntKind.i64.wrap (x2 - 1))))) (some (.inr (.inl x1)))
def GK (p0 : List UInt8) (p1 : Int) : Option ((List UInt8) × Bool) :=
 Ac (decide (p1 < 0)) (some (([] : List UInt8), false)) ((loop (Jf) (p0, p1)).bind fun o1 => (match o1 with | .inl x3 => some (x3, !(x3 == ([] : List UInt8))) | .inr (x4, x5) => some (x4, x5)))
theorem Is {p0 p1 q0 q1} (hm : GK p0 p1 = some (q0, q1)) (A : HH g h [] F) (hc : Ba (cfg.still 28) av = [.str p0, Ai p1] := by kernel_rfl) : ∃ v h', Bi cfg g h 28 av v h' ∧ v = .tuple [.str q0, .bool q1] ∧ HH g h' [] F := by
 refine EN 30 [.tmp 4, .tmp 5] hc ?_
 clear hc
 unfold GK at hm
 refine bg 30 [(0, .str p0), (1, Ai p1)] fun fr H => ?_
 refine AF 2 (AP 2 [] H fun fr H => AR (AF 2 (AP 2 [(8, .bool (decide (p1 < 0)))] H fun fr H => Ae 8 H hm (fun hb hm H => ?_) fun hb hm H => ?_)))
 ·refine AF 2 (AP 2 [(4, .str ([] : List UInt8)), (5, .bool false)] H fun fr H => AY ?_)
  obtain ⟨rfl, rfl⟩ := B6 hm
  exact ⟨.inl rfl, _, rH H, rfl, A⟩
 refine B0 id (AR (Af (id := 0) (by kernel_rfl) ?_))
 obtain ⟨o1, ho, hm⟩ := bind_some hm
 refine BU (Q' := fun e fr' h' => (∃ x3, e = .exit 0 ∧ .inl x3 = o1 ∧ Has fr' 30 [(0, .str x3)] ∧ HH g h' [] F) ∨ (∃ x4 x5, e = .ret ∧ .inr (x4, x5) = o1 ∧ Has fr' 30 [(4, .str x4), (5, .bool x5)] ∧ HH g h' [] F) ∨ False) ?_ ?_
 ·refine CH (by kernel_rfl) (fun (s : (List UInt8) × Int) fr' h' => ∃ x1 x2, (x1, x2) = s ∧ Has fr' 30 [(0, .str x1), (1, Ai x2)] ∧ HH g h' [] F) ho ⟨_, _, rfl, H.ls, A⟩ ?_
  clear ho hm H A
  intro s q fr h1 hI hm
  obtain ⟨x1, x2, rfl, H, A⟩ := hI
  unfold Jf at hm
  refine AR (AF 6 (AG 3 [(11, .bool (decide (x2 > 0)))] H fun fr H => A9 3 (fun fr' h' => h1 = h' ∧ Has fr' 30 [(0, .str x1), (1, Ai x2), (14, .bool ((decide (x2 > 0)) && (!(x1 == ([] : List UInt8)))))]) ?_ ?_))
  ·cases hb : (decide (x2 > 0) : Bool) with
   | true =>
    replace H := H.kn 11 hb
    exact AG 3 [(14, .bool (!(x1 == ([] : List UInt8))))] H fun fr H => BK H hb
   | false =>
    replace H := H.kn 11 hb
    exact AG 3 [(14, .bool false)] H fun fr H => BK H hb
  intro t fr h' hK
  obtain ⟨e, H⟩ := hK
  subst e
  refine BD id (Ae 14 H hm (fun hb hm H => ?_) fun hb hm H => ?_)
  ·refine B0 id (AR (Af (id := 1) (by kernel_rfl) ?_))
   refine AF 3 ?_
   obtain ⟨x6, hx, hm⟩ := bind_some hm
   obtain ⟨v1, h2, hr, rfl, A1⟩ := Gc (av := [.str x1, .str ([47] : List UInt8)]) hx (A.cut 0)
   replace A := A.C4 A1
   refine Ap 1 [] 18 hr H fun fr t H => ?_
   refine BV 1 [(0, .str x6), (1, Ai x2)] H fun fr H => CI 3 id ?_
   obtain ⟨x7, hx, hm⟩ := bind_some hm
   obtain ⟨v1, h3, hr, rfl, A1⟩ := Fq (av := [.str x6, Ab 47]) hx (A.cut 0)
   replace A := A.C4 A1
   refine Ap 1 [] 20 hr H fun fr t H => ?_
   refine AP 1 [(6, Ai x7)] H fun fr H => AR (AF 2 (AP 2 [(22, .bool (decide (x7 < 0)))] H fun fr H => Ae 22 H hm (fun hb hm H => ?_) fun hb hm H => ?_))
   ·refine AF 2 (AP 2 [(4, .str ([] : List UInt8)), (5, .bool false)] H fun fr H => AY ?_)
    exact nr hm fun e => Or.inr (.inl ⟨_, _, rfl, e, H.ls, A⟩)
   refine F3 5 id ?_
   obtain ⟨x8, hx, hm⟩ := bind_some hm
   refine BA 2 [] 25 (.str x8) h3 H (fun fr => .of (GA (k := .i64) (k' := .i64) (lo := (some x7)) (hi := none) (by kernel_rfl) hx)) fun fr t H => ?_
   obtain ⟨x9, hx, hm⟩ := bind_some hm
   obtain ⟨v1, h4, hr, rfl, A1⟩ := Gc (av := [.str x8, .str ([47] : List UInt8)]) hx (A.cut 0)
   replace A := A.C4 A1
   refine A8 26 hr H fun fr t H => ?_
   refine BV 1 [(0, .str x9), (1, Ai x2)] H fun fr H => F4 3 id (BV 3 [(0, .str x9), (1, Ai (IntKind.i64.wrap (x2 - 1)))] H fun fr H => at_nil ?_)
   exact nx hm ⟨_, _, rfl, H.ls, A⟩
  refine Bz (i := 0) (by kernel_rfl) ?_
  exact nr hm fun e => .inl ⟨_, rfl, e, H.ls, A⟩
 clear ho
 clear A
 intro e fr h5 hQ
 rcases hQ with ⟨x3, rfl, rfl, H, A⟩ | ⟨x4, x5, rfl, rfl, H, A⟩ | hF
 ·show AW _ _ _ _ _ _ _
  refine AF 5 (AP 5 [(4, .str x3), (5, .bool (!(x3 == ([] : List UInt8))))] H fun fr H => AY ?_)
  obtain ⟨rfl, rfl⟩ := B6 hm
  exact ⟨.inl rfl, _, rH H, rfl, A⟩
 ·obtain ⟨rfl, rfl⟩ := B6 hm
  exact ⟨.inl rfl, _, rH H, rfl, A⟩
 exact hF.elim
def D3 (p0 : B2) (p1 : Bk) : Option (Int) :=
 (GK p1.Name p0.c_.Bf).bind fun (x1, x2) => Ac (!x2) (some (8 : Int)) (some (0 : Int))
theorem HF {p0 p1 bp0 rp0_14 rp0_15 bp0_16 rp0_16_0 bp0_17 q0} (hm : D3 p0 p1 = some q0) (A : HH g h [.obj bp0 (.cells none 2 [vs AA p0.c_.AQ, vs AA p0.c_.AS, vs AL p0.c_.Bt, .bool p0.c_.FT, .bool p0.c_.Ay, Ai p0.c_.BN, .bool p0.c_.Be, Ai p0.c_.An.CX, Ai p0.c_.An.BS, Ai p0.c_.Eu, Ai p0.c_.Bf, Ai p0.c_.Name, Ai p0.c_.Head, Ai p0.c_.BF, AH rp0_14 p0.Aj.length, AH rp0_15 p0.Ak.length, .ptr (some (bp0_16, 0)), .ptr (some (bp0_17, 0))]), .AK rp0_14 93 (AK (eP AE) p0.Aj), .AK rp0_15 93 (AK (eP AE) p0.Ak), .obj bp0_16 (.cells none 2 [AH rp0_16_0 p0.Aq.l_.length, Ai p0.Aq.Cm]), .AK rp0_16_0 99 (AK (eP AU) p0.Aq.l_), .obj bp0_17 (.cells none 2 ([Ai p0.Ar.n_, Ai p0.Ar.Az] ++ (DC 257 (AB.int .i64) p0.Ar.Bl ++ [])))] F) (hc : Ba (cfg.still 27) av = [.ptr (some (bp0, 0)), .agg (Aa p1)] := by kernel_rfl) : ∃ v h', Bi cfg g h 27 av v h' ∧ v = Ai q0 ∧ HH g h' [.obj bp0 (.cells none 2 [vs AA p0.c_.AQ, vs AA p0.c_.AS, vs AL p0.c_.Bt, .bool p0.c_.FT, .bool p0.c_.Ay, Ai p0.c_.BN, .bool p0.c_.Be, Ai p0.c_.An.CX, Ai p0.c_.An.BS, Ai p0.c_.Eu, Ai p0.c_.Bf, Ai p0.c_.Name, Ai p0.c_.Head, Ai p0.c_.BF, AH rp0_14 p0.Aj.length, AH rp0_15 p0.Ak.length, .ptr (some (bp0_16, 0)), .ptr (some (bp0_17, 0))]), .AK rp0_14 93 (AK (eP AE) p0.Aj), .AK rp0_15 93 (AK (eP AE) p0.Ak), .obj bp0_16 (.cells none 2 [AH rp0_16_0 p0.Aq.l_.length, Ai p0.Aq.Cm]), .AK rp0_16_0 99 (AK (eP AU) p0.Aq.l_), .obj bp0_17 (.cells none 2 ([Ai p0.Ar.n_, Ai p0.Ar.Az] ++ (DC 257 (AB.int .i64) p0.Ar.Bl ++ [])))] F := by
 refine EN 20 [.tmp 4] hc ?_
 clear hc
 unfold D3 at hm
 refine bg 20 [(0, .ptr (some (bp0, 0))), (1, .agg (Aa p1))] fun fr H => ?_
 refine AF 2 ?_
 obtain ⟨h1, e1, A⟩ := A.pu (.cells none 2 (Aa p1))
 refine BP 3 (.ptr (some (h.size, 0))) e1 H fun fr t H => ?_
 refine AP 1 [] H fun fr H => AR (AR (Df 1 13 ?_))
 refine Ah 1 [] 9 0 0 A H fun fr t H => ?_
 refine Ah 4 [] 14 1 10 A H fun fr t H => ?_
 obtain ⟨⟨x1, x2⟩, hx, hm⟩ := bind_some hm
 obtain ⟨v1, h2, hr, rfl, A1⟩ := Is (av := [.str p1.Name, Ai p0.c_.Bf]) hx (A.cut 0)
 replace A : HH g h2 [.obj h.size (.cells none 2 (Aa p1)), _, _, _, _, _, _] F := A.Cp (n := 0) A1
 refine A8 15 hr H fun fr t H => ?_
 refine B1 5 [(6, .bool x2)] 2 H fun fr H => AP 2 [(19, .bool (!x2))] H fun fr H => Ae 19 H hm (fun hb hm H => ?_) fun hb hm H => ?_
 ·refine AF 1 (AP 1 [(4, Ai 8)] H fun fr H => AY ?_)
  obtain rfl := Ag hm
  refine ⟨.inl rfl, Ai 8, rH H, ?_⟩
  replace A := A.k6 1 2 3 4 5 6
  exact ⟨rfl, A⟩
 refine CN 1 id (AP 1 [(4, Ai 0)] H fun fr H => AY ?_)
 obtain rfl := Ag hm
 refine ⟨.inl rfl, Ai 0, rH H, ?_⟩
 replace A := A.k6 1 2 3 4 5 6
 exact ⟨rfl, A⟩
def F9 (p0 : Eb) : Option (Ao) :=
 some p0.x_
theorem KP {p0 q0} (hm : F9 p0 = some q0) (A : HH g h [] F) (hc : Ba (cfg.still 129) av = [.BR (AU p0)] := by kernel_rfl) : ∃ v h', Bi cfg g h 129 av v h' ∧ v = .agg (AL q0) ∧ HH g h' [] F := by
 refine EN 7 [.cell 2 92] hc ?_
 clear hc
 unfold F9 at hm
 refine bg 7 [(0, .BR (AU p0))] fun fr H => ?_
 refine AF 1 ?_
 obtain ⟨h1, e1, A⟩ := A.pu (.cells none 2 [.str ([] : List UInt8), .str ([] : List UInt8), .bool false, .bool false, .bool false, Ai 0, .bool false, .bool false, .bool false])
 refine BP 2 (.ptr (some (h.size, 0))) e1 H fun fr t H => ?_
 refine CI 5 id (BA 3 [] 6 (.agg (AL p0.x_)) h1 H (fun fr => .of (Lp (by kernel_rfl))) fun fr t H => ?_)
 obtain ⟨h2, hx, A⟩ := A.s0 0 (AL p0.x_) [_, _, _, _, _, _, _, _, _]
 refine Cy hx H fun fr t H => ?_
 refine BD id (AY ?_)
 obtain rfl := Ag hm
 refine ⟨.inl rfl, .agg (AL p0.x_), CS (.cell (rT H) (BL (by kernel_rfl) (by kernel_rfl) (A.la 0 0 9)) .nil), ?_⟩
 replace A := A.d0
 exact ⟨rfl, A⟩
def JH (p0 : Ao) : Option (Bool) :=
 some p0.Names
theorem OS {p0 q0} (hm : JH p0 = some q0) (A : HH g h [] F) (hc : Ba (cfg.still 128) av = [.agg (AL p0)] := by kernel_rfl) : ∃ v h', Bi cfg g h 128 av v h' ∧ v = .bool q0 ∧ HH g h' [] F := by
 refine EN 5 [.tmp 2] hc ?_
 clear hc
 unfold JH at hm
 refine bg 5 [(0, .agg (AL p0))] fun fr H => ?_
 refine AF 2 ?_
 obtain ⟨h1, e1, A⟩ := A.pu (.cells none 2 (AL p0))
 refine BP 1 (.ptr (some (h.size, 0))) e1 H fun fr t H => ?_
 refine B1 1 [] 3 H fun fr H => Ah 1 [] 4 0 6 A H fun fr t H => ?_
 refine AP 1 [(2, .bool p0.Names)] H fun fr H => AY ?_
 obtain rfl := Ag hm
 refine ⟨.inl rfl, .bool p0.Names, rH H, ?_⟩
 replace A := A.d0
 exact ⟨rfl, A⟩
def FY (p0 : DS) (s : (List UInt8) × Int) : Option (((List UInt8) × Int) ⊕ (((List UInt8)))) :=
 match s with
 | (x1, x2) => Ac (decide (x2 < (p0.l_.length : Int))) (((HO p0.l_ x2).bind fun x5 => (F9 x5).bind fun x6 => (JH x6).bind fun x7 => Ac (!x7) (some x1) (none) : Option (((List UInt8)))).bind fun x4 => some (.inl (x4, IntKind.i64.wrap (x2 + 1)))) (some (.inr x1))
def Eh (p0 : DS) (p1 : List UInt8) : Option ((List UInt8) × Int) :=
 Ac (decide ((p1.length : Int) > p0.Cm)) (some (([] : List UInt8), (7 : Int))) ((loop (FY p0) (p1, (0 : Int))).bind fun x3 => some (x3, (0 : Int)))
theorem IY {p0 p1 bp0 rp0_0 q0 q1} (hm : Eh p0 p1 = some (q0, q1)) (A : HH g h [.obj bp0 (.cells none 2 [AH rp0_0 p0.l_.length, Ai p0.Cm]), .AK rp0_0 99 (AK (eP AU) p0.l_)] F) (hc : Ba (cfg.still 82) av = [.ptr (some (bp0, 0)), .str p1, .func (.func 128) [] []] := by kernel_rfl) : ∃ v h', Bi cfg g h 82 av v h' ∧ v = .tuple [.str q0, Ai q1] ∧ HH g h' [.obj bp0 (.cells none 2 [AH rp0_0 p0.l_.length, Ai p0.Cm]), .AK rp0_0 99 (AK (eP AU) p0.l_)] F := by
 refine EN 43 [.tmp 6, .tmp 7] hc ?_
 clear hc
 unfold Eh at hm
 refine bg 43 [(0, .ptr (some (bp0, 0))), (1, .str p1), (2, .func (.func 128) [] [])] fun fr H => ?_
 refine AF 2 (AP 2 [] H fun fr H => AR (AF 7 (Ah 5 [(11, Ai (p1.length : Int))] 15 0 1 A H fun fr t H => ?_)))
 refine AP 1 [(16, .bool (decide ((p1.length : Int) > p0.Cm)))] H fun fr H => Ae 16 H hm (fun hb hm H => ?_) fun hb hm H => ?_
 ·refine AF 2 (AP 2 [(6, .str ([] : List UInt8)), (7, Ai 7)] H fun fr H => AY ?_)
  obtain ⟨rfl, rfl⟩ := B6 hm
  exact ⟨.inl rfl, _, rH H, rfl, A⟩
 refine B0 id (AR (AF 6 (Ah 3 [] 20 0 0 A H fun fr t H => ?_)))
 refine AP 2 [(21, Ai (p0.l_.length : Int)), (22, Ai 0)] H fun fr H => Af (id := 0) (by kernel_rfl) ?_
 obtain ⟨o1, ho, hm⟩ := bind_some hm
 refine BU (Q' := fun e fr' h' => (∃ x3, e = .exit 0 ∧ x3 = o1 ∧ Has fr' 43 [(1, .str x3)] ∧ HH g h' [.obj bp0 (.cells none 2 [AH rp0_0 p0.l_.length, Ai p0.Cm]), .AK rp0_0 99 (AK (eP AU) p0.l_)] F) ∨ False) ?_ ?_
 ·refine CH (by kernel_rfl) (fun (s : (List UInt8) × Int) fr' h' => ∃ x1 x2, (x1, x2) = s ∧ Has fr' 43 [(0, .ptr (some (bp0, 0))), (1, .str x1), (2, .func (.func 128) [] []), (20, AH rp0_0 p0.l_.length), (21, Ai (p0.l_.length : Int)), (22, Ai x2)] ∧ HH g h' [.obj bp0 (.cells none 2 [AH rp0_0 p0.l_.length, Ai p0.Cm]), .AK rp0_0 99 (AK (eP AU) p0.l_)] F) ho ⟨_, _, rfl, H.ls, A⟩ ?_
  clear ho hm H A
  intro s q fr h1 hI hm
  obtain ⟨x1, x2, rfl, H, A⟩ := hI
  unfold FY at hm
  refine AF 1 (AP 1 [(23, .bool (decide (x2 < (p0.l_.length : Int))))] H fun fr H => AR (Ae 23 H hm (fun hb hm H => ?_) fun hb hm H => ?_))
  ·refine B0 id (AR ?_)
   obtain ⟨o2, ho, hm⟩ := bind_some hm
   refine BU (Q' := fun e fr' h' => (∃ x4, e = .normal ∧ x4 = o2 ∧ Has fr' 43 [(0, .ptr (some (bp0, 0))), (1, .str x4), (2, .func (.func 128) [] []), (20, AH rp0_0 p0.l_.length), (21, Ai (p0.l_.length : Int)), (22, Ai x2)] ∧ HH g h' [.obj bp0 (.cells none 2 [AH rp0_0 p0.l_.length, Ai p0.Cm]), .AK rp0_0 99 (AK (eP AU) p0.l_)] F) ∨ False) ?_ ?_
   ·replace hm := ho
    clear ho
    refine Af (id := 1) (by kernel_rfl) ?_
    refine AF 3 ?_
    obtain ⟨x5, hx, hm⟩ := bind_some hm
    obtain ⟨i1, er1, _, hx, hq1⟩ := HH.Nk (Sx _) (by decide) A 1 (xs := p0.l_) rfl hx
    refine As 24 (.ptr (some (i1, x2.toNat * 1))) h1 H (fun fr => .of (Fg (s := De rp0_0 p0.l_.length) (by kernel_rfl) hx)) fun fr t H => ?_
    refine As 25 _ _ H (fun fr => .of (EP (by kernel_rfl) (Fw (Sx _) (HH.row A 1 rfl er1) hq1 (o := 0) rfl))) fun fr t H => ?_
    refine AP 1 [(9, .BR (AU x5))] H fun fr H => AR (AF 5 ?_)
    obtain ⟨x6, hx, hm⟩ := bind_some hm
    obtain ⟨v1, h2, hr, rfl, A1⟩ := KP (av := [.BR (AU x5)]) hx (A.cut 0)
    replace A := A.C4 A1
    refine Ap 2 [(26, .func (.func 128) [] [])] 28 hr H fun fr t H => ?_
    obtain ⟨x7, hx, hm⟩ := bind_some hm
    obtain ⟨v1, h3, hr, rfl, A1⟩ := OS (av := [.agg (AL x6)]) hx (A.cut 0)
    replace A := A.C4 A1
    refine A8 29 hr H fun fr t H => ?_
    refine AP 1 [(30, .bool (!x7))] H fun fr H => Ae 30 H hm (fun hb hm H => ?_) fun hb hm H => ?_
    ·refine Bz (i := 1) (by kernel_rfl) ?_
     exact .inl ⟨_, rfl, Ag hm, H.ls, A⟩
    refine CN 4 id ?_
    cases hm
   clear ho
   clear A
   intro e fr h4 hQ
   rcases hQ with ⟨x4, rfl, rfl, H, A⟩ | hF
   ·show AW _ _ _ _ _ _ _
    refine DQ 2 (BV 2 [(0, .ptr (some (bp0, 0))), (1, .str x4), (2, .func (.func 128) [] []), (20, AH rp0_0 p0.l_.length), (21, Ai (p0.l_.length : Int)), (22, Ai (IntKind.i64.wrap (x2 + 1)))] H fun fr H => at_nil ?_)
    exact nx hm ⟨_, _, rfl, H.ls, A⟩
   exact hF.elim
  refine Bz (i := 0) (by kernel_rfl) ?_
  exact nr hm fun e => .inl ⟨_, rfl, e, H.ls, A⟩
 clear ho
 clear A
 intro e fr h5 hQ
 rcases hQ with ⟨x3, rfl, rfl, H, A⟩ | hF
 ·show AW _ _ _ _ _ _ _
  refine AF 3 (AP 3 [(6, .str x3), (7, Ai 0)] H fun fr H => AY ?_)
  obtain ⟨rfl, rfl⟩ := B6 hm
  exact ⟨.inl rfl, _, rH H, rfl, A⟩
 exact hF.elim
def FK (p0 : DS) (p1 : List UInt8) : Option ((List UInt8) × Int) :=
 (Eh p0 p1).bind fun (x1, x2) => some (x1, x2)
theorem JO {p0 p1 bp0 rp0_0 q0 q1} (hm : FK p0 p1 = some (q0, q1)) (A : HH g h [.obj bp0 (.cells none 2 [AH rp0_0 p0.l_.length, Ai p0.Cm]), .AK rp0_0 99 (AK (eP AU) p0.l_)] F) (hc : Ba (cfg.still 79) av = [.ptr (some (bp0, 0)), .str p1] := by kernel_rfl) : ∃ v h', Bi cfg g h 79 av v h' ∧ v = .tuple [.str q0, Ai q1] ∧ HH g h' [.obj bp0 (.cells none 2 [AH rp0_0 p0.l_.length, Ai p0.Cm]), .AK rp0_0 99 (AK (eP AU) p0.l_)] F := by
 refine EN 11 [.tmp 4, .tmp 5] hc ?_
 clear hc
 unfold FK at hm
 refine bg 11 [(0, .ptr (some (bp0, 0))), (1, .str p1)] fun fr H => ?_
 refine AF 2 (B1 2 [] 7 H fun fr H => ?_)
 obtain ⟨⟨x1, x2⟩, hx, hm⟩ := bind_some hm
 obtain ⟨v1, h1, hr, rfl, A1⟩ := IY (av := [.ptr (some (bp0, 0)), .str p1, .func (.func 128) [] []]) hx (A.cut 2)
 replace A := A.g22 A1
 refine Ap 2 [] 8 hr H fun fr t H => ?_
 refine AP 4 [(4, .str x1), (5, Ai x2)] H fun fr H => AY ?_
 obtain ⟨rfl, rfl⟩ := B6 hm
 exact ⟨.inl rfl, _, rH H, rfl, A⟩
def G2 (p0 : List UInt8) (p1 : List UInt8) : Option (Bool) :=
 (EF p0 (0 : Int)).bind fun x1 => (Ac (decide (x1 ≥ 0)) ((EF p1 (0 : Int)).bind fun x3 => some (decide (x3 < 0))) (some false) : Option (Bool)).bind fun x2 => some x2
theorem J7 {p0 p1 q0} (hm : G2 p0 p1 = some q0) (A : HH g h [] F) (hc : Ba (cfg.still 83) av = [.str p0, .str p1] := by kernel_rfl) : ∃ v h', Bi cfg g h 83 av v h' ∧ v = .bool q0 ∧ HH g h' [] F := by
 refine EN 13 [.tmp 4] hc ?_
 clear hc
 unfold G2 at hm
 refine bg 13 [(0, .str p0), (1, .str p1)] fun fr H => ?_
 refine AF 1 (B1 1 [] 9 H fun fr H => ?_)
 obtain ⟨x1, hx, hm⟩ := bind_some hm
 obtain ⟨v1, h1, hr, rfl, A1⟩ := Fq (av := [.str p0, Ab 0]) hx (A.cut 0)
 replace A := A.C4 A1
 refine Ap 1 [] 6 hr H fun fr t H => ?_
 refine AG 2 [(8, .bool (decide (x1 ≥ 0)))] H fun fr H => ?_
 obtain ⟨x2, ho, hm⟩ := bind_some hm
 refine A9 4 (fun fr' h' => Has fr' 13 [(12, .bool x2)] ∧ HH g h' [] F) ?_ ?_
 ·rcases AZ ho with ⟨hb, hm⟩ | ⟨hb, hm⟩
  ·replace H := H.kn 8 hb
   obtain ⟨x3, hx, hm⟩ := bind_some hm
   obtain ⟨v1, h3, hr, rfl, A1⟩ := Fq (av := [.str p1, Ab 0]) hx (A.cut 0)
   replace A := A.C4 A1
   refine Ap 1 [] 10 hr H fun fr t H => ?_
   refine AG 2 [(12, .bool (decide (x3 < 0)))] H fun fr H => ?_
   obtain rfl := Ag hm
   exact at_nil ⟨H.ls, A⟩
  replace H := H.kn 8 hb
  refine AG 4 [(12, .bool false)] H fun fr H => ?_
  obtain rfl := Ag hm
  exact at_nil ⟨H.ls, A⟩
 clear A
 intro t fr h2 hK
 obtain ⟨H, A⟩ := hK
 refine AP 1 [(4, .bool x2)] H fun fr H => AY ?_
 obtain rfl := Ag hm
 exact ⟨.inl rfl, _, rH H, rfl, A⟩
def Ej (p0 : DS) (p1 : Bk) : Option (Bk × Int) :=
 (FK p0 p1.Name).bind fun (x1, x2) => Ac (x2 != 0) (some ((⟨([] : List UInt8), ([] : List UInt8), (0 : Int), (0 : Int), (0 : Int), (0 : Int), ([] : List UInt8), ([] : List UInt8), (0 : Int), (0 : Int), (⟨(0 : Int), (0 : Int)⟩ : Bb), ([] : List Cc), ([] : List UInt8)⟩ : Bk), x2)) (Ac (p1.Kind == 50) none (Ac (p1.Kind == 49) none ((some () : Option ((Unit))).bind fun _ => (Ac (x1 == ([] : List UInt8)) (some true) ((G2 x1 p1.Name).bind fun x4 => some x4) : Option (Bool)).bind fun x3 => (Ac x3 (some true) ((G2 p1.Oy p1.Oy).bind fun x6 => some x6) : Option (Bool)).bind fun x5 => Ac x5 (some ((⟨([] : List UInt8), ([] : List UInt8), (0 : Int), (0 : Int), (0 : Int), (0 : Int), ([] : List UInt8), ([] : List UInt8), (0 : Int), (0 : Int), (⟨(0 : Int), (0 : Int)⟩ : Bb), ([] : List Cc), ([] : List UInt8)⟩ : Bk), (2 : Int))) (Ca (Lw 32 p1.Extra.length) <| some ((⟨x1, p1.Oy, p1.Kind, p1.Mode, p1.Wk, p1.We, p1.RF, p1.Qk, p1.RL, p1.QT, p1.Time, p1.Extra, p1.Data⟩ : Bk), (0 : Int))))))
theorem Ib {p0 p1 bp0 rp0_0 q0 q1} (hm : Ej p0 p1 = some (q0, q1)) (A : HH g h [.obj bp0 (.cells none 2 [AH rp0_0 p0.l_.length, Ai p0.Cm]), .AK rp0_0 99 (AK (eP AU) p0.l_)] F) (hc : Ba (cfg.still 29) av = [.ptr (some (bp0, 0)), .agg (Aa p1)] := by kernel_rfl) : ∃ v h', Bi cfg g h 29 av v h' ∧ v = .tuple [.agg (Aa q0), Ai q1] ∧ HH g h' [.obj bp0 (.cells none 2 [AH rp0_0 p0.l_.length, Ai p0.Cm]), .AK rp0_0 99 (AK (eP AU) p0.l_)] F := by
 refine XL 68 [.cell 4 46, .tmp 5] hc ?_
 clear hc
 unfold Ej at hm
 refine bg 68 [(0, .ptr (some (bp0, 0))), (1, .agg (Aa p1))] fun fr H => ?_
 refine AF 3 ?_
 obtain ⟨h1, e1, A⟩ := A.pu (.cells none 2 (Aa p1))
 refine BP 3 (.ptr (some (h.size, 0))) e1 H fun fr t H => ?_
 obtain ⟨h2, e2, A⟩ := A.pu (.cells none 2 [.str ([] : List UInt8), .str ([] : List UInt8), Ab 0, Ai 0, Ai 0, Ai 0, .str ([] : List UInt8), .str ([] : List UInt8), Ai 0, Ai 0, Ai 0, Ai 0, .slice none 0, .str ([] : List UInt8)])
 refine BP 4 (.ptr (some (h1.size, 0))) e2 H fun fr t H => ?_
 refine B1 1 [] 3 H fun fr H => As 10 _ _ H (fun fr => .of (B3 (by kernel_rfl) (A.F5 1 rfl (o := 0) (n := 14) ⟨Nat.le_of_ble_eq_true rfl, rfl⟩))) fun fr t H => ?_
 obtain ⟨h3, e3, A⟩ := A.pu (.cells none 2 [.str ([] : List UInt8), .str ([] : List UInt8), Ab 0, Ai 0, Ai 0, Ai 0, .str ([] : List UInt8), .str ([] : List UInt8), Ai 0, Ai 0, Ai 0, Ai 0, .slice none 0, .str ([] : List UInt8)])
 refine BP 6 (.ptr (some (h2.size, 0))) e3 H fun fr t H => ?_
 obtain ⟨h4, hx, A1⟩ := A.st 0 rfl (o := 0) (new := (Aa p1)) (ds := (Aa p1)) (Nat.le_of_ble_eq_true rfl) rfl rfl
 replace A : HH g h4 [.obj h2.size (.cells none 2 (Aa p1)), .obj h1.size (.cells none 2 [.str ([] : List UInt8), .str ([] : List UInt8), Ab 0, Ai 0, Ai 0, Ai 0, .str ([] : List UInt8), .str ([] : List UInt8), Ai 0, Ai 0, Ai 0, Ai 0, .slice none 0, .str ([] : List UInt8)]), .obj h.size (.cells none 2 (Aa p1)), _, _] F := A1
 refine Cy hx H fun fr t H => ?_
 refine CI 3 id (B1 3 [(7, .func (.func 79) [.ptr (some (bp0, 0))] [])] 1 H fun fr H => AP 1 [] H fun fr H => AR (AF 10 (Ah 2 [(14, .func (.func 79) [.ptr (some (bp0, 0))] [])] 16 2 0 A H fun fr t H => ?_)))
 replace A := A.k5 3 4 0 1 2
 obtain ⟨⟨x1, x2⟩, hx, hm⟩ := bind_some hm
 obtain ⟨v1, h5, hr, rfl, A1⟩ := JO (av := [.ptr (some (bp0, 0)), .str p1.Name]) hx (A.cut 2)
 replace A := A.g22 A1
 refine A8 17 hr H fun fr t H => ?_
 obtain ⟨h6, hx, A⟩ := A.s2 0 [.str x1] [_, _, _, _, _, _, _, _, _, _, _, _, _, _]
 refine Dn 4 [(19, Ai x2)] hx H fun fr t H => ?_
 refine B1 1 [(8, Ai x2)] 2 H fun fr H => AP 2 [(22, .bool (x2 != 0))] H fun fr H => Ae 22 H hm (fun hb hm H => ?_) fun hb hm H => ?_
 ·refine AF 4 ?_
  obtain ⟨h7, hx, A⟩ := A.s3 0 [.str ([] : List UInt8), .str ([] : List UInt8), Ab 0, Ai 0, Ai 0, Ai 0, .str ([] : List UInt8), .str ([] : List UInt8), Ai 0, Ai 0, Ai 0, Ai 0, .slice none 0, .str ([] : List UInt8)] [_, _, _, _, _, _, _, _, _, _, _, _, _, _]
  refine Dm 2 [(24, Ai x2)] hx H fun fr t H => ?_
  refine AP 1 [(5, Ai x2)] H fun fr H => AY ?_
  obtain ⟨rfl, rfl⟩ := B6 hm
  refine ⟨.inl rfl, .tuple [.agg [.str ([] : List UInt8), .str ([] : List UInt8), Ab 0, Ai 0, Ai 0, Ai 0, .str ([] : List UInt8), .str ([] : List UInt8), Ai 0, Ai 0, Ai 0, Ai 0, .slice none 0, .str ([] : List UInt8)], Ai x2], B8 (.cell (rT H) (BL (by kernel_rfl) (by kernel_rfl) (A.la 3 0 14)) (.tmp (rT H) .nil)), ?_⟩
  refine ⟨.tuple [.agg [.str ([] : List UInt8), .str ([] : List UInt8), Ab 0, Ai 0, Ai 0, Ai 0, .str ([] : List UInt8), .str ([] : List UInt8), Ai 0, Ai 0, Ai 0, Ai 0, vs C0 ([] : List Cc), .str ([] : List UInt8)], Ai x2], h7, by first | rfl | (simp only [M5, Ma, NF, NB, Mz, M0, Mm, Mf, NI, MZ, My, Ic, Io, Iq, IQ, Ig, IK, Ir, Option.map_some] <;> rfl), ?_⟩
  replace A := A.d2
  exact ⟨rfl, A⟩
 refine CN 8 id ?_
 obtain ⟨h8, e4⟩ : ∃ x, x = h6.push (.map 2 []) := ⟨_, rfl⟩
 replace A : HH g h8 [.obj h6.size (.map 2 []), _, _, _, _, _] F := (A.push _).to e4
 refine BP 25 (.map (some h6.size)) e4 H fun fr t H => ?_
 obtain ⟨h9, hx, A1⟩ := HH.VY (P := cfg.P) A 0 rfl (t := 149) (kt := 5) (et := 148) (by kernel_rfl) (k := Ab 50) (v := .func (.func 80) [] []) (by kernel_rfl) (by kernel_rfl)
 replace A : HH g h9 [.obj h6.size (.map 2 [(Ab 50, .func (.func 80) [] [])]), _, _, _, _, _] F := A1
 refine Lb (.tuple []) h9 H (fun fr => .of (S8 (by kernel_rfl) hx)) fun fr t H => ?_
 obtain ⟨h10, hx, A1⟩ := HH.VY (P := cfg.P) A 0 rfl (t := 149) (kt := 5) (et := 148) (by kernel_rfl) (k := Ab 49) (v := .func (.func 81) [] []) (by kernel_rfl) (by kernel_rfl)
 replace A : HH g h10 [.obj h6.size (.map 2 [(Ab 50, .func (.func 80) [] []), (Ab 49, .func (.func 81) [] [])]), _, _, _, _, _] F := A1
 refine Lb (.tuple []) h10 H (fun fr => .of (S8 (by kernel_rfl) hx)) fun fr t H => ?_
 refine Ah 2 [(26, .map (some h6.size))] 28 5 2 A H fun fr t H => ?_
 rcases AZ hm with ⟨hb, hm⟩ | ⟨hk1, hm⟩
 ·cases hm
 rcases AZ hm with ⟨hb, hm⟩ | ⟨hk2, hm⟩
 ·cases hm
 refine As 29 (.nilFunc) h10 H (fun fr => .of (VX (by kernel_rfl) (HH.VI (P := cfg.P) A 0 rfl (t := 149) (kt := 5) (et := 148) (by kernel_rfl) (kd' := .u8) (by kernel_rfl) (z := .nilFunc) (by kernel_rfl) (x := p1.Kind) (.EW hk1 (.EW hk2 (.nil)))))) fun fr t H => ?_
 refine AP 1 [(9, .nilFunc)] H fun fr H => AR ?_
 obtain ⟨o1, ho, hm⟩ := bind_some hm
 refine BU (Q' := fun e fr' h' => (e = .normal ∧ () = o1 ∧ Has fr' 68 [(3, .ptr (some (h.size, 0))), (4, .ptr (some (h1.size, 0))), (6, .ptr (some (h2.size, 0)))] ∧ HH g h' [.obj h6.size (.map 2 [(Ab 50, .func (.func 80) [] []), (Ab 49, .func (.func 81) [] [])]), .obj bp0 (.cells none 2 [AH rp0_0 p0.l_.length, Ai p0.Cm]), .AK rp0_0 99 (AK (eP AU) p0.l_), .obj h2.size (.cells none 2 (D5 p1 (.str x1))), .obj h1.size (.cells none 2 [.str ([] : List UInt8), .str ([] : List UInt8), Ab 0, Ai 0, Ai 0, Ai 0, .str ([] : List UInt8), .str ([] : List UInt8), Ai 0, Ai 0, Ai 0, Ai 0, .slice none 0, .str ([] : List UInt8)]), .obj h.size (.cells none 2 (Aa p1))] F) ∨ False) ?_ ?_
 ·replace hm := ho
  clear ho
  refine AF 2 (AP 2 [(31, .bool false)] H fun fr H => Jj (x := .tmp 31) (by kernel_rfl) H (fun fr => by kernel_rfl) ?_)
  exact Fz (.inl ⟨rfl, Ag hm, H.ls, A⟩)
 clear ho
 clear A
 intro e fr h11 hQ
 rcases hQ with ⟨rfl, rfl, H, A⟩ | hF
 ·show AW _ _ _ _ _ _ _
  refine AR (AF 17 (Ah 1 [] 46 3 0 A H fun fr t H => ?_))
  refine AG 2 [(48, .bool (x1 == ([] : List UInt8)))] H fun fr H => ?_
  obtain ⟨x3, ho, hm⟩ := bind_some hm
  refine A9 6 (fun fr' h' => Has fr' 68 [(3, .ptr (some (h.size, 0))), (4, .ptr (some (h1.size, 0))), (6, .ptr (some (h2.size, 0))), (54, .bool x3)] ∧ HH g h' [.obj h6.size (.map 2 [(Ab 50, .func (.func 80) [] []), (Ab 49, .func (.func 81) [] [])]), .obj bp0 (.cells none 2 [AH rp0_0 p0.l_.length, Ai p0.Cm]), .AK rp0_0 99 (AK (eP AU) p0.l_), .obj h2.size (.cells none 2 (D5 p1 (.str x1))), .obj h1.size (.cells none 2 [.str ([] : List UInt8), .str ([] : List UInt8), Ab 0, Ai 0, Ai 0, Ai 0, .str ([] : List UInt8), .str ([] : List UInt8), Ai 0, Ai 0, Ai 0, Ai 0, .slice none 0, .str ([] : List UInt8)]), .obj h.size (.cells none 2 (Aa p1))] F) ?_ ?_
  ·rcases AZ ho with ⟨hb, hm⟩ | ⟨hb, hm⟩
   ·replace H := H.kn 48 hb
    refine AG 6 [(54, .bool true)] H fun fr H => ?_
    obtain rfl := Ag hm
    exact at_nil ⟨H.ls, A⟩
   replace H := H.kn 48 hb
   refine Ah 1 [] 50 3 0 A H fun fr t H => ?_
   refine Ah 1 [] 52 5 0 A H fun fr t H => ?_
   obtain ⟨x4, hx, hm⟩ := bind_some hm
   obtain ⟨v1, h13, hr, rfl, A1⟩ := J7 (av := [.str x1, .str p1.Name]) hx (A.cut 0)
   replace A := A.C4 A1
   refine A8 53 hr H fun fr t H => ?_
   refine AG 1 [(54, .bool x4)] H fun fr H => ?_
   obtain rfl := Ag hm
   exact at_nil ⟨H.ls, A⟩
  clear A
  intro t fr h12 hK
  obtain ⟨H, A⟩ := hK
  refine AG 1 [(55, .bool x3)] H fun fr H => ?_
  obtain ⟨x5, ho, hm⟩ := bind_some hm
  refine A9 6 (fun fr' h' => Has fr' 68 [(3, .ptr (some (h.size, 0))), (4, .ptr (some (h1.size, 0))), (6, .ptr (some (h2.size, 0))), (61, .bool x5)] ∧ HH g h' [.obj h6.size (.map 2 [(Ab 50, .func (.func 80) [] []), (Ab 49, .func (.func 81) [] [])]), .obj bp0 (.cells none 2 [AH rp0_0 p0.l_.length, Ai p0.Cm]), .AK rp0_0 99 (AK (eP AU) p0.l_), .obj h2.size (.cells none 2 (D5 p1 (.str x1))), .obj h1.size (.cells none 2 [.str ([] : List UInt8), .str ([] : List UInt8), Ab 0, Ai 0, Ai 0, Ai 0, .str ([] : List UInt8), .str ([] : List UInt8), Ai 0, Ai 0, Ai 0, Ai 0, .slice none 0, .str ([] : List UInt8)]), .obj h.size (.cells none 2 (Aa p1))] F) ?_ ?_
  ·rcases AZ ho with ⟨hb, hm⟩ | ⟨hb, hm⟩
   ·replace H := H.kn 55 hb
    refine AG 6 [(61, .bool true)] H fun fr H => ?_
    obtain rfl := Ag hm
    exact at_nil ⟨H.ls, A⟩
   replace H := H.kn 55 hb
   refine Ah 1 [] 57 3 1 A H fun fr t H => ?_
   refine Ah 1 [] 59 5 1 A H fun fr t H => ?_
   obtain ⟨x6, hx, hm⟩ := bind_some hm
   obtain ⟨v1, h15, hr, rfl, A1⟩ := J7 (av := [.str p1.Oy, .str p1.Oy]) hx (A.cut 0)
   replace A := A.C4 A1
   refine A8 60 hr H fun fr t H => ?_
   refine AG 1 [(61, .bool x6)] H fun fr H => ?_
   obtain rfl := Ag hm
   exact at_nil ⟨H.ls, A⟩
  clear A
  intro t fr h14 hK
  obtain ⟨H, A⟩ := hK
  refine BD id (Ae 61 H hm (fun hb hm H => ?_) fun hb hm H => ?_)
  ·refine AF 3 ?_
   obtain ⟨h16, hx, A⟩ := A.s4 0 [.str ([] : List UInt8), .str ([] : List UInt8), Ab 0, Ai 0, Ai 0, Ai 0, .str ([] : List UInt8), .str ([] : List UInt8), Ai 0, Ai 0, Ai 0, Ai 0, .slice none 0, .str ([] : List UInt8)] [_, _, _, _, _, _, _, _, _, _, _, _, _, _]
   refine Dm 1 [] hx H fun fr t H => ?_
   refine AP 1 [(5, Ai 2)] H fun fr H => AY ?_
   obtain ⟨rfl, rfl⟩ := B6 hm
   refine ⟨.inl rfl, .tuple [.agg [.str ([] : List UInt8), .str ([] : List UInt8), Ab 0, Ai 0, Ai 0, Ai 0, .str ([] : List UInt8), .str ([] : List UInt8), Ai 0, Ai 0, Ai 0, Ai 0, .slice none 0, .str ([] : List UInt8)], Ai 2], B8 (.cell (rT H) (BL (by kernel_rfl) (by kernel_rfl) (A.la 4 0 14)) (.tmp (rT H) .nil)), ?_⟩
   refine ⟨.tuple [.agg [.str ([] : List UInt8), .str ([] : List UInt8), Ab 0, Ai 0, Ai 0, Ai 0, .str ([] : List UInt8), .str ([] : List UInt8), Ai 0, Ai 0, Ai 0, Ai 0, vs C0 ([] : List Cc), .str ([] : List UInt8)], Ai 2], h16, by first | rfl | (simp only [M5, Ma, NF, NB, Mz, M0, Mm, Mf, NI, MZ, My, Ic, Io, Iq, IQ, Ig, IK, Ir, Option.map_some] <;> rfl), ?_⟩
   replace A := A.k2 1 2
   exact ⟨rfl, A⟩
  refine CN 5 id (Ah 1 [] 64 5 12 A H fun fr t H => ?_)
  have A1 := A.cut 0
  obtain ⟨hb, hm⟩ := BE hm
  refine As 65 (vs C0 p1.Extra) h14 H (fun fr => Steps.call (by kernel_rfl) (GU (C := cfg) (f := 84) (a := 0) (t := 154) (xs := p1.Extra) IW (by decide) (by kernel_rfl) (l := exts) rfl (by kernel_rfl) (by kernel_rfl) rfl (Py IW _ p1.Extra) (IW.Ba _) hb)) fun fr t H => ?_
  obtain ⟨h18, hx, A⟩ := A.s3 12 [vs C0 p1.Extra] [_, _, _, _, _, _, _, _, _, _, _, _, _, _]
  refine Dn 1 [] hx H fun fr t H => ?_
  refine CI 3 id (As 67 _ _ H (fun fr => .of (B3 (by kernel_rfl) (A.F5 3 rfl (o := 0) (n := 14) ⟨Nat.le_of_ble_eq_true rfl, rfl⟩))) fun fr t H => ?_)
  obtain ⟨h19, hx, A⟩ := A.s4 0 (D5 p1 (.str x1)) [_, _, _, _, _, _, _, _, _, _, _, _, _, _]
  refine Cy hx H fun fr t H => ?_
  refine AP 1 [(5, Ai 0)] H fun fr H => AY ?_
  obtain ⟨rfl, rfl⟩ := B6 hm
  refine ⟨.inl rfl, .tuple [.agg (D5 p1 (.str x1)), Ai 0], B8 (.cell (rT H) (BL (by kernel_rfl) (by kernel_rfl) (A.la 4 0 14)) (.tmp (rT H) .nil)), ?_⟩
  refine ⟨.tuple [.agg (D5 p1 (.str x1)), Ai 0], h19, by first | rfl | (simp only [M5, Ma, NF, NB, Mz, M0, Mm, Mf, NI, MZ, My, Ic, Io, Iq, IQ, Ig, IK, Ir, Option.map_some] <;> rfl), ?_⟩
  replace A := A.k2 1 2
  exact ⟨rfl, A⟩
 exact hF.elim
def Dx (p0 : BI) : Option (Bool) :=
 (Bv p0.Name (1 : Int) (4096 : Int)).bind fun x1 => (Ac x1 ((Bv p0.Head (1 : Int) (65536 : Int)).bind fun x3 => some x3) (some false) : Option (Bool)).bind fun x2 => (Ac x2 ((Bv p0.BF (1 : Int) (4096 : Int)).bind fun x5 => some x5) (some false) : Option (Bool)).bind fun x4 => (Ac x4 ((Bv p0.Eu (0 : Int) (9999 : Int)).bind fun x7 => some x7) (some false) : Option (Bool)).bind fun x6 => (Ac x6 ((Bv p0.Bf (0 : Int) (9999 : Int)).bind fun x9 => some x9) (some false) : Option (Bool)).bind fun x8 => (Ac x8 ((Bv p0.BN (0 : Int) (3 : Int)).bind fun x11 => some x11) (some false) : Option (Bool)).bind fun x10 => (Ac x10 ((Ac (!p0.Be) (some true) ((GM p0.An).bind fun x14 => some x14) : Option (Bool)).bind fun x13 => some x13) (some false) : Option (Bool)).bind fun x12 => some x12
theorem KG {p0 rp0_0 rp0_1 q0} (hm : Dx p0 = some q0) (A : HH g h [.AK rp0_0 31 (AK AA p0.AQ), .AK rp0_1 31 (AK AA p0.AS)] F) (hc : Ba (cfg.still 11) av = [.agg [AH rp0_0 p0.AQ.length, AH rp0_1 p0.AS.length, .slice none 0, .bool p0.FT, .bool p0.Ay, Ai p0.BN, .bool p0.Be, Ai p0.An.CX, Ai p0.An.BS, Ai p0.Eu, Ai p0.Bf, Ai p0.Name, Ai p0.Head, Ai p0.BF]] := by kernel_rfl) : ∃ v h', Bi cfg g h 11 av v h' ∧ v = .bool q0 ∧ HH g h' [.AK rp0_0 31 (AK AA p0.AQ), .AK rp0_1 31 (AK AA p0.AS)] F := by
 refine EN 48 [.tmp 2] hc ?_
 clear hc
 unfold Dx at hm
 refine bg 48 [(0, .agg [AH rp0_0 p0.AQ.length, AH rp0_1 p0.AS.length, .slice none 0, .bool p0.FT, .bool p0.Ay, Ai p0.BN, .bool p0.Be, Ai p0.An.CX, Ai p0.An.BS, Ai p0.Eu, Ai p0.Bf, Ai p0.Name, Ai p0.Head, Ai p0.BF])] fun fr H => ?_
 refine AF 2 ?_
 obtain ⟨h1, e1, A⟩ := A.pu (.cells none 2 [AH rp0_0 p0.AQ.length, AH rp0_1 p0.AS.length, .slice none 0, .bool p0.FT, .bool p0.Ay, Ai p0.BN, .bool p0.Be, Ai p0.An.CX, Ai p0.An.BS, Ai p0.Eu, Ai p0.Bf, Ai p0.Name, Ai p0.Head, Ai p0.BF])
 refine BP 1 (.ptr (some (h.size, 0))) e1 H fun fr t H => ?_
 refine B1 1 [] 1 H fun fr H => B1 1 [(3, .func (.func 30) [] [])] 45 H fun fr H => Ah 2 [(4, .func (.func 30) [] [])] 6 0 11 A H fun fr t H => ?_
 obtain ⟨x1, hx, hm⟩ := bind_some hm
 obtain ⟨v1, h2, hr, rfl, A1⟩ := CG (av := [Ai p0.Name, Ai 1, Ai 4096]) hx (A.cut 0)
 replace A : HH g h2 [.obj h.size (.cells none 2 [AH rp0_0 p0.AQ.length, AH rp0_1 p0.AS.length, .slice none 0, .bool p0.FT, .bool p0.Ay, Ai p0.BN, .bool p0.Be, Ai p0.An.CX, Ai p0.An.BS, Ai p0.Eu, Ai p0.Bf, Ai p0.Name, Ai p0.Head, Ai p0.BF]), _, _] F := A.Cp (n := 0) A1
 refine A8 7 hr H fun fr t H => ?_
 refine AG 1 [(8, .bool x1)] H fun fr H => ?_
 obtain ⟨x2, ho, hm⟩ := bind_some hm
 refine A9 5 (fun fr' h' => Has fr' 48 [(1, .ptr (some (h.size, 0))), (3, .func (.func 30) [] []), (13, .bool x2)] ∧ HH g h' [.obj h.size (.cells none 2 [AH rp0_0 p0.AQ.length, AH rp0_1 p0.AS.length, .slice none 0, .bool p0.FT, .bool p0.Ay, Ai p0.BN, .bool p0.Be, Ai p0.An.CX, Ai p0.An.BS, Ai p0.Eu, Ai p0.Bf, Ai p0.Name, Ai p0.Head, Ai p0.BF]), .AK rp0_0 31 (AK AA p0.AQ), .AK rp0_1 31 (AK AA p0.AS)] F) ?_ ?_
 ·rcases AZ ho with ⟨hb, hm⟩ | ⟨hb, hm⟩
  ·replace H := H.kn 8 hb
   refine Ah 2 [(9, .func (.func 30) [] [])] 11 0 12 A H fun fr t H => ?_
   obtain ⟨x3, hx, hm⟩ := bind_some hm
   obtain ⟨v1, h4, hr, rfl, A1⟩ := CG (av := [Ai p0.Head, Ai 1, Ai 65536]) hx (A.cut 0)
   replace A := A.C4 A1
   refine A8 12 hr H fun fr t H => ?_
   refine AG 1 [(13, .bool x3)] H fun fr H => ?_
   obtain rfl := Ag hm
   exact at_nil ⟨H.ls, A⟩
  replace H := H.kn 8 hb
  refine AG 5 [(13, .bool false)] H fun fr H => ?_
  obtain rfl := Ag hm
  exact at_nil ⟨H.ls, A⟩
 clear A
 intro t fr h3 hK
 obtain ⟨H, A⟩ := hK
 refine AG 1 [(14, .bool x2)] H fun fr H => ?_
 obtain ⟨x4, ho, hm⟩ := bind_some hm
 refine A9 5 (fun fr' h' => Has fr' 48 [(1, .ptr (some (h.size, 0))), (3, .func (.func 30) [] []), (19, .bool x4)] ∧ HH g h' [.obj h.size (.cells none 2 [AH rp0_0 p0.AQ.length, AH rp0_1 p0.AS.length, .slice none 0, .bool p0.FT, .bool p0.Ay, Ai p0.BN, .bool p0.Be, Ai p0.An.CX, Ai p0.An.BS, Ai p0.Eu, Ai p0.Bf, Ai p0.Name, Ai p0.Head, Ai p0.BF]), .AK rp0_0 31 (AK AA p0.AQ), .AK rp0_1 31 (AK AA p0.AS)] F) ?_ ?_
 ·rcases AZ ho with ⟨hb, hm⟩ | ⟨hb, hm⟩
  ·replace H := H.kn 14 hb
   refine Ah 2 [(15, .func (.func 30) [] [])] 17 0 13 A H fun fr t H => ?_
   obtain ⟨x5, hx, hm⟩ := bind_some hm
   obtain ⟨v1, h6, hr, rfl, A1⟩ := CG (av := [Ai p0.BF, Ai 1, Ai 4096]) hx (A.cut 0)
   replace A := A.C4 A1
   refine A8 18 hr H fun fr t H => ?_
   refine AG 1 [(19, .bool x5)] H fun fr H => ?_
   obtain rfl := Ag hm
   exact at_nil ⟨H.ls, A⟩
  replace H := H.kn 14 hb
  refine AG 5 [(19, .bool false)] H fun fr H => ?_
  obtain rfl := Ag hm
  exact at_nil ⟨H.ls, A⟩
 clear A
 intro t fr h5 hK
 obtain ⟨H, A⟩ := hK
 refine AG 1 [(20, .bool x4)] H fun fr H => ?_
 obtain ⟨x6, ho, hm⟩ := bind_some hm
 refine A9 5 (fun fr' h' => Has fr' 48 [(1, .ptr (some (h.size, 0))), (3, .func (.func 30) [] []), (25, .bool x6)] ∧ HH g h' [.obj h.size (.cells none 2 [AH rp0_0 p0.AQ.length, AH rp0_1 p0.AS.length, .slice none 0, .bool p0.FT, .bool p0.Ay, Ai p0.BN, .bool p0.Be, Ai p0.An.CX, Ai p0.An.BS, Ai p0.Eu, Ai p0.Bf, Ai p0.Name, Ai p0.Head, Ai p0.BF]), .AK rp0_0 31 (AK AA p0.AQ), .AK rp0_1 31 (AK AA p0.AS)] F) ?_ ?_
 ·rcases AZ ho with ⟨hb, hm⟩ | ⟨hb, hm⟩
  ·replace H := H.kn 20 hb
   refine Ah 2 [(21, .func (.func 30) [] [])] 23 0 9 A H fun fr t H => ?_
   obtain ⟨x7, hx, hm⟩ := bind_some hm
   obtain ⟨v1, h8, hr, rfl, A1⟩ := CG (av := [Ai p0.Eu, Ai 0, Ai 9999]) hx (A.cut 0)
   replace A := A.C4 A1
   refine A8 24 hr H fun fr t H => ?_
   refine AG 1 [(25, .bool x7)] H fun fr H => ?_
   obtain rfl := Ag hm
   exact at_nil ⟨H.ls, A⟩
  replace H := H.kn 20 hb
  refine AG 5 [(25, .bool false)] H fun fr H => ?_
  obtain rfl := Ag hm
  exact at_nil ⟨H.ls, A⟩
 clear A
 intro t fr h7 hK
 obtain ⟨H, A⟩ := hK
 refine AG 1 [(26, .bool x6)] H fun fr H => ?_
 obtain ⟨x8, ho, hm⟩ := bind_some hm
 refine A9 5 (fun fr' h' => Has fr' 48 [(1, .ptr (some (h.size, 0))), (3, .func (.func 30) [] []), (31, .bool x8)] ∧ HH g h' [.obj h.size (.cells none 2 [AH rp0_0 p0.AQ.length, AH rp0_1 p0.AS.length, .slice none 0, .bool p0.FT, .bool p0.Ay, Ai p0.BN, .bool p0.Be, Ai p0.An.CX, Ai p0.An.BS, Ai p0.Eu, Ai p0.Bf, Ai p0.Name, Ai p0.Head, Ai p0.BF]), .AK rp0_0 31 (AK AA p0.AQ), .AK rp0_1 31 (AK AA p0.AS)] F) ?_ ?_
 ·rcases AZ ho with ⟨hb, hm⟩ | ⟨hb, hm⟩
  ·replace H := H.kn 26 hb
   refine Ah 2 [(27, .func (.func 30) [] [])] 29 0 10 A H fun fr t H => ?_
   obtain ⟨x9, hx, hm⟩ := bind_some hm
   obtain ⟨v1, h10, hr, rfl, A1⟩ := CG (av := [Ai p0.Bf, Ai 0, Ai 9999]) hx (A.cut 0)
   replace A := A.C4 A1
   refine A8 30 hr H fun fr t H => ?_
   refine AG 1 [(31, .bool x9)] H fun fr H => ?_
   obtain rfl := Ag hm
   exact at_nil ⟨H.ls, A⟩
  replace H := H.kn 26 hb
  refine AG 5 [(31, .bool false)] H fun fr H => ?_
  obtain rfl := Ag hm
  exact at_nil ⟨H.ls, A⟩
 clear A
 intro t fr h9 hK
 obtain ⟨H, A⟩ := hK
 refine AG 1 [(32, .bool x8)] H fun fr H => ?_
 obtain ⟨x10, ho, hm⟩ := bind_some hm
 refine A9 5 (fun fr' h' => Has fr' 48 [(1, .ptr (some (h.size, 0))), (37, .bool x10)] ∧ HH g h' [.obj h.size (.cells none 2 [AH rp0_0 p0.AQ.length, AH rp0_1 p0.AS.length, .slice none 0, .bool p0.FT, .bool p0.Ay, Ai p0.BN, .bool p0.Be, Ai p0.An.CX, Ai p0.An.BS, Ai p0.Eu, Ai p0.Bf, Ai p0.Name, Ai p0.Head, Ai p0.BF]), .AK rp0_0 31 (AK AA p0.AQ), .AK rp0_1 31 (AK AA p0.AS)] F) ?_ ?_
 ·rcases AZ ho with ⟨hb, hm⟩ | ⟨hb, hm⟩
  ·replace H := H.kn 32 hb
   refine Ah 2 [(33, .func (.func 30) [] [])] 35 0 5 A H fun fr t H => ?_
   obtain ⟨x11, hx, hm⟩ := bind_some hm
   obtain ⟨v1, h12, hr, rfl, A1⟩ := CG (av := [Ai p0.BN, Ai 0, Ai 3]) hx (A.cut 0)
   replace A := A.C4 A1
   refine A8 36 hr H fun fr t H => ?_
   refine AG 1 [(37, .bool x11)] H fun fr H => ?_
   obtain rfl := Ag hm
   exact at_nil ⟨H.ls, A⟩
  replace H := H.kn 32 hb
  refine AG 5 [(37, .bool false)] H fun fr H => ?_
  obtain rfl := Ag hm
  exact at_nil ⟨H.ls, A⟩
 clear A
 intro t fr h11 hK
 obtain ⟨H, A⟩ := hK
 refine AG 1 [(38, .bool x10)] H fun fr H => ?_
 obtain ⟨x12, ho, hm⟩ := bind_some hm
 refine A9 9 (fun fr' h' => Has fr' 48 [(47, .bool x12)] ∧ HH g h' [.obj h.size (.cells none 2 [AH rp0_0 p0.AQ.length, AH rp0_1 p0.AS.length, .slice none 0, .bool p0.FT, .bool p0.Ay, Ai p0.BN, .bool p0.Be, Ai p0.An.CX, Ai p0.An.BS, Ai p0.Eu, Ai p0.Bf, Ai p0.Name, Ai p0.Head, Ai p0.BF]), .AK rp0_0 31 (AK AA p0.AQ), .AK rp0_1 31 (AK AA p0.AS)] F) ?_ ?_
 ·rcases AZ ho with ⟨hb, hm⟩ | ⟨hb, hm⟩
  ·replace H := H.kn 38 hb
   refine Ah 1 [] 40 0 6 A H fun fr t H => ?_
   refine AG 2 [(42, .bool (!p0.Be))] H fun fr H => ?_
   obtain ⟨x13, ho, hm⟩ := bind_some hm
   refine A9 4 (fun fr' h' => Has fr' 48 [(38, .bool true), (46, .bool x13)] ∧ HH g h' [.obj h.size (.cells none 2 [AH rp0_0 p0.AQ.length, AH rp0_1 p0.AS.length, .slice none 0, .bool p0.FT, .bool p0.Ay, Ai p0.BN, .bool p0.Be, Ai p0.An.CX, Ai p0.An.BS, Ai p0.Eu, Ai p0.Bf, Ai p0.Name, Ai p0.Head, Ai p0.BF]), .AK rp0_0 31 (AK AA p0.AQ), .AK rp0_1 31 (AK AA p0.AS)] F) ?_ ?_
   ·rcases AZ ho with ⟨hb, hm⟩ | ⟨hb, hm⟩
    ·replace H := H.kn 42 hb
     refine AG 4 [(46, .bool true)] H fun fr H => ?_
     obtain rfl := Ag hm
     exact at_nil ⟨H.ls, A⟩
    replace H := H.kn 42 hb
    refine BA 1 [] 44 _ _ H (fun fr => .of (B3 (by kernel_rfl) (A.F5 0 rfl (o := 7) (n := 2) ⟨Nat.le_of_ble_eq_true rfl, rfl⟩))) fun fr t H => ?_
    obtain ⟨x14, hx, hm⟩ := bind_some hm
    obtain ⟨v1, h15, hr, rfl, A1⟩ := Ke (av := [.agg [Ai p0.An.CX, Ai p0.An.BS]]) hx (A.cut 0)
    replace A := A.C4 A1
    refine A8 45 hr H fun fr t H => ?_
    refine AG 1 [(46, .bool x14)] H fun fr H => ?_
    obtain rfl := Ag hm
    exact at_nil ⟨H.ls, A⟩
   clear A
   intro t fr h14 hK
   obtain ⟨H, A⟩ := hK
   refine AG 1 [(47, .bool x13)] H fun fr H => ?_
   obtain rfl := Ag hm
   exact at_nil ⟨H.ls, A⟩
  replace H := H.kn 38 hb
  refine AG 9 [(47, .bool false)] H fun fr H => ?_
  obtain rfl := Ag hm
  exact at_nil ⟨H.ls, A⟩
 clear A
 intro t fr h13 hK
 obtain ⟨H, A⟩ := hK
 refine AP 1 [(2, .bool x12)] H fun fr H => AY ?_
 obtain rfl := Ag hm
 refine ⟨.inl rfl, .bool x12, rH H, ?_⟩
 replace A := A.k2 1 2
 exact ⟨rfl, A⟩
def Ed (p0 : BI) : Option (BI) :=
 Ca (Lw 24 p0.AQ.length) <| Ca (Lw 24 p0.AS.length) <| Ca (Lw 56 ([] : List Ao).length) <| some (⟨p0.AQ, p0.AS, ([] : List Ao), p0.FT, p0.Ay, p0.BN, p0.Be, p0.An, p0.Eu, p0.Bf, p0.Name, p0.Head, p0.BF⟩ : BI)
theorem Jr {p0 rp0_0 rp0_1 q0} (hm : Ed p0 = some q0) (A : HH g h [.AK rp0_0 31 (AK AA p0.AQ), .AK rp0_1 31 (AK AA p0.AS)] F) (hc : Ba (cfg.still 12) av = [.agg [AH rp0_0 p0.AQ.length, AH rp0_1 p0.AS.length, .slice none 0, .bool p0.FT, .bool p0.Ay, Ai p0.BN, .bool p0.Be, Ai p0.An.CX, Ai p0.An.BS, Ai p0.Eu, Ai p0.Bf, Ai p0.Name, Ai p0.Head, Ai p0.BF]] := by kernel_rfl) : ∃ v h', Bi cfg g h 12 av v h' ∧ v = .agg (Am q0) ∧ HH g h' [.AK rp0_0 31 (AK AA p0.AQ), .AK rp0_1 31 (AK AA p0.AS)] F := by
 refine EN 16 [.cell 2 29] hc ?_
 clear hc
 unfold Ed at hm
 refine bg 16 [(0, .agg [AH rp0_0 p0.AQ.length, AH rp0_1 p0.AS.length, .slice none 0, .bool p0.FT, .bool p0.Ay, Ai p0.BN, .bool p0.Be, Ai p0.An.CX, Ai p0.An.BS, Ai p0.Eu, Ai p0.Bf, Ai p0.Name, Ai p0.Head, Ai p0.BF])] fun fr H => ?_
 refine AF 2 ?_
 obtain ⟨h1, e1, A⟩ := A.pu (.cells none 2 [AH rp0_0 p0.AQ.length, AH rp0_1 p0.AS.length, .slice none 0, .bool p0.FT, .bool p0.Ay, Ai p0.BN, .bool p0.Be, Ai p0.An.CX, Ai p0.An.BS, Ai p0.Eu, Ai p0.Bf, Ai p0.Name, Ai p0.Head, Ai p0.BF])
 refine BP 1 (.ptr (some (h.size, 0))) e1 H fun fr t H => ?_
 obtain ⟨h2, e2, A⟩ := A.pu (.cells none 2 [.slice none 0, .slice none 0, .slice none 0, .bool false, .bool false, Ai 0, .bool false, Ai 0, Ai 0, Ai 0, Ai 0, Ai 0, Ai 0, Ai 0])
 refine BP 2 (.ptr (some (h1.size, 0))) e2 H fun fr t H => ?_
 refine BD id (AR (JV 1 15 [(0, []), (1, []), (3, []), (4, []), (6, []), (7, []), (2, [4, 7]), (5, [7]), (8, []), (9, []), (10, []), (11, []), (12, []), (13, []), (14, [])] ?_))
 refine AG 1 [(3, .ptr (some (h.size, 0)))] H fun fr H => CT 4 (AH rp0_0 p0.AQ.length) h2 [(1, h.size)] (g.Bo) H (fun fr => .of (EP (by kernel_rfl) (A.l1 1 0))) (fun fr H => ?_)
 refine AG 1 [(6, .ptr (some (h.size, 1)))] H fun fr H => CT 7 (AH rp0_1 p0.AS.length) h2 [(4, h.size), (1, h.size)] (g.Bo) H (fun fr => .of (EP (by kernel_rfl) (A.l1 1 1))) (fun fr H => ?_)
 refine AG 1 [(9, .ptr (some (h.size, 2)))] H fun fr H => CT 10 (.slice none 0) h2 [(7, h.size), (4, h.size), (1, h.size)] (g.Bo) H (fun fr => .of (EP (by kernel_rfl) (A.l1 1 2))) (fun fr H => ?_)
 replace A : HH g h2 [_, .obj h1.size (.cells none 2 [.slice none 0, .slice none 0, .slice none 0, .bool false, .bool false, Ai 0, .bool false, Ai 0, Ai 0, Ai 0, Ai 0, Ai 0, Ai 0, Ai 0]), .obj h.size (.cells none 2 [AH rp0_0 p0.AQ.length, AH rp0_1 p0.AS.length, .slice none 0, .bool p0.FT, .bool p0.Ay, Ai p0.BN, .bool p0.Be, Ai p0.An.CX, Ai p0.An.BS, Ai p0.Eu, Ai p0.Bf, Ai p0.Name, Ai p0.Head, Ai p0.BF]), _] F := (A.front 2 rfl)
 have A1 := A.Hz 1 (pr := [h.size, h.size]) (.cons 1 rfl (by simp [Ck.ids]) (.cons 1 rfl (by simp [Ck.ids]) .nil))
 obtain ⟨hb, hm⟩ := BE hm
 refine CT 5 (vs AA p0.AQ) h2 [(7, h.size), (4, h.size), (1, h.size)] (h.size :: h.size :: g.Bo) H (fun fr => Steps.call (by kernel_rfl) (GU (C := cfg) (f := 32) (a := 0) (t := 31) (xs := p0.AQ) BQ (by decide) (by kernel_rfl) (l := exts) rfl (by kernel_rfl) (by kernel_rfl) rfl (HH.Uf BQ (by decide) A1 0 (xs := p0.AQ) rfl) (BQ.Ba _) hb)) (fun fr H => ?_)
 replace A := A.k4 3 0 1 2
 have A1 := A.Hz 1 (pr := [h.size]) (.cons 2 rfl (by simp [Ck.ids]) .nil)
 obtain ⟨hb, hm⟩ := BE hm
 refine CT 8 (vs AA p0.AS) h2 [(7, h.size), (4, h.size), (1, h.size)] (h.size :: g.Bo) H (fun fr => Steps.call (by kernel_rfl) (GU (C := cfg) (f := 32) (a := 0) (t := 31) (xs := p0.AS) BQ (by decide) (by kernel_rfl) (l := exts) rfl (by kernel_rfl) (by kernel_rfl) rfl (HH.Uf BQ (by decide) A1 0 (xs := p0.AS) rfl) (BQ.Ba _) hb)) (fun fr H => ?_)
 have A1 := A.cut 0
 obtain ⟨hb, hm⟩ := BE hm
 refine CT 11 (vs AL ([] : List Ao)) h2 [(7, h.size), (4, h.size), (1, h.size)] (g.Bo) H (fun fr => Steps.call (by kernel_rfl) (GU (C := cfg) (f := 33) (a := 0) (t := 92) (xs := ([] : List Ao)) Dk (by decide) (by kernel_rfl) (l := exts) rfl (by kernel_rfl) (by kernel_rfl) rfl (WK _ 9) rfl hb)) (fun fr H => ?_)
 refine AG 1 [(12, .ptr (some (h.size, 0)))] H fun fr H => ?_
 obtain ⟨h6, hx, A⟩ := A.s3 0 [vs AA p0.AQ] [_, _, _, _, _, _, _, _, _, _, _, _, _, _]
 refine H5 (.tuple []) h6 [(7, h.size), (4, h.size), (1, h.size)] (g.Bo) H (fun fr => .of (N5 (by kernel_rfl) rfl hx)) (fun fr H => ?_)
 refine AG 1 [(13, .ptr (some (h.size, 1)))] H fun fr H => ?_
 obtain ⟨h7, hx, A⟩ := A.s3 1 [vs AA p0.AS] [_, _, _, _, _, _, _, _, _, _, _, _, _, _]
 refine H5 (.tuple []) h7 [(7, h.size), (4, h.size), (1, h.size)] (g.Bo) H (fun fr => .of (N5 (by kernel_rfl) rfl hx)) (fun fr H => ?_)
 refine AG 1 [(14, .ptr (some (h.size, 2)))] H fun fr H => ?_
 obtain ⟨h8, hx, A⟩ := A.s3 2 [vs AL ([] : List Ao)] [_, _, _, _, _, _, _, _, _, _, _, _, _, _]
 refine H5 (.tuple []) h8 [(7, h.size), (4, h.size), (1, h.size)] (g.Bo) H (fun fr => .of (N5 (by kernel_rfl) rfl hx)) (fun fr H => ?_)
 refine CI 2 id (As 15 _ _ H (fun fr => .of (B3 (by kernel_rfl) (A.F5 3 rfl (o := 0) (n := 14) ⟨Nat.le_of_ble_eq_true rfl, rfl⟩))) fun fr t H => ?_)
 obtain ⟨h9, hx, A⟩ := A.s2 0 (JE p0 (vs AL ([] : List Ao))) [_, _, _, _, _, _, _, _, _, _, _, _, _, _]
 refine Cy hx H fun fr t H => ?_
 refine BD id (AY ?_)
 obtain rfl := Ag hm
 refine ⟨.inl rfl, .agg (JE p0 (vs AL ([] : List Ao))), CS (.cell (rT H) (BL (by kernel_rfl) (by kernel_rfl) (A.la 2 0 14)) .nil), ?_⟩
 replace A := A.k2 1 0
 exact ⟨rfl, A⟩
def BB (p0 : Int) (p1 : Int) (p2 : Int) : Option (Bool) :=
 some ((decide (p0 ≥ p1)) && (decide (p0 ≤ p2)))
theorem BO {p0 p1 p2 q0} (hm : BB p0 p1 p2 = some q0) (A : HH g h [] F) (hc : Ba (cfg.still 6) av = [Ai p0, Ai p1, Ai p2] := by kernel_rfl) : ∃ v h', Bi cfg g h 6 av v h' ∧ v = .bool q0 ∧ HH g h' [] F := by
 refine EN 15 [.tmp 6] hc ?_
 clear hc
 unfold BB at hm
 refine bg 15 [(0, Ai p0), (1, Ai p1), (2, Ai p2)] fun fr H => ?_
 refine AF 1 (B1 1 [] 9 H fun fr H => AG 4 [(10, .bool (decide (p0 ≥ p1)))] H fun fr H => A9 4 (fun fr' h' => h = h' ∧ Has fr' 15 [(14, .bool ((decide (p0 ≥ p1)) && (decide (p0 ≤ p2))))]) ?_ ?_)
 ·cases hb : (decide (p0 ≥ p1) : Bool) with
  | true =>
   replace H := H.kn 10 hb
   exact AG 4 [(14, .bool (decide (p0 ≤ p2)))] H fun fr H => BK H hb
  | false =>
   replace H := H.kn 10 hb
   exact AG 4 [(14, .bool false)] H fun fr H => BK H hb
 intro t fr h' hK
 obtain ⟨e, H⟩ := hK
 subst e
 refine AP 1 [(6, .bool ((decide (p0 ≥ p1)) && (decide (p0 ≤ p2))))] H fun fr H => AY ?_
 obtain rfl := Ag hm
 exact ⟨.inl rfl, _, rH H, rfl, A⟩
def DJ (p0 : Int) (p1 : Int) : Option (Bool) :=
 some ((((decide (p0 ≥ (-9007199254740991))) && (decide (p0 ≤ 9007199254740991))) && (decide (p1 ≥ 0))) && (decide (p1 ≤ 999999999)))
theorem HB {p0 p1 q0} (hm : DJ p0 p1 = some q0) (A : HH g h [] F) (hc : Ba (cfg.still 7) av = [Ai p0, Ai p1] := by kernel_rfl) : ∃ v h', Bi cfg g h 7 av v h' ∧ v = .bool q0 ∧ HH g h' [] F := by
 refine EN 19 [.tmp 4] hc ?_
 clear hc
 unfold DJ at hm
 refine bg 19 [(0, Ai p0), (1, Ai p1)] fun fr H => ?_
 refine AF 1 (B1 1 [] 15 H fun fr H => AG 3 [(7, .bool (decide (p0 ≥ (-9007199254740991))))] H fun fr H => A9 3 (fun fr' h' => h = h' ∧ Has fr' 19 [(1, Ai p1), (10, .bool ((decide (p0 ≥ (-9007199254740991))) && (decide (p0 ≤ 9007199254740991))))]) ?_ ?_)
 ·cases hb : (decide (p0 ≥ (-9007199254740991)) : Bool) with
  | true =>
   replace H := H.kn 7 hb
   exact AG 3 [(10, .bool (decide (p0 ≤ 9007199254740991)))] H fun fr H => BK H hb
  | false =>
   replace H := H.kn 7 hb
   exact AG 3 [(10, .bool false)] H fun fr H => BK H hb
 intro t fr h' hK
 obtain ⟨e, H⟩ := hK
 subst e
 refine AG 1 [(11, .bool ((decide (p0 ≥ (-9007199254740991))) && (decide (p0 ≤ 9007199254740991))))] H fun fr H => A9 3 (fun fr' h' => h = h' ∧ Has fr' 19 [(1, Ai p1), (14, .bool (((decide (p0 ≥ (-9007199254740991))) && (decide (p0 ≤ 9007199254740991))) && (decide (p1 ≥ 0))))]) ?_ ?_
 ·cases hb : ((decide (p0 ≥ (-9007199254740991))) && (decide (p0 ≤ 9007199254740991)) : Bool) with
  | true =>
   replace H := H.kn 11 hb
   exact AG 3 [(14, .bool (decide (p1 ≥ 0)))] H fun fr H => BK H hb
  | false =>
   replace H := H.kn 11 hb
   exact AG 3 [(14, .bool false)] H fun fr H => BK H hb
 intro t fr h' hK
 obtain ⟨e, H⟩ := hK
 subst e
 refine AG 1 [(15, .bool (((decide (p0 ≥ (-9007199254740991))) && (decide (p0 ≤ 9007199254740991))) && (decide (p1 ≥ 0))))] H fun fr H => A9 3 (fun fr' h' => h = h' ∧ Has fr' 19 [(18, .bool ((((decide (p0 ≥ (-9007199254740991))) && (decide (p0 ≤ 9007199254740991))) && (decide (p1 ≥ 0))) && (decide (p1 ≤ 999999999))))]) ?_ ?_
 ·cases hb : (((decide (p0 ≥ (-9007199254740991))) && (decide (p0 ≤ 9007199254740991))) && (decide (p1 ≥ 0)) : Bool) with
  | true =>
   replace H := H.kn 15 hb
   exact AG 3 [(18, .bool (decide (p1 ≤ 999999999)))] H fun fr H => BK H hb
  | false =>
   replace H := H.kn 15 hb
   exact AG 3 [(18, .bool false)] H fun fr H => BK H hb
 intro t fr h' hK
 obtain ⟨e, H⟩ := hK
 subst e
 refine AP 1 [(4, .bool ((((decide (p0 ≥ (-9007199254740991))) && (decide (p0 ≤ 9007199254740991))) && (decide (p1 ≥ 0))) && (decide (p1 ≤ 999999999))))] H fun fr H => AY ?_
 obtain rfl := Ag hm
 exact ⟨.inl rfl, _, rH H, rfl, A⟩
def BC (p0 : List UInt8) (p1 : Int) (p2 : List UInt8) : Option (Bool) :=
 (Ac (decide ((IntKind.i64.wrap (p1 + (p2.length : Int))) ≤ (p0.length : Int))) ((HX p0 (some p1) (some (IntKind.i64.wrap (p1 + (p2.length : Int))))).bind fun x2 => some (x2 == p2)) (some false) : Option (Bool)).bind fun x1 => some x1
theorem BZ {p0 p1 p2 q0} (hm : BC p0 p1 p2 = some q0) (A : HH g h [] F) (hc : Ba (cfg.still 36) av = [.str p0, Ai p1, .str p2] := by kernel_rfl) : ∃ v h', Bi cfg g h 36 av v h' ∧ v = .bool q0 ∧ HH g h' [] F := by
 refine EN 25 [.tmp 6] hc ?_
 clear hc
 unfold BC at hm
 refine bg 25 [(0, .str p0), (1, Ai p1), (2, .str p2)] fun fr H => ?_
 refine AF 1 (B1 1 [] 19 H fun fr H => AG 8 [(14, .bool (decide ((IntKind.i64.wrap (p1 + (p2.length : Int))) ≤ (p0.length : Int))))] H fun fr H => ?_)
 obtain ⟨x1, ho, hm⟩ := bind_some hm
 refine A9 10 (fun fr' h' => Has fr' 25 [(24, .bool x1)] ∧ HH g h' [] F) ?_ ?_
 ·rcases AZ ho with ⟨hb, hm⟩ | ⟨hb, hm⟩
  ·replace H := H.kn 14 hb
   obtain ⟨x2, hx, hm⟩ := bind_some hm
   refine BA 6 [] 21 (.str x2) h H (fun fr => .of (GA (k := .i64) (k' := .i64) (lo := (some p1)) (hi := (some (IntKind.i64.wrap (p1 + (p2.length : Int))))) (by kernel_rfl) hx)) fun fr t H => ?_
   refine AG 3 [(24, .bool (x2 == p2))] H fun fr H => ?_
   obtain rfl := Ag hm
   exact at_nil ⟨H.ls, A⟩
  replace H := H.kn 14 hb
  refine AG 10 [(24, .bool false)] H fun fr H => ?_
  obtain rfl := Ag hm
  exact at_nil ⟨H.ls, A⟩
 clear A
 intro t fr h1 hK
 obtain ⟨H, A⟩ := hK
 refine AP 1 [(6, .bool x1)] H fun fr H => AY ?_
 obtain rfl := Ag hm
 exact ⟨.inl rfl, _, rH H, rfl, A⟩
end
end Go.Av.L
