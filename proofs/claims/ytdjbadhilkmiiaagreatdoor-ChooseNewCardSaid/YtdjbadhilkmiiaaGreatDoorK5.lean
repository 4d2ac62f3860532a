/-
 A part.
-/
import Derived.Test.YtdjbadhilkmiiaaGreatDoorKCfg
import Derived.Test.YtdjbadhilkmiiaaGreatDoorK2
import Derived.Test.YtdjbadhilkmiiaaGreatDoorK3
import Derived.Test.YtdjbadhilkmiiaaGreatDoorK4
namespace Go.Av.L
open Go.Av Go.Lib
set_option maxRecDepth 10000
set_option maxHeartbeats 4000000
set_option linter.unusedVariables false
set_option linter.unusedSimpArgs false
variable {g : Gd} {h : AJ} {F : List Ck} {av : List AB}
noncomputable section
def ET {SY RY : Type} (Y : SY → Int → Option (SY ⊕ RY)) (p2 : List UInt8) (s : Int × (SY ⊕ RY)) : Option ((Int × (SY ⊕ RY)) ⊕ (((SY ⊕ RY)) ⊕ ((SY ⊕ RY)))) :=
 match s with
 | (x2, y2) => Ac (decide (x2 < (p2.length : Int))) ((KW p2 x2).bind fun x3 => (Ac (x3 == 47) ((TZ Y y2 (IntKind.i64.wrap (x2 + 1))).bind fun (x5, y6) => some (!x5, y6)) (some (false, y2)) : Option (Bool × (SY ⊕ RY))).bind fun (x4, y5) => Ac x4 (some (.inr (.inr y5))) (some (.inl (IntKind.i64.wrap (x2 + 1), y5)))) (some (.inr (.inl y2)))
def Dc {SY RY : Type} (Y : SY → Int → Option (SY ⊕ RY)) (y : SY ⊕ RY) (p1 : AV) (p2 : List UInt8) : Option ((SY ⊕ RY)) :=
 (TZ Y y (0 : Int)).bind fun (x1, y1) => Ac ((!x1) || p1.r_.Bu) (some y1) ((loop (ET Y p2) ((0 : Int), y1)).bind fun o1 => (match o1 with | .inl y3 => some y3 | .inr y4 => some y4))
theorem Gr {SY RY : Type} {R : SY ⊕ RY → List Ck → Prop} {Y : SY → Int → Option (SY ⊕ RY)} {y : SY ⊕ RY} {p1 p2 l bp1 bp2} {yq : SY ⊕ RY} (hm : Dc Y y p1 p2 = some yq) (hc : Ba (cfg.still 211) av = [.M4 l, .ptr (some (bp1, 0)), .ptr (some (bp2, 0))]) (hYR : YR cfg g l (fun x => [Ai x]) Y R) (B : R y F) (A : HH g h [.obj bp1 (.cells none 2 [.BR (AE p1)]), .obj bp2 (.cells none 2 [.str p2])] F) : ∃ v h', Bi cfg g h 211 av v h' ∧ v = .tuple [] ∧ ∃ F, R yq F ∧ HH g h' [.obj bp1 (.cells none 2 [.BR (AE p1)]), .obj bp2 (.cells none 2 [.str p2])] F := by
 refine EN 32 [] hc ?_
 clear hc
 unfold Dc at hm
 refine bg 32 [(0, .M4 l), (1, .ptr (some (bp1, 0))), (2, .ptr (some (bp2, 0)))] fun fr H => ?_
 refine AR (AF 10 ?_)
 obtain ⟨⟨x1, y1⟩, hx, hm⟩ := bind_some hm
 obtain ⟨h1, F, hr, B, A⟩ := hYR.TZ (pr := []) .nil A B hx
 refine BA 1 [] 6 (.bool x1) h1 H (fun fr => Steps.round (by kernel_rfl) hr) fun fr t H => ?_
 refine AG 2 [(8, .bool (!x1))] H fun fr H => A9 6 (fun fr' h' => h1 = h' ∧ Has fr' 32 [(0, .M4 l), (2, .ptr (some (bp2, 0))), (14, .bool ((!x1) || p1.r_.Bu))]) ?_ ?_
 ·cases hb : (!x1 : Bool) with
  | true =>
   replace H := H.kn 8 hb
   exact AG 6 [(14, .bool true)] H fun fr H => BK H hb
  | false =>
   replace H := H.kn 8 hb
   refine GI 9 0 0 A H fun fr t H => ?_
   refine BA 3 [] 13 (.bool p1.r_.Bu) h1 H (fun fr => .of (Lp (by kernel_rfl))) fun fr t H => ?_
   exact AG 1 [(14, .bool p1.r_.Bu)] H fun fr H => BK H hb
 intro t fr h' hK
 obtain ⟨e, H⟩ := hK
 subst e
 refine BD id (Ae 14 H hm (fun hb hm H => ?_) fun hb hm H => ?_)
 ·refine AY ?_
  obtain rfl := Ag hm
  exact ⟨.inl rfl, _, rH H, rfl, ⟨F, B, A⟩⟩
 refine CN 3 id (GI 15 1 0 A H fun fr t H => ?_)
 refine AP 2 [(16, Ai (p2.length : Int)), (17, Ai 0)] H fun fr H => Af (id := 0) (by kernel_rfl) ?_
 obtain ⟨o1, ho, hm⟩ := bind_some hm
 refine BU (Q' := fun e fr' h' => (∃ (y3 : SY ⊕ RY), e = .exit 0 ∧ .inl y3 = o1 ∧ Has fr' 32 [] ∧ ∃ F, R y3 F ∧ HH g h' [.obj bp1 (.cells none 2 [.BR (AE p1)]), .obj bp2 (.cells none 2 [.str p2])] F) ∨ (∃ (y4 : SY ⊕ RY), e = .ret ∧ .inr y4 = o1 ∧ Has fr' 32 [] ∧ ∃ F, R y4 F ∧ HH g h' [.obj bp1 (.cells none 2 [.BR (AE p1)]), .obj bp2 (.cells none 2 [.str p2])] F) ∨ False) ?_ ?_
 ·refine CH (by kernel_rfl) (fun (s : Int × (SY ⊕ RY)) fr' h' => ∃ x2, ∃ (y2 : SY ⊕ RY), (x2, y2) = s ∧ Has fr' 32 [(0, .M4 l), (2, .ptr (some (bp2, 0))), (16, Ai (p2.length : Int)), (17, Ai x2)] ∧ ∃ F, R y2 F ∧ HH g h' [.obj bp1 (.cells none 2 [.BR (AE p1)]), .obj bp2 (.cells none 2 [.str p2])] F) ho ⟨(0 : Int), y1, rfl, H.ls, ⟨F, B, A⟩⟩ ?_
  clear ho hm H A
  intro s q fr h2 hI hm
  obtain ⟨x2, y2, rfl, H, ⟨F, B, A⟩⟩ := hI
  unfold ET at hm
  refine AF 1 (AP 1 [(18, .bool (decide (x2 < (p2.length : Int))))] H fun fr H => AR (Ae 18 H hm (fun hb hm H => ?_) fun hb hm H => ?_))
  ·refine B0 id (AR (Af (id := 1) (by kernel_rfl) ?_))
   refine AF 2 (B1 2 [(4, Ai x2)] 11 H fun fr H => GI 20 1 0 A H fun fr t H => ?_)
   obtain ⟨x3, hx, hm⟩ := bind_some hm
   refine BA 1 [] 22 (Ab x3) h2 H (fun fr => .of (E5 (by kernel_rfl) hx)) fun fr t H => ?_
   refine AG 2 [(24, .bool (x3 == 47))] H fun fr H => ?_
   obtain ⟨⟨x4, y5⟩, ho, hm⟩ := bind_some hm
   refine A9 6 (fun fr' h' => Has fr' 32 [(0, .M4 l), (2, .ptr (some (bp2, 0))), (16, Ai (p2.length : Int)), (17, Ai x2), (30, .bool x4)] ∧ ∃ F, R y5 F ∧ HH g h' [.obj bp1 (.cells none 2 [.BR (AE p1)]), .obj bp2 (.cells none 2 [.str p2])] F) ?_ ?_
   ·rcases AZ ho with ⟨hb, hm⟩ | ⟨hb, hm⟩
    ·replace H := H.kn 24 hb
     obtain ⟨⟨x5, y6⟩, hx, hm⟩ := bind_some hm
     obtain ⟨h4, F, hr, B, A⟩ := hYR.TZ (pr := []) .nil A B hx
     refine BA 3 [] 28 (.bool x5) h4 H (fun fr => Steps.round (by kernel_rfl) hr) fun fr t H => ?_
     refine AG 2 [(30, .bool (!x5))] H fun fr H => ?_
     obtain ⟨rfl, rfl⟩ := B6 hm
     exact at_nil ⟨H.ls, ⟨F, B, A⟩⟩
    replace H := H.kn 24 hb
    refine AG 6 [(30, .bool false)] H fun fr H => ?_
    obtain ⟨rfl, rfl⟩ := B6 hm
    exact at_nil ⟨H.ls, ⟨F, B, A⟩⟩
   clear A
   intro t fr h3 hK
   obtain ⟨H, ⟨F, B, A⟩⟩ := hK
   refine BD id (Ae 30 H hm (fun hb hm H => ?_) fun hb hm H => ?_)
   ·refine AY ?_
    exact nr hm fun e => Or.inr (.inl ⟨y5, rfl, e, H.ls, ⟨F, B, A⟩⟩)
   refine F3 2 id (BV 2 [(0, .M4 l), (2, .ptr (some (bp2, 0))), (16, Ai (p2.length : Int)), (17, Ai (IntKind.i64.wrap (x2 + 1)))] H fun fr H => at_nil ?_)
   exact nx hm ⟨IntKind.i64.wrap (x2 + 1), y5, rfl, H.ls, ⟨F, B, A⟩⟩
  refine Bz (i := 0) (by kernel_rfl) ?_
  exact nr hm fun e => .inl ⟨y2, rfl, e, H.ls, ⟨F, B, A⟩⟩
 clear ho
 clear A
 intro e fr h5 hQ
 rcases hQ with ⟨y3, rfl, rfl, H, ⟨F, B, A⟩⟩ | ⟨y4, rfl, rfl, H, ⟨F, B, A⟩⟩ | hF
 ·obtain rfl := Ag hm
  refine ⟨.inr rfl, .tuple [], rH H, ?_⟩
  exact ⟨rfl, ⟨F, B, A⟩⟩
 ·obtain rfl := Ag hm
  exact ⟨.inl rfl, _, rH H, rfl, ⟨F, B, A⟩⟩
 exact hF.elim
def EH (p0 : Int) (p1 : Bool) (p2 : List Int) : Option ((List Int)) :=
 Ac p1 (Ca (Lw 8 (p2.length + ([p0] : List Int).length)) <| some (p2 ++ ([p0] : List Int))) (some p2)
theorem Hp {p0 p1 p2 bp2 rp2_0 u1} (hm : EH p0 p1 p2 = some u1) (A : HH g h [.obj bp2 (.cells none 2 [AH rp2_0 p2.length]), .AK rp2_0 3 (AK (eI .i64) p2)] F) (hc : Ba (cfg.still 213) av = [Ai p0, .bool p1, .ptr (some (bp2, 0))] := by kernel_rfl) : ∃ v h', Bi cfg g h 213 av v h' ∧ ∃ (r'1 : Option Nat), v = .tuple [] ∧ HH g h' [.obj bp2 (.cells none 2 [AH r'1 u1.length]), .AK r'1 3 (AK (eI .i64) u1)] F := by
 refine EN 10 [] hc ?_
 clear hc
 unfold EH at hm
 refine bg 10 [(0, Ai p0), (1, .bool p1), (2, .ptr (some (bp2, 0)))] fun fr H => ?_
 refine AF 1 (AP 1 [(5, .bool p1)] H fun fr H => Ae 5 H hm (fun hb hm H => ?_) fun hb hm H => ?_)
 ·refine DQ 5 (GI 6 0 0 A H fun fr t H => ?_)
  refine AG 1 [(7, Ai p0)] H fun fr H => ?_
  obtain ⟨h1, e1, A⟩ := A.pL 3 [Ai p0]
  refine BP 8 (AH (some h.size) (([p0] : List Int).length)) e1 H fun fr t H => ?_
  obtain ⟨hb, hm⟩ := BE hm
  obtain ⟨r1, h2, hx, A1⟩ := HH.J2 (encI .i64) (by decide) A 2 (xs := p2) (ys := ([p0] : List Int)) rfl (Cl A 0 rfl (n := ([p0] : List Int).length) (z := 1) rfl (by decide)) rfl rfl hb
  replace A : HH g h2 [.AK (some h.size) 3 ([Ai p0]), _, .AK r1 3 (AK (eI .i64) (p2 ++ ([p0] : List Int)))] F := A1
  replace A := A.k2 1 2
  refine As 9 _ _ H (fun fr => .of (G3 (s := De rp2_0 p2.length) (by kernel_rfl) hx)) fun fr t H => ?_
  obtain ⟨h3, hx, A1⟩ := A.st 0 rfl (o := 0) (new := [AH r1 ((p2 ++ ([p0] : List Int)).length)]) (ds := [AH r1 ((p2 ++ ([p0] : List Int)).length)]) (Nat.le_of_ble_eq_true rfl) rfl rfl
  replace A : HH g h3 [.obj bp2 (.cells none 2 [AH r1 ((p2 ++ ([p0] : List Int)).length)]), _] F := A1
  refine Hk hx H fun fr t H => ?_
  refine at_nil ?_
  obtain rfl := Ag hm
  refine ⟨.inr rfl, .tuple [], rH H, ?_⟩
  exact ⟨r1, rfl, A⟩
 refine Fz ?_
 obtain rfl := Ag hm
 refine ⟨.inr rfl, .tuple [], rH H, ?_⟩
 exact ⟨rp2_0, rfl, A⟩
def FF (p0 : Bq) (p1 : List UInt8) (s : (List Int) × Int × Int) : Option (((List Int) × Int × Int) ⊕ (((List Int)))) :=
 match s with
 | (x1, x2, x3) => (HO p0.BM x2).bind fun x5 => (EH x3 x5 x1).bind fun x6 => Ac (x3 == (p1.length : Int)) (some (.inr x6)) ((KW p1 x3).bind fun x7 => (Ss 256 p0.Bh x7).bind fun x8 => (HO p0.Bd (IntKind.i64.wrap ((IntKind.i64.wrap ((IntKind.i64.wrap x2) * p0.Az)) + (IntKind.i64.wrap x8)))).bind fun x9 => Ac (x9 == (-1)) (some (.inr x6)) (some (.inl (x6, x9, IntKind.i64.wrap (x3 + 1)))))
def EL (p0 : Bq) (p1 : List UInt8) (p2_10 : List Int) : Option ((List Int)) :=
 (loop (FF p0 p1) (p2_10, (0 : Int), (0 : Int))).bind fun x4 => some x4
theorem Ht {p0 p1 p2_10 bp2_10 rp2_10_0 u1} (hm : EL p0 p1 p2_10 = some u1) (A : HH g h [.obj bp2_10 (.cells none 2 [AH rp2_10_0 p2_10.length]), .AK rp2_10_0 3 (AK (eI .i64) p2_10)] F) (hc : Ba (cfg.still 212) av = [.BR (DC 256 (AB.int .u8) p0.Bh ++ [Ai p0.Az, vs (eI .i32) p0.Bd, vs eB p0.BM]), .str p1, .func (.func 213) [] [.ptr (some (bp2_10, 0))]] := by kernel_rfl) : ∃ v h', Bi cfg g h 212 av v h' ∧ ∃ (r'1 : Option Nat), v = .tuple [] ∧ HH g h' [.obj bp2_10 (.cells none 2 [AH r'1 u1.length]), .AK r'1 3 (AK (eI .i64) u1)] F := by
 refine EN 49 [] hc ?_
 clear hc
 unfold EL at hm
 refine bg 49 [(0, .BR (DC 256 (AB.int .u8) p0.Bh ++ [Ai p0.Az, vs (eI .i32) p0.Bd, vs eB p0.BM])), (1, .str p1), (2, .func (.func 213) [] [.ptr (some (bp2_10, 0))])] fun fr H => ?_
 refine AF 1 (B1 1 [(6, .int .i32 0)] 1 H fun fr H => AP 1 [(7, Ai 0)] H fun fr H => Af (id := 0) (by kernel_rfl) ?_)
 obtain ⟨o1, ho, hm⟩ := bind_some hm
 refine BU (Q' := fun e fr' h' => (∃ x4, e = .ret ∧ x4 = o1 ∧ ∃ r2, Has fr' 49 [] ∧ HH g h' [.obj bp2_10 (.cells none 2 [AH r2 x4.length]), .AK r2 3 (AK (eI .i64) x4)] F) ∨ False) ?_ ?_
 ·refine CH (by kernel_rfl) (fun (s : (List Int) × Int × Int) fr' h' => ∃ x1 x2 x3, (x1, x2, x3) = s ∧ ∃ r1, Has fr' 49 [(0, .BR (DC 256 (AB.int .u8) p0.Bh ++ [Ai p0.Az, vs (eI .i32) p0.Bd, vs eB p0.BM])), (1, .str p1), (2, .func (.func 213) [] [.ptr (some (bp2_10, 0))]), (6, .int .i32 x2), (7, Ai x3)] ∧ HH g h' [.obj bp2_10 (.cells none 2 [AH r1 x1.length]), .AK r1 3 (AK (eI .i64) x1)] F) ho ⟨_, _, _, rfl, rp2_10_0, H.ls, A⟩ ?_
  clear ho hm H A
  intro s q fr h1 hI hm
  obtain ⟨x1, x2, x3, rfl, r1, H, A⟩ := hI
  unfold FF at hm
  refine AR (Af (id := 1) (by kernel_rfl) ?_)
  refine AF 10 (BA 5 [(10, .func (.func 213) [] [.ptr (some (bp2_10, 0))]), (11, Ai x3)] 15 (vs eB p0.BM) h1 H (fun fr => .of (Lp (by kernel_rfl))) fun fr t H => ?_)
  obtain ⟨x5, hx, hm⟩ := bind_some hm
  refine BA 1 [] 17 (.BR [.bool x5]) h1 H (fun fr => .of (RM (e := eB) (x := x5) Vn (by decide) (by kernel_rfl) hx)) fun fr t H => ?_
  refine As 18 (.bool x5) h1 H (fun fr => .of (Lp (by kernel_rfl))) fun fr t H => ?_
  obtain ⟨x6, hx, hm⟩ := bind_some hm
  obtain ⟨v1, h2, hr, r3, rfl, A1⟩ := Hp (av := [Ai x3, .bool x5, .ptr (some (bp2_10, 0))]) hx (A.cut 2)
  replace A := A.g22 A1
  refine RV hr H fun fr t H => ?_
  refine BD id (AR (AF 4 (AP 4 [(23, .bool (x3 == (p1.length : Int)))] H fun fr H => Ae 23 H hm (fun hb hm H => ?_) fun hb hm H => ?_)))
  ·refine AY ?_
   exact nr hm fun e => .inl ⟨_, rfl, e, _, H.ls, A⟩
  refine B0 id (AR (Df 5 24 ?_))
  refine BA 3 [] 27 (vs (eI .i32) p0.Bd) h2 H (fun fr => .of (Lp (by kernel_rfl))) fun fr t H => ?_
  refine BA 5 [(29, Ai (IntKind.i64.wrap x2))] 33 (Ai p0.Az) h2 H (fun fr => .of (Lp (by kernel_rfl))) fun fr t H => ?_
  obtain ⟨x7, hx, hm⟩ := bind_some hm
  refine BA 4 [(34, Ai (IntKind.i64.wrap ((IntKind.i64.wrap x2) * p0.Az))), (35, .BR (DC 256 (AB.int .u8) p0.Bh ++ [Ai p0.Az, vs (eI .i32) p0.Bd, vs eB p0.BM]))] 38 (Ab x7) h2 H (fun fr => .of (E5 (by kernel_rfl) hx)) fun fr t H => ?_
  obtain ⟨x8, hq1, hm⟩ := bind_some hm
  obtain ⟨tl1, hd1⟩ := UO (AB.int .u8) [Ai p0.Az, vs (eI .i32) p0.Bd, vs eB p0.BM] hq1
  refine BA 2 [] 41 (.BR ([Ab x8] ++ tl1)) h2 H (fun fr => .of (WJ (X := p0.Bh) (by kernel_rfl) hq1 hd1)) fun fr t H => ?_
  refine As 42 (Ab x8) h2 H (fun fr => .of (Lp (by kernel_rfl))) fun fr t H => ?_
  obtain ⟨x9, hx, hm⟩ := bind_some hm
  refine BA 2 [] 45 (.BR [.int .i32 x9]) h2 H (fun fr => .of (RM (e := (eI .i32)) (x := x9) (encI .i32) (by decide) (by kernel_rfl) hx)) fun fr t H => ?_
  refine As 46 (.int .i32 x9) h2 H (fun fr => .of (Lp (by kernel_rfl))) fun fr t H => ?_
  refine BV 1 [(0, .BR (DC 256 (AB.int .u8) p0.Bh ++ [Ai p0.Az, vs (eI .i32) p0.Bd, vs eB p0.BM])), (1, .str p1), (2, .func (.func 213) [] [.ptr (some (bp2_10, 0))]), (6, .int .i32 x9), (7, Ai x3)] H fun fr H => CI 2 id (AP 2 [(48, .bool (x9 == (-1)))] H fun fr H => Ae 48 H hm (fun hb hm H => ?_) fun hb hm H => ?_)
  ·refine AY ?_
   exact nr hm fun e => .inl ⟨_, rfl, e, _, H.ls, A⟩
  refine F3 3 id (BV 3 [(0, .BR (DC 256 (AB.int .u8) p0.Bh ++ [Ai p0.Az, vs (eI .i32) p0.Bd, vs eB p0.BM])), (1, .str p1), (2, .func (.func 213) [] [.ptr (some (bp2_10, 0))]), (6, .int .i32 x9), (7, Ai (IntKind.i64.wrap (x3 + 1)))] H fun fr H => at_nil ?_)
  exact nx hm ⟨_, _, _, rfl, _, H.ls, A⟩
 clear ho
 clear A
 intro e fr h3 hQ
 rcases hQ with ⟨x4, rfl, rfl, r2, H, A⟩ | hF
 ·obtain rfl := Ag hm
  exact ⟨.inl rfl, _, rH H, _, rfl, A⟩
 exact hF.elim
def F6 (p0 : Bq) (p1 : List UInt8) : Option ((List Int)) :=
 (EL p0 p1 ([] : List Int)).bind fun x1 => some x1
theorem Kg {p0 p1 q0} (hm : F6 p0 p1 = some q0) (A : HH g h [] F) (hc : Ba (cfg.still 171) av = [.BR (DC 256 (AB.int .u8) p0.Bh ++ [Ai p0.Az, vs (eI .i32) p0.Bd, vs eB p0.BM]), .str p1] := by kernel_rfl) : ∃ v h', Bi cfg g h 171 av v h' ∧ ∃ (rq0 : Option Nat), v = AH rq0 q0.length ∧ HH g h' [.AK rq0 3 (AK (eI .i64) q0)] F := by
 refine EN 11 [.tmp 4] hc ?_
 clear hc
 unfold F6 at hm
 refine bg 11 [(0, .BR (DC 256 (AB.int .u8) p0.Bh ++ [Ai p0.Az, vs (eI .i32) p0.Bd, vs eB p0.BM])), (1, .str p1)] fun fr H => ?_
 refine AF 1 (B1 1 [] 1 H fun fr H => ?_)
 obtain ⟨h1, e1, A⟩ := A.pu (.cells none 2 [.slice none 0])
 refine BP 5 (.ptr (some (h.size, 0))) e1 H fun fr t H => ?_
 refine CI 4 id ?_
 replace A : HH g h1 [.AK none 3 (AK (eI .i64) ([] : List Int)), .obj h.size (.cells none 2 [AH none (([] : List Int).length)])] F := A.KI 3
 replace A := A.k2 1 0
 obtain ⟨x1, hx, hm⟩ := bind_some hm
 obtain ⟨v1, h2, hr, r1, rfl, A1⟩ := Ht (av := [.BR (DC 256 (AB.int .u8) p0.Bh ++ [Ai p0.Az, vs (eI .i32) p0.Bd, vs eB p0.BM]), .str p1, .func (.func 213) [] [.ptr (some (h.size, 0))]]) hx (A.cut 2)
 replace A := A.g22 A1
 refine P6 3 [] hr H fun fr t H => ?_
 refine CI 2 id (GI 10 0 0 A H fun fr t H => ?_)
 refine AP 1 [(4, AH r1 x1.length)] H fun fr H => AY ?_
 obtain rfl := Ag hm
 refine ⟨.inl rfl, AH r1 x1.length, rH H, ?_⟩
 replace A := A.k1 1
 exact ⟨r1, rfl, A⟩
def Fm (x1 : List UInt8) (v1 : Int) (x5 : List Int) (s : Int) : Option ((Int) ⊕ ((Unit) ⊕ (Bool))) :=
 match s with
 | x6 => Ac (decide (x6 < (x5.length : Int))) ((HO x5 x6).bind fun x8 => (Ac ((IntKind.i64.wrap (v1 + x8)) == (x1.length : Int)) (some true) ((KW x1 (IntKind.i64.wrap (v1 + x8))).bind fun x10 => some (x10 == 47)) : Option (Bool)).bind fun x9 => Ac x9 (some (.inr (.inr true))) (some (.inl (IntKind.i64.wrap (x6 + 1))))) (some (.inr (.inl ())))
def EY (p0 : AV) (x1 : List UInt8) (s : Unit) (v1 : Int) : Option ((Unit) ⊕ ((Bool))) :=
 match s with
 | _ => (HX x1 (some v1) none).bind fun x4 => (F6 p0.t_ x4).bind fun x5 => (loop (Fm x1 v1 x5) (0 : Int)).bind fun o1 => (match o1 with | .inl _ => some (.inl ()) | .inr x7 => some (.inr x7))
def FH (p0 : AV) (p1 : List UInt8) : Option (Bool) :=
 (Ip p1).bind fun x1 => (Ev p0 x1).bind fun (x2_10, x2_11) => (Dc (EY p0 x1) (.inl ()) x2_10 x2_11).bind fun y1 => (match y1 with | .inl _ => some false | .inr x3 => some x3)
theorem JN {p0 p1 q0} (hm : FH p0 p1 = some q0) (A : HH g h [] F) (hc : Ba (cfg.still 116) av = [.BR (AE p0), .str p1] := by kernel_rfl) : ∃ v h', Bi cfg g h 116 av v h' ∧ v = .bool q0 ∧ HH g h' [] F := by
 refine EN 42 [.cell 4 4] hc ?_
 clear hc
 unfold FH at hm
 refine bg 42 [(0, .BR (AE p0)), (1, .str p1)] fun fr H => ?_
 refine AF 3 ?_
 obtain ⟨h1, e1, A⟩ := A.pu (.cells none 2 [.BR (AE p0)])
 refine BP 2 (.ptr (some (h.size, 0))) e1 H fun fr t H => ?_
 obtain ⟨h2, e2, A⟩ := A.pu (.cells none 2 [.str p1])
 refine BP 3 (.ptr (some (h1.size, 0))) e2 H fun fr t H => ?_
 obtain ⟨h3, e3, A⟩ := A.pu (.cells none 2 [.bool false])
 refine BP 4 (.ptr (some (h2.size, 0))) e3 H fun fr t H => ?_
 refine CI 3 id (GI 9 1 0 A H fun fr t H => ?_)
 obtain ⟨x1, hx, hm⟩ := bind_some hm
 obtain ⟨v1, h4, hr, rfl, A1⟩ := NZ (av := [.str p1]) hx (A.cut 0)
 replace A : HH g h4 [.obj h2.size (.cells none 2 [.bool false]), .obj h1.size (.cells none 2 [.str p1]), .obj h.size (.cells none 2 [.BR (AE p0)])] F := A.Cp (n := 0) A1
 refine A8 10 hr H fun fr t H => ?_
 obtain ⟨h5, hx, A⟩ := A.s1 0 [.str x1] [_]
 refine Hk hx H fun fr t H => ?_
 refine BD id (AR (AF 3 (GI 11 2 0 A H fun fr t H => ?_)))
 refine GI 12 1 0 A H fun fr t H => ?_
 obtain ⟨⟨x2_10, x2_11⟩, hx, hm⟩ := bind_some hm
 obtain ⟨v1, h6, hr, bqw2_10, bqw2_11, rfl, A1⟩ := I0 (av := [.BR (AE p0), .str x1]) hx (A.cut 0)
 replace A := A.Xh A1
 refine A8 13 hr H fun fr t H => ?_
 refine BD id (Af (id := 0) (by kernel_rfl) ?_)
 obtain ⟨y1, ho, hm⟩ := bind_some hm
 refine QX (C := cfg) (x := .tmp 13) (ps := [14]) (f' := 211) (first := []) (cap := [.ptr (some (bqw2_10, 0)), .ptr (some (bqw2_11, 0))]) (Lu := [.obj bqw2_10 (.cells none 2 [.BR (AE x2_10)]), .obj bqw2_11 (.cells none 2 [.str x2_11])]) (Lc := [.obj h2.size (.cells none 2 [.bool false]), .obj h1.size (.cells none 2 [.str x1]), .obj h.size (.cells none 2 [.BR (AE p0)])]) (F := F) (ex := fun x => [Ai x]) (Y := EY p0 x1) (PL := fun s Lc => () = s ∧ Lc = [.obj h2.size (.cells none 2 [.bool false]), .obj h1.size (.cells none 2 [.str x1]), .obj h.size (.cells none 2 [.BR (AE p0)])]) (PR := fun r Lc => (∃ (x3 : Bool), x3 = r ∧ Lc = [.obj h2.size (.cells none 2 [.bool x3]), .obj h1.size (.cells none 2 [.str x1]), .obj h.size (.cells none 2 [.BR (AE p0)])]) ∨ False) (pe := fun _ => .ret) (s := ()) (y := y1) (PU := fun L => L = [.obj bqw2_10 (.cells none 2 [.BR (AE x2_10)]), .obj bqw2_11 (.cells none 2 [.str x2_11])]) (by kernel_rfl) H (fun fr => by kernel_rfl) (by kernel_rfl) (fun _ => rfl) (by kernel_rfl) A ⟨rfl, rfl⟩ ?_ ?_ ?_ ?_ ?_
 ·refine Nq H (kn := fun v1 => [(2, .ptr (some (h.size, 0))), (3, .ptr (some (h1.size, 0))), (4, .ptr (some (h2.size, 0))), (14, Ai v1)]) (fun v1 fr => by kernel_rfl) ?_
  clear ho hm A H
  intro g h7 F s v1 o Lc fr H hP hm A
  obtain ⟨rfl, rfl⟩ := hP
  unfold EY at hm
  show AW _ _ _ _ _ _ _
  refine DQ 1 (BV 1 [(2, .ptr (some (h.size, 0))), (3, .ptr (some (h1.size, 0))), (4, .ptr (some (h2.size, 0))), (5, Ai v1)] H fun fr H => at_nil ?_)
  refine ⟨rfl, _, A, ?_⟩
  clear A
  intro h8 F A
  show AW _ _ _ _ _ _ _
  refine Af (id := 1) (by kernel_rfl) ?_
  refine AR (Df 4 10 ?_)
  refine GI 15 2 0 A H fun fr t H => ?_
  refine BA 2 [] 18 (.BR (DC 256 (AB.int .u8) p0.t_.Bh ++ [Ai p0.t_.Az, vs (eI .i32) p0.t_.Bd, vs eB p0.t_.BM])) h8 H (fun fr => .of (Lp (by kernel_rfl))) fun fr t H => ?_
  refine GI 19 1 0 A H fun fr t H => ?_
  obtain ⟨x4, hx, hm⟩ := bind_some hm
  refine BA 1 [] 21 (.str x4) h8 H (fun fr => .of (GA (k := .i64) (k' := .i64) (lo := (some v1)) (hi := none) (by kernel_rfl) hx)) fun fr t H => ?_
  obtain ⟨x5, hx, hm⟩ := bind_some hm
  obtain ⟨v1, h9, hr, rqw3, rfl, A1⟩ := Kg (av := [.BR (DC 256 (AB.int .u8) p0.t_.Bh ++ [Ai p0.t_.Az, vs (eI .i32) p0.t_.Bd, vs eB p0.t_.BM]), .str x4]) hx (A.cut 0)
  replace A : HH g h9 [.AK rqw3 3 (AK (eI .i64) x5), .obj h2.size (.cells none 2 [.bool false]), .obj h1.size (.cells none 2 [.str x1]), .obj h.size (.cells none 2 [.BR (AE p0)])] F := A.Cp (n := 0) A1
  refine A8 22 hr H fun fr t H => ?_
  refine AP 2 [(23, Ai (x5.length : Int)), (24, Ai 0)] H fun fr H => Af (id := 2) (by kernel_rfl) ?_
  obtain ⟨o1, ho, hm⟩ := bind_some hm
  refine BU (Q' := fun e fr' h' => (e = .exit 2 ∧ .inl () = o1 ∧ Has fr' 42 [] ∧ HH g h' [.obj h2.size (.cells none 2 [.bool false]), .obj h1.size (.cells none 2 [.str x1]), .obj h.size (.cells none 2 [.BR (AE p0)])] F) ∨ (∃ x7, e = .ret ∧ .inr x7 = o1 ∧ Has fr' 42 [(4, .ptr (some (h2.size, 0)))] ∧ HH g h' [.obj h2.size (.cells none 2 [.bool x7]), .obj h1.size (.cells none 2 [.str x1]), .obj h.size (.cells none 2 [.BR (AE p0)])] F) ∨ False) ?_ ?_
  ·refine CH (by kernel_rfl) (fun (s : Int) fr' h' => ∃ x6, x6 = s ∧ Has fr' 42 [(3, .ptr (some (h1.size, 0))), (4, .ptr (some (h2.size, 0))), (5, Ai v1), (22, AH rqw3 x5.length), (23, Ai (x5.length : Int)), (24, Ai x6)] ∧ HH g h' [.AK rqw3 3 (AK (eI .i64) x5), .obj h2.size (.cells none 2 [.bool false]), .obj h1.size (.cells none 2 [.str x1]), .obj h.size (.cells none 2 [.BR (AE p0)])] F) ho ⟨_, rfl, H.ls, A⟩ ?_
   clear ho hm H A
   intro s q fr h10 hI hm
   obtain ⟨x6, rfl, H, A⟩ := hI
   unfold Fm at hm
   refine AF 1 (AP 1 [(25, .bool (decide (x6 < (x5.length : Int))))] H fun fr H => AR (Ae 25 H hm (fun hb hm H => ?_) fun hb hm H => ?_))
   ·refine B0 id (AR (Af (id := 3) (by kernel_rfl) ?_))
    refine AF 3 ?_
    obtain ⟨x8, hx, hm⟩ := bind_some hm
    obtain ⟨i1, er1, _, hx, hq1⟩ := HH.Nk (encI .i64) (by decide) A 0 (xs := x5) rfl hx
    refine As 26 (.ptr (some (i1, x6.toNat * 1))) h10 H (fun fr => .of (Fg (s := De rqw3 x5.length) (by kernel_rfl) hx)) fun fr t H => ?_
    refine As 27 _ _ H (fun fr => .of (EP (by kernel_rfl) (Fw (encI .i64) (HH.row A 0 rfl er1) hq1 (o := 0) rfl))) fun fr t H => ?_
    refine B1 1 [(7, Ai x8)] 4 H fun fr H => B1 4 [(8, Ai (IntKind.i64.wrap (v1 + x8)))] 10 H fun fr H => Ah 1 [(31, Ai (IntKind.i64.wrap (v1 + x8)))] 32 2 0 A H fun fr t H => ?_
    refine AG 3 [(35, .bool ((IntKind.i64.wrap (v1 + x8)) == (x1.length : Int)))] H fun fr H => ?_
    obtain ⟨x9, ho, hm⟩ := bind_some hm
    refine A9 5 (fun fr' h' => Has fr' 42 [(3, .ptr (some (h1.size, 0))), (4, .ptr (some (h2.size, 0))), (5, Ai v1), (22, AH rqw3 x5.length), (23, Ai (x5.length : Int)), (24, Ai x6), (40, .bool x9)] ∧ HH g h' [.AK rqw3 3 (AK (eI .i64) x5), .obj h2.size (.cells none 2 [.bool false]), .obj h1.size (.cells none 2 [.str x1]), .obj h.size (.cells none 2 [.BR (AE p0)])] F) ?_ ?_
    ·rcases AZ ho with ⟨hb, hm⟩ | ⟨hb, hm⟩
     ·replace H := H.kn 35 hb
      refine AG 5 [(40, .bool true)] H fun fr H => ?_
      obtain rfl := Ag hm
      exact at_nil ⟨H.ls, A⟩
     replace H := H.kn 35 hb
     refine GI 36 2 0 A H fun fr t H => ?_
     obtain ⟨x10, hx, hm⟩ := bind_some hm
     refine BA 1 [] 38 (Ab x10) h10 H (fun fr => .of (E5 (by kernel_rfl) hx)) fun fr t H => ?_
     refine AG 2 [(40, .bool (x10 == 47))] H fun fr H => ?_
     obtain rfl := Ag hm
     exact at_nil ⟨H.ls, A⟩
    clear A
    intro t fr h11 hK
    obtain ⟨H, A⟩ := hK
    refine BD id (Ae 40 H hm (fun hb hm H => ?_) fun hb hm H => ?_)
    ·refine AF 1 ?_
     obtain ⟨h12, hx, A⟩ := A.s1 0 [.bool true] [_]
     refine Hk hx H fun fr t H => ?_
     refine BD id (AY ?_)
     replace A := A.k3 1 2 3
     exact nr hm fun e => Or.inr (.inl ⟨_, rfl, e, H.ls, A⟩)
    refine F3 2 id (BV 2 [(3, .ptr (some (h1.size, 0))), (4, .ptr (some (h2.size, 0))), (5, Ai v1), (22, AH rqw3 x5.length), (23, Ai (x5.length : Int)), (24, Ai (IntKind.i64.wrap (x6 + 1)))] H fun fr H => at_nil ?_)
    exact nx hm ⟨_, rfl, H.ls, A⟩
   refine Bz (i := 2) (by kernel_rfl) ?_
   replace A := A.k3 1 2 3
   exact nr hm fun e => .inl ⟨rfl, e, H.ls, A⟩
  clear ho
  clear A
  intro e fr h13 hQ
  rcases hQ with ⟨rfl, rfl, H, A⟩ | ⟨x7, rfl, rfl, H, A⟩ | hF
  ·have e1 := Option.some.inj hm
   subst e1
   exact ⟨rfl, _, ⟨rfl, rfl⟩, A⟩
  ·have e1 := Option.some.inj hm
   subst e1
   exact ⟨rfl, _, Or.inl ⟨x7, rfl, rfl⟩, A⟩
  exact hF.elim
 ·intro h1 l F1 R hYR B A
  obtain ⟨v1, h2, hr, _, F2, B, A⟩ := Gr (av := [.M4 l, .ptr (some (bqw2_10, 0)), .ptr (some (bqw2_11, 0))]) ho (by kernel_rfl) hYR B A
  exact ⟨v1, h2, F2, _, hr, B, rfl, A⟩
 ·clear ho A
  intro s2 h14 Lc Lu ey hP hU A
  subst ey
  obtain ⟨rfl, rfl⟩ := hP
  subst hU
  replace A : HH g h14 [.obj bqw2_10 (.cells none 2 [.BR (AE x2_10)]), .obj bqw2_11 (.cells none 2 [.str x2_11]), .obj h2.size (.cells none 2 [.bool false]), .obj h1.size (.cells none 2 [.str x1]), .obj h.size (.cells none 2 [.BR (AE p0)])] F := A
  show AW _ _ _ _ _ _ _
  refine AF 1 ?_
  obtain ⟨h15, hx, A⟩ := A.s2 0 [.bool false] [_]
  refine SL (v := .tuple []) (h1 := h15) [(4, .ptr (some (h2.size, 0)))] H (fun fr => by kernel_rfl) (fun fr => .of (N5 (by kernel_rfl) rfl hx)) ?_
  intro fr t H
  refine BD id (AY ?_)
  obtain rfl := Ag hm
  refine ⟨.inl rfl, .bool false, CS (.cell (rT H) (SM (by kernel_rfl) (A.l1 2 0)) .nil), ?_⟩
  replace A := A.d0
  exact ⟨rfl, A⟩
 ·clear ho A
  intro r2 h14 Lc Lu e ey he hP hU A
  subst ey
  subst hU
  rcases hP with ⟨x3, rfl, rfl⟩ | hF
  ·obtain rfl := Pv he
   replace A : HH g h14 [.obj bqw2_10 (.cells none 2 [.BR (AE x2_10)]), .obj bqw2_11 (.cells none 2 [.str x2_11]), .obj h2.size (.cells none 2 [.bool x3]), .obj h1.size (.cells none 2 [.str x1]), .obj h.size (.cells none 2 [.BR (AE p0)])] F := A
   obtain rfl := Ag hm
   refine ⟨.inl rfl, .bool x3, CS (.cell (rT H) (SM (by kernel_rfl) (A.l1 2 0)) .nil), ?_⟩
   replace A := A.d0
   exact ⟨rfl, A⟩
  exact hF.elim
 exact fun _ => ⟨.ret, rfl⟩
def G0 (p0 : List AV) (p1 : List UInt8) (s : Int) : Option ((Int) ⊕ ((Unit) ⊕ (Int × Bool))) :=
 match s with
 | x1 => Ac (decide (x1 < (p0.length : Int))) ((HO p0 x1).bind fun x4 => (FH x4 p1).bind fun x5 => Ac x5 (some (.inr (.inr (x1, true)))) (some (.inl (IntKind.i64.wrap (x1 + 1))))) (some (.inr (.inl ())))
def E6 (p0 : List AV) (p1 : List UInt8) : Option (Int × Bool) :=
 (loop (G0 p0 p1) (0 : Int)).bind fun o1 => (match o1 with | .inl _ => some ((0 : Int), false) | .inr (x2, x3) => some (x2, x3))
theorem Hg {p0 p1 rp0 q0 q1} (hm : E6 p0 p1 = some (q0, q1)) (A : HH g h [.AK rp0 93 (AK (eP AE) p0)] F) (hc : Ba (cfg.still 72) av = [AH rp0 p0.length, .str p1] := by kernel_rfl) : ∃ v h', Bi cfg g h 72 av v h' ∧ v = .tuple [Ai q0, .bool q1] ∧ HH g h' [.AK rp0 93 (AK (eP AE) p0)] F := by
 refine EN 20 [.tmp 4, .tmp 5] hc ?_
 clear hc
 unfold E6 at hm
 refine bg 20 [(0, AH rp0 p0.length), (1, .str p1)] fun fr H => ?_
 refine AF 2 (AP 2 [] H fun fr H => AR (AF 3 (AP 3 [(8, AH rp0 p0.length), (9, Ai (p0.length : Int)), (10, Ai 0)] H fun fr H => Af (id := 0) (by kernel_rfl) ?_)))
 obtain ⟨o1, ho, hm⟩ := bind_some hm
 refine BU (Q' := fun e fr' h' => (e = .exit 0 ∧ .inl () = o1 ∧ Has fr' 20 [] ∧ HH g h' [.AK rp0 93 (AK (eP AE) p0)] F) ∨ (∃ x2 x3, e = .ret ∧ .inr (x2, x3) = o1 ∧ Has fr' 20 [(4, Ai x2), (5, .bool x3)] ∧ HH g h' [.AK rp0 93 (AK (eP AE) p0)] F) ∨ False) ?_ ?_
 ·refine CH (by kernel_rfl) (fun (s : Int) fr' h' => ∃ x1, x1 = s ∧ Has fr' 20 [(1, .str p1), (8, AH rp0 p0.length), (9, Ai (p0.length : Int)), (10, Ai x1)] ∧ HH g h' [.AK rp0 93 (AK (eP AE) p0)] F) ho ⟨_, rfl, H.ls, A⟩ ?_
  clear ho hm H A
  intro s q fr h1 hI hm
  obtain ⟨x1, rfl, H, A⟩ := hI
  unfold G0 at hm
  refine AF 1 (AP 1 [(11, .bool (decide (x1 < (p0.length : Int))))] H fun fr H => AR (Ae 11 H hm (fun hb hm H => ?_) fun hb hm H => ?_))
  ·refine B0 id (AR (Af (id := 1) (by kernel_rfl) ?_))
   refine AF 5 ?_
   obtain ⟨x4, hx, hm⟩ := bind_some hm
   obtain ⟨i1, er1, _, hx, hq1⟩ := HH.Nk (Sx _) (by decide) A 0 (xs := p0) rfl hx
   refine BA 1 [(12, Ai x1)] 13 (.ptr (some (i1, x1.toNat * 1))) h1 H (fun fr => .of (Fg (s := De rp0 p0.length) (by kernel_rfl) hx)) fun fr t H => ?_
   refine As 14 _ _ H (fun fr => .of (EP (by kernel_rfl) (Fw (Sx _) (HH.row A 0 rfl er1) hq1 (o := 0) rfl))) fun fr t H => ?_
   refine B1 2 [(6, Ai x1), (7, .BR (AE x4))] 3 H fun fr H => ?_
   obtain ⟨x5, hx, hm⟩ := bind_some hm
   obtain ⟨v1, h2, hr, rfl, A1⟩ := JN (av := [.BR (AE x4), .str p1]) hx (A.cut 0)
   replace A := A.C4 A1
   refine Ap 2 [] 17 hr H fun fr t H => ?_
   refine BD id (Ae 17 H hm (fun hb hm H => ?_) fun hb hm H => ?_)
   ·refine AF 3 (AP 3 [(4, Ai x1), (5, .bool true)] H fun fr H => AY ?_)
    exact nr hm fun e => Or.inr (.inl ⟨_, _, rfl, e, H.ls, A⟩)
   refine F3 2 id (BV 2 [(1, .str p1), (8, AH rp0 p0.length), (9, Ai (p0.length : Int)), (10, Ai (IntKind.i64.wrap (x1 + 1)))] H fun fr H => at_nil ?_)
   exact nx hm ⟨_, rfl, H.ls, A⟩
  refine Bz (i := 0) (by kernel_rfl) ?_
  exact nr hm fun e => .inl ⟨rfl, e, H.ls, A⟩
 clear ho
 clear A
 intro e fr h3 hQ
 rcases hQ with ⟨rfl, rfl, H, A⟩ | ⟨x2, x3, rfl, rfl, H, A⟩ | hF
 ·show AW _ _ _ _ _ _ _
  refine AF 2 (AP 2 [(4, Ai 0), (5, .bool false)] H fun fr H => AY ?_)
  obtain ⟨rfl, rfl⟩ := B6 hm
  exact ⟨.inl rfl, _, rH H, rfl, A⟩
 ·obtain ⟨rfl, rfl⟩ := B6 hm
  exact ⟨.inl rfl, _, rH H, rfl, A⟩
 exact hF.elim
def FI (p0 : List UInt8) : Option ((List UInt8)) :=
 some p0
theorem JT {p0 q0_11} (hm : FI p0 = some q0_11) (A : HH g h [] F) (hc : Ba (cfg.still 164) av = [.str p0, .str ([47] : List UInt8), Ai (0 : Int)] := by kernel_rfl) : ∃ v h', Bi cfg g h 164 av v h' ∧ ∃ (bq0_10 : Nat) (bq0_11 : Nat) (bq0_12 : Nat), v = .func (.func 207) [] [.ptr (some (bq0_10, 0)), .ptr (some (bq0_11, 0)), .ptr (some (bq0_12, 0))] ∧ HH g h' [.obj bq0_10 (.cells none 2 [.str ([47] : List UInt8)]), .obj bq0_11 (.cells none 2 [.str q0_11]), .obj bq0_12 (.cells none 2 [Ai (0 : Int)])] F := by
 refine EN 8 [.tmp 6] hc ?_
 clear hc
 unfold FI at hm
 refine bg 8 [(0, .str p0), (1, .str ([47] : List UInt8)), (2, Ai (0 : Int))] fun fr H => ?_
 refine AF 4 ?_
 obtain ⟨h1, e1, A⟩ := A.pu (.cells none 2 [.str p0])
 refine BP 3 (.ptr (some (h.size, 0))) e1 H fun fr t H => ?_
 obtain ⟨h2, e2, A⟩ := A.pu (.cells none 2 [.str ([47] : List UInt8)])
 refine BP 4 (.ptr (some (h1.size, 0))) e2 H fun fr t H => ?_
 obtain ⟨h3, e3, A⟩ := A.pu (.cells none 2 [Ai 0])
 refine BP 5 (.ptr (some (h2.size, 0))) e3 H fun fr t H => ?_
 refine B1 1 [] 2 H fun fr H => AP 2 [(6, .func (.func 207) [] [.ptr (some (h1.size, 0)), .ptr (some (h.size, 0)), .ptr (some (h2.size, 0))])] H fun fr H => AY ?_
 obtain rfl := Ag hm
 refine ⟨.inl rfl, .func (.func 207) [] [.ptr (some (h1.size, 0)), .ptr (some (h.size, 0)), .ptr (some (h2.size, 0))], rH H, ?_⟩
 replace A : HH g h3 [.obj h1.size (.cells none 2 [.str ([47] : List UInt8)]), .obj h.size (.cells none 2 [.str p0]), .obj h2.size (.cells none 2 [Ai 0])] F := (((A.front 0 rfl).front 2 rfl).front 2 rfl)
 exact ⟨h1.size, h.size, h2.size, rfl, A⟩
def FU (p0 : List UInt8) : Option ((List UInt8)) :=
 (FI p0).bind fun x1_11 => some x1_11
theorem Ja {p0 q0_11} (hm : FU p0 = some q0_11) (A : HH g h [] F) (hc : Ba (cfg.still 111) av = [.str p0, .str ([47] : List UInt8)] := by kernel_rfl) : ∃ v h', Bi cfg g h 111 av v h' ∧ ∃ (bq0_10 : Nat) (bq0_11 : Nat) (bq0_12 : Nat), v = .func (.func 207) [] [.ptr (some (bq0_10, 0)), .ptr (some (bq0_11, 0)), .ptr (some (bq0_12, 0))] ∧ HH g h' [.obj bq0_10 (.cells none 2 [.str ([47] : List UInt8)]), .obj bq0_11 (.cells none 2 [.str q0_11]), .obj bq0_12 (.cells none 2 [Ai (0 : Int)])] F := by
 refine EN 8 [.tmp 4] hc ?_
 clear hc
 unfold FU at hm
 refine bg 8 [(0, .str p0), (1, .str ([47] : List UInt8))] fun fr H => ?_
 refine AF 1 (B1 1 [] 4 H fun fr H => ?_)
 obtain ⟨x1_11, hx, hm⟩ := bind_some hm
 obtain ⟨v1, h1, hr, bqw1_10, bqw1_11, bqw1_12, rfl, A1⟩ := JT (av := [.str p0, .str ([47] : List UInt8), Ai 0]) hx (A.cut 0)
 replace A := A.YA A1
 refine Ap 2 [] 7 hr H fun fr t H => ?_
 refine AP 1 [(4, .func (.func 207) [] [.ptr (some (bqw1_10, 0)), .ptr (some (bqw1_11, 0)), .ptr (some (bqw1_12, 0))])] H fun fr H => AY ?_
 obtain rfl := Ag hm
 exact ⟨.inl rfl, _, rH H, _, _, _, rfl, A⟩
def E4 {SY RY : Type} (Y : SY → (List UInt8) → Option (SY ⊕ RY)) (s : (List UInt8) × (SY ⊕ RY)) : Option (((List UInt8) × (SY ⊕ RY)) ⊕ (((List UInt8) × (SY ⊕ RY)) ⊕ ((List UInt8) × (SY ⊕ RY)))) :=
 match s with
 | (x1, y1) => Ca (decide (x1.length ≤ 4294967280)) <| Ac (decide ((Lib.index x1 ([47] : List UInt8)) < 0)) (some (.inr (.inl (x1, y1)))) ((HX x1 none (some (IntKind.i64.wrap ((Lib.index x1 ([47] : List UInt8)) + 0)))).bind fun x4 => (TZ Y y1 x4).bind fun (x5, y4) => Ac (!x5) (some (.inr (.inr (x1, y4)))) ((HX x1 (some (IntKind.i64.wrap ((Lib.index x1 ([47] : List UInt8)) + 1))) none).bind fun x6 => some (.inl (x6, y4))))
def EA {SY RY : Type} (Y : SY → (List UInt8) → Option (SY ⊕ RY)) (y : SY ⊕ RY) (p2 : List UInt8) : Option ((List UInt8) × (SY ⊕ RY)) :=
 (loop (E4 Y) (p2, y)).bind fun o1 => (match o1 with | .inl (x2, y2) => (TZ Y y2 x2).bind fun (x7, y5) => some (x2, y5) | .inr (x3, y3) => some (x3, y3))
theorem Hb {SY RY : Type} {R : SY ⊕ RY → List Ck → Prop} {Y : SY → (List UInt8) → Option (SY ⊕ RY)} {y : SY ⊕ RY} {p2 l bp1 bp2 bp3 u1} {yq : SY ⊕ RY} (hm : EA Y y p2 = some (u1, yq)) (hc : Ba (cfg.still 207) av = [.M4 l, .ptr (some (bp1, 0)), .ptr (some (bp2, 0)), .ptr (some (bp3, 0))]) (hYR : YR cfg g l (fun x => [.str x]) Y R) (B : R y F) (A : HH g h [.obj bp1 (.cells none 2 [.str ([47] : List UInt8)]), .obj bp2 (.cells none 2 [.str p2]), .obj bp3 (.cells none 2 [Ai (0 : Int)])] F) : ∃ v h', Bi cfg g h 207 av v h' ∧ v = .tuple [] ∧ ∃ F, R yq F ∧ HH g h' [.obj bp1 (.cells none 2 [.str ([47] : List UInt8)]), .obj bp2 (.cells none 2 [.str u1]), .obj bp3 (.cells none 2 [Ai (0 : Int)])] F := by
 refine EN 52 [] hc ?_
 clear hc
 unfold EA at hm
 refine bg 52 [(0, .M4 l), (1, .ptr (some (bp1, 0))), (2, .ptr (some (bp2, 0))), (3, .ptr (some (bp3, 0)))] fun fr H => ?_
 refine AR (AF 3 (GI 9 0 0 A H fun fr t H => ?_))
 refine AP 2 [(11, .bool false)] H fun fr H => Jj (x := .tmp 11) (by kernel_rfl) H (fun fr => by kernel_rfl) ?_
 refine B0 id (AR (Af (id := 2) (by kernel_rfl) ?_))
 obtain ⟨o1, ho, hm⟩ := bind_some hm
 refine BU (Q' := fun e fr' h' => (∃ x2, ∃ (y2 : SY ⊕ RY), e = .exit 2 ∧ .inl (x2, y2) = o1 ∧ Has fr' 52 [(0, .M4 l), (2, .ptr (some (bp2, 0)))] ∧ ∃ F, R y2 F ∧ HH g h' [.obj bp1 (.cells none 2 [.str ([47] : List UInt8)]), .obj bp2 (.cells none 2 [.str x2]), .obj bp3 (.cells none 2 [Ai 0])] F) ∨ (∃ x3, ∃ (y3 : SY ⊕ RY), e = .ret ∧ .inr (x3, y3) = o1 ∧ Has fr' 52 [] ∧ ∃ F, R y3 F ∧ HH g h' [.obj bp1 (.cells none 2 [.str ([47] : List UInt8)]), .obj bp2 (.cells none 2 [.str x3]), .obj bp3 (.cells none 2 [Ai 0])] F) ∨ False) ?_ ?_
 ·refine CH (by kernel_rfl) (fun (s : (List UInt8) × (SY ⊕ RY)) fr' h' => ∃ x1, ∃ (y1 : SY ⊕ RY), (x1, y1) = s ∧ Has fr' 52 [(0, .M4 l), (1, .ptr (some (bp1, 0))), (2, .ptr (some (bp2, 0))), (3, .ptr (some (bp3, 0)))] ∧ ∃ F, R y1 F ∧ HH g h' [.obj bp1 (.cells none 2 [.str ([47] : List UInt8)]), .obj bp2 (.cells none 2 [.str x1]), .obj bp3 (.cells none 2 [Ai 0])] F) ho ⟨p2, y, rfl, H.ls, ⟨F, B, A⟩⟩ ?_
  clear ho hm H A
  intro s q fr h1 hI hm
  obtain ⟨x1, y1, rfl, H, ⟨F, B, A⟩⟩ := hI
  unfold E4 at hm
  refine Af (id := 3) (by kernel_rfl) ?_
  refine AF 4 (GI 29 1 0 A H fun fr t H => ?_)
  refine GI 30 0 0 A H fun fr t H => ?_
  obtain ⟨hb, hm⟩ := BE hm
  refine As 31 (Ai (Lib.index x1 ([47] : List UInt8))) h1 H (fun fr => Steps.call (by kernel_rfl) (S2 (C := cfg) (f := 208) (a := 0) (by kernel_rfl) (l := exts) rfl (by kernel_rfl) hb)) fun fr t H => ?_
  refine AP 1 [(7, Ai (Lib.index x1 ([47] : List UInt8)))] H fun fr H => AR (AF 2 (AP 2 [(33, .bool (decide ((Lib.index x1 ([47] : List UInt8)) < 0)))] H fun fr H => Ae 33 H hm (fun hb hm H => ?_) fun hb hm H => ?_))
  ·refine Bz (i := 2) (by kernel_rfl) ?_
   exact nr hm fun e => .inl ⟨x1, y1, rfl, e, H.ls, ⟨F, B, A⟩⟩
  refine CN 6 id (GI 34 1 0 A H fun fr t H => ?_)
  refine Ah 1 [(35, Ai (Lib.index x1 ([47] : List UInt8)))] 36 2 0 A H fun fr t H => ?_
  obtain ⟨x4, hx, hm⟩ := bind_some hm
  refine BA 1 [] 38 (.str x4) h1 H (fun fr => .of (GA (k := .i64) (k' := .i64) (lo := none) (hi := (some (IntKind.i64.wrap ((Lib.index x1 ([47] : List UInt8)) + 0)))) (by kernel_rfl) hx)) fun fr t H => ?_
  refine AP 1 [(8, .str x4)] H fun fr H => AR (AF 4 ?_)
  obtain ⟨⟨x5, y4⟩, hx, hm⟩ := bind_some hm
  obtain ⟨h2, F, hr, B, A⟩ := hYR.TZ (pr := []) .nil A B hx
  refine BA 2 [] 41 (.bool x5) h2 H (fun fr => Steps.round (by kernel_rfl) hr) fun fr t H => ?_
  refine AP 1 [(42, .bool (!x5))] H fun fr H => Ae 42 H hm (fun hb hm H => ?_) fun hb hm H => ?_
  ·refine AY ?_
   exact nr hm fun e => Or.inr (.inl ⟨x1, y4, rfl, e, H.ls, ⟨F, B, A⟩⟩)
  refine F3 7 id (GI 43 1 0 A H fun fr t H => ?_)
  refine Ah 1 [(44, Ai (Lib.index x1 ([47] : List UInt8)))] 45 0 0 A H fun fr t H => ?_
  obtain ⟨x6, hx, hm⟩ := bind_some hm
  refine BA 2 [] 48 (.str x6) h2 H (fun fr => .of (GA (k := .i64) (k' := .i64) (lo := (some (IntKind.i64.wrap ((Lib.index x1 ([47] : List UInt8)) + 1)))) (hi := none) (by kernel_rfl) hx)) fun fr t H => ?_
  obtain ⟨h3, hx, A1⟩ := A.st 1 rfl (o := 0) (new := [.str x6]) (ds := [.str x6]) (Nat.le_of_ble_eq_true rfl) rfl rfl
  replace A : HH g h3 [.obj bp1 (.cells none 2 [.str ([47] : List UInt8)]), .obj bp2 (.cells none 2 [.str x6]), .obj bp3 (.cells none 2 [Ai 0])] F := A1
  refine Hk hx H fun fr t H => ?_
  refine at_nil ?_
  exact nx hm ⟨x6, y4, rfl, H.ls, ⟨F, B, A⟩⟩
 clear ho
 clear A
 intro e fr h4 hQ
 rcases hQ with ⟨x2, y2, rfl, rfl, H, ⟨F, B, A⟩⟩ | ⟨x3, y3, rfl, rfl, H, ⟨F, B, A⟩⟩ | hF
 ·show AW _ _ _ _ _ _ _
  refine DQ 3 (Ah 1 [(49, .M4 l)] 50 1 0 A H fun fr t H => ?_)
  obtain ⟨⟨x7, y5⟩, hx, hm⟩ := bind_some hm
  obtain ⟨h5, F, hr, B, A⟩ := hYR.TZ (pr := []) .nil A B hx
  refine Lb (.bool x7) h5 H (fun fr => Steps.round (by kernel_rfl) hr) fun fr t H => ?_
  refine at_nil ?_
  obtain ⟨rfl, rfl⟩ := B6 hm
  refine ⟨.inr rfl, .tuple [], rH H, ?_⟩
  exact ⟨rfl, ⟨F, B, A⟩⟩
 ·obtain ⟨rfl, rfl⟩ := B6 hm
  exact ⟨.inl rfl, _, rH H, rfl, ⟨F, B, A⟩⟩
 exact hF.elim
def HP (s : (List (List UInt8))) (v1 : (List UInt8)) : Option (((List (List UInt8))) ⊕ (Unit)) :=
 match s with
 | x2 => Ac (!(v1 == ([] : List UInt8))) (Ca (Lw 16 (x2.length + ([v1] : List (List UInt8)).length)) <| some (.inl (x2 ++ ([v1] : List (List UInt8))))) (some (.inl x2))
def JG (p0 : List UInt8) : Option ((List (List UInt8))) :=
 (FU p0).bind fun x1_11 => (EA (HP) (.inl ([] : List (List UInt8))) x1_11).bind fun (x3, y1) => (match y1 with | .inl x2 => some x2 | .inr _ => none)
theorem Ny {p0 q0} (hm : JG p0 = some q0) (A : HH g h [] F) (hc : Ba (cfg.still 70) av = [.str p0] := by kernel_rfl) : ∃ v h', Bi cfg g h 70 av v h' ∧ v = vs eS q0 ∧ HH g h' [] F := by
 refine XL 15 [.tmp 2] hc ?_
 clear hc
 unfold JG at hm
 refine bg 15 [(0, .str p0)] fun fr H => ?_
 refine AF 1 (B1 1 [] 1 H fun fr H => ?_)
 obtain ⟨h1, e1, A⟩ := A.pu (.cells none 2 [.slice none 0])
 refine BP 3 (.ptr (some (h.size, 0))) e1 H fun fr t H => ?_
 refine BD id (AR (AF 2 ?_))
 obtain ⟨x1_11, hx, hm⟩ := bind_some hm
 obtain ⟨v1, h2, hr, bqw1_10, bqw1_11, bqw1_12, rfl, A1⟩ := Ja (av := [.str p0, .str ([47] : List UInt8)]) hx (A.cut 0)
 replace A : HH g h2 [.obj bqw1_10 (.cells none 2 [.str ([47] : List UInt8)]), .obj bqw1_11 (.cells none 2 [.str x1_11]), .obj bqw1_12 (.cells none 2 [Ai (0 : Int)]), .obj h.size (.cells none 2 [.slice none 0])] F := A.Cp (n := 0) A1
 refine Ap 1 [] 6 hr H fun fr t H => ?_
 refine BD id (Af (id := 0) (by kernel_rfl) ?_)
 replace A : HH g h2 [.AK none 9 (AK eS ([] : List (List UInt8))), _, _, _, _] F := A.KI 9
 replace A : HH g h2 [_, _, _, _, .obj h.size (.cells none 2 [AH none (([] : List (List UInt8)).length)])] F := (((((A.front 4 rfl).front 1 rfl).front 4 rfl).front 4 rfl).front 4 rfl)
 obtain ⟨⟨x3, y1⟩, ho, hm⟩ := bind_some hm
 refine QX (C := cfg) (x := .tmp 6) (ps := [7]) (f' := 207) (first := []) (cap := [.ptr (some (bqw1_10, 0)), .ptr (some (bqw1_11, 0)), .ptr (some (bqw1_12, 0))]) (Lu := [.obj bqw1_10 (.cells none 2 [.str ([47] : List UInt8)]), .obj bqw1_11 (.cells none 2 [.str x1_11]), .obj bqw1_12 (.cells none 2 [Ai 0])]) (Lc := [.AK none 9 (AK eS ([] : List (List UInt8))), .obj h.size (.cells none 2 [AH none (([] : List (List UInt8)).length)])]) (F := F) (ex := fun x => [.str x]) (Y := HP) (PL := fun s Lc => ∃ (x2 : List (List UInt8)), x2 = s ∧ ∃ (r1 : Option Nat), Lc = [.AK r1 9 (AK eS x2), .obj h.size (.cells none 2 [AH r1 x2.length])]) (PR := fun r Lc => False) (pe := fun _ => .ret) (s := ([] : List (List UInt8))) (y := y1) (PU := fun L => L = [.obj bqw1_10 (.cells none 2 [.str ([47] : List UInt8)]), .obj bqw1_11 (.cells none 2 [.str x3]), .obj bqw1_12 (.cells none 2 [Ai 0])]) (by kernel_rfl) H (fun fr => by kernel_rfl) (by kernel_rfl) (fun _ => rfl) (by kernel_rfl) A ⟨([] : List (List UInt8)), rfl, none, rfl⟩ ?_ ?_ ?_ ?_ ?_
 ·refine Nq H (kn := fun v1 => [(3, .ptr (some (h.size, 0))), (7, .str v1)]) (fun v1 fr => by kernel_rfl) ?_
  clear ho hm A H
  intro g h3 F s v1 o Lc fr H hP hm A
  obtain ⟨x2, rfl, r1, rfl⟩ := hP
  unfold HP at hm
  show AW _ _ _ _ _ _ _
  refine DQ 1 (BV 1 [(3, .ptr (some (h.size, 0))), (4, .str v1)] H fun fr H => at_nil ?_)
  refine ⟨rfl, _, A, ?_⟩
  clear A
  intro h4 F A
  show AW _ _ _ _ _ _ _
  refine Af (id := 1) (by kernel_rfl) ?_
  refine AF 2 (AP 2 [(9, .bool (!(v1 == ([] : List UInt8))))] H fun fr H => Ae 9 H hm (fun hb hm H => ?_) fun hb hm H => ?_)
  ·refine DQ 5 (GI 10 1 0 A H fun fr t H => ?_)
   refine AG 1 [(11, .str v1)] H fun fr H => ?_
   obtain ⟨h5, e2, A⟩ := A.pL 9 [.str v1]
   refine BP 12 (AH (some h4.size) (([v1] : List (List UInt8)).length)) e2 H fun fr t H => ?_
   obtain ⟨hb, hm⟩ := BE hm
   obtain ⟨r2, h6, hx, A1⟩ := HH.J2 encS (by decide) A 1 (xs := x2) (ys := ([v1] : List (List UInt8))) rfl (Cl A 0 rfl (n := ([v1] : List (List UInt8)).length) (z := 1) rfl (by decide)) rfl rfl hb
   replace A : HH g h6 [.AK (some h4.size) 9 ([.str v1]), .AK r2 9 (AK eS (x2 ++ ([v1] : List (List UInt8)))), .obj h.size (.cells none 2 [AH r1 x2.length])] F := A1
   replace A := A.k2 1 2
   refine As 13 _ _ H (fun fr => .of (G3 (s := De r1 x2.length) (by kernel_rfl) hx)) fun fr t H => ?_
   obtain ⟨h7, hx, A1⟩ := A.st 1 rfl (o := 0) (new := [AH r2 ((x2 ++ ([v1] : List (List UInt8))).length)]) (ds := [AH r2 ((x2 ++ ([v1] : List (List UInt8))).length)]) (Nat.le_of_ble_eq_true rfl) rfl rfl
   replace A : HH g h7 [_, .obj h.size (.cells none 2 [AH r2 ((x2 ++ ([v1] : List (List UInt8))).length)])] F := A1
   refine Hk hx H fun fr t H => ?_
   refine at_nil ?_
   have e1 := Option.some.inj hm
   subst e1
   exact ⟨rfl, _, ⟨(x2 ++ ([v1] : List (List UInt8))), rfl, r2, rfl⟩, A⟩
  refine Fz ?_
  have e1 := Option.some.inj hm
  subst e1
  exact ⟨rfl, _, ⟨x2, rfl, r1, rfl⟩, A⟩
 ·intro h1 l F1 R hYR B A
  obtain ⟨v1, h2, hr, _, F2, B, A⟩ := Hb (av := [.M4 l, .ptr (some (bqw1_10, 0)), .ptr (some (bqw1_11, 0)), .ptr (some (bqw1_12, 0))]) ho (by kernel_rfl) hYR B A
  exact ⟨v1, h2, F2, _, hr, B, rfl, A⟩
 ·clear ho A
  intro s2 h8 Lc Lu ey hP hU A
  subst ey
  obtain ⟨x2, rfl, r1, rfl⟩ := hP
  subst hU
  replace A : HH g h8 [.obj bqw1_10 (.cells none 2 [.str ([47] : List UInt8)]), .obj bqw1_11 (.cells none 2 [.str x3]), .obj bqw1_12 (.cells none 2 [Ai 0]), .AK r1 9 (AK eS x2), .obj h.size (.cells none 2 [AH r1 x2.length])] F := A
  show AW _ _ _ _ _ _ _
  refine AF 2 (SL (v := AH r1 x2.length) (h1 := h8) [(14, AH r1 x2.length)] H (fun fr => by kernel_rfl) (fun fr => .of (EP (by kernel_rfl) (A.l1 4 0))) ?_)
  intro fr t H
  refine AP 1 [(2, AH r1 x2.length)] H fun fr H => AY ?_
  obtain rfl := Ag hm
  refine ⟨.inl rfl, AH r1 x2.length, rH H, ?_⟩
  obtain ⟨h9, hz0, A1⟩ := (A.front 3 rfl).WV (n := x2.length) (z := 1) (encS.J5 _) (by decide)
  replace A : HH g h9 [_, _, _, _] F := A1
  refine ⟨vs eS x2, h9, by first | rfl | (simp only [M5, Ma, NF, NB, Mz, M0, Mm, Mf, NI, MZ, My, Ic, Io, Iq, IQ, Ig, IK, Ir, Option.map_some, hz0] <;> rfl), ?_⟩
  replace A := A.d0
  exact ⟨rfl, A⟩
 ·clear ho A
  intro r2 h8 Lc Lu e ey he hP hU A
  subst ey
  subst hU
  exact False.elim hP
 exact fun _ => ⟨.ret, rfl⟩
def Kk : Option ((List (List UInt8))) :=
 some ([([46, 97, 114, 99, 104, 45, 105, 100, 115] : List UInt8), ([46, 98, 122, 114] : List UInt8), ([46, 98, 122, 114, 105, 103, 110, 111, 114, 101] : List UInt8), ([46, 98, 122, 114, 116, 97, 103, 115] : List UInt8), ([46, 99, 118, 115, 105, 103, 110, 111, 114, 101] : List UInt8), ([46, 103, 105, 116] : List UInt8), ([46, 103, 105, 116, 97, 116, 116, 114, 105, 98, 117, 116, 101, 115] : List UInt8), ([46, 103, 105, 116, 105, 103, 110, 111, 114, 101] : List UInt8), ([46, 103, 105, 116, 109, 111, 100, 117, 108, 101, 115] : List UInt8), ([46, 104, 103] : List UInt8), ([46, 104, 103, 105, 103, 110, 111, 114, 101] : List UInt8), ([46, 104, 103, 116, 97, 103, 115] : List UInt8), ([46, 115, 118, 110] : List UInt8), ([61, 82, 69, 76, 69, 65, 83, 69, 45, 73, 68] : List UInt8), ([61, 109, 101, 116, 97, 45, 117, 112, 100, 97, 116, 101] : List UInt8), ([61, 117, 112, 100, 97, 116, 101] : List UInt8), ([67, 86, 83] : List UInt8), ([82, 67, 83] : List UInt8), ([83, 67, 67, 83] : List UInt8), ([95, 100, 97, 114, 99, 115] : List UInt8), ([123, 97, 114, 99, 104, 125] : List UInt8)] : List (List UInt8))
theorem QM {q0} (hm : Kk = some q0) (A : HH g h [] F) (hc : Ba (cfg.still 173) av = [] := by kernel_rfl) : ∃ v h', Bi cfg g h 173 av v h' ∧ ∃ (rq0 : Option Nat), v = AH rq0 q0.length ∧ HH g h' [.AK rq0 9 (AK eS q0)] F := by
 refine EN 2 [.tmp 0] hc ?_
 clear hc
 unfold Kk at hm
 refine bg 2 [] fun fr H => ?_
 refine AF 1 (B1 1 [] 2 H fun fr H => ?_)
 obtain ⟨h1, e1, A⟩ := A.pL 9 [.str ([46, 97, 114, 99, 104, 45, 105, 100, 115] : List UInt8), .str ([46, 98, 122, 114] : List UInt8), .str ([46, 98, 122, 114, 105, 103, 110, 111, 114, 101] : List UInt8), .str ([46, 98, 122, 114, 116, 97, 103, 115] : List UInt8), .str ([46, 99, 118, 115, 105, 103, 110, 111, 114, 101] : List UInt8), .str ([46, 103, 105, 116] : List UInt8), .str ([46, 103, 105, 116, 97, 116, 116, 114, 105, 98, 117, 116, 101, 115] : List UInt8), .str ([46, 103, 105, 116, 105, 103, 110, 111, 114, 101] : List UInt8), .str ([46, 103, 105, 116, 109, 111, 100, 117, 108, 101, 115] : List UInt8), .str ([46, 104, 103] : List UInt8), .str ([46, 104, 103, 105, 103, 110, 111, 114, 101] : List UInt8), .str ([46, 104, 103, 116, 97, 103, 115] : List UInt8), .str ([46, 115, 118, 110] : List UInt8), .str ([61, 82, 69, 76, 69, 65, 83, 69, 45, 73, 68] : List UInt8), .str ([61, 109, 101, 116, 97, 45, 117, 112, 100, 97, 116, 101] : List UInt8), .str ([61, 117, 112, 100, 97, 116, 101] : List UInt8), .str ([67, 86, 83] : List UInt8), .str ([82, 67, 83] : List UInt8), .str ([83, 67, 67, 83] : List UInt8), .str ([95, 100, 97, 114, 99, 115] : List UInt8), .str ([123, 97, 114, 99, 104, 125] : List UInt8)]
 refine BP 1 (AH (some h.size) (([([46, 97, 114, 99, 104, 45, 105, 100, 115] : List UInt8), ([46, 98, 122, 114] : List UInt8), ([46, 98, 122, 114, 105, 103, 110, 111, 114, 101] : List UInt8), ([46, 98, 122, 114, 116, 97, 103, 115] : List UInt8), ([46, 99, 118, 115, 105, 103, 110, 111, 114, 101] : List UInt8), ([46, 103, 105, 116] : List UInt8), ([46, 103, 105, 116, 97, 116, 116, 114, 105, 98, 117, 116, 101, 115] : List UInt8), ([46, 103, 105, 116, 105, 103, 110, 111, 114, 101] : List UInt8), ([46, 103, 105, 116, 109, 111, 100, 117, 108, 101, 115] : List UInt8), ([46, 104, 103] : List UInt8), ([46, 104, 103, 105, 103, 110, 111, 114, 101] : List UInt8), ([46, 104, 103, 116, 97, 103, 115] : List UInt8), ([46, 115, 118, 110] : List UInt8), ([61, 82, 69, 76, 69, 65, 83, 69, 45, 73, 68] : List UInt8), ([61, 109, 101, 116, 97, 45, 117, 112, 100, 97, 116, 101] : List UInt8), ([61, 117, 112, 100, 97, 116, 101] : List UInt8), ([67, 86, 83] : List UInt8), ([82, 67, 83] : List UInt8), ([83, 67, 67, 83] : List UInt8), ([95, 100, 97, 114, 99, 115] : List UInt8), ([123, 97, 114, 99, 104, 125] : List UInt8)] : List (List UInt8)).length)) e1 H fun fr t H => ?_
 refine AP 1 [(0, AH (some h.size) (([([46, 97, 114, 99, 104, 45, 105, 100, 115] : List UInt8), ([46, 98, 122, 114] : List UInt8), ([46, 98, 122, 114, 105, 103, 110, 111, 114, 101] : List UInt8), ([46, 98, 122, 114, 116, 97, 103, 115] : List UInt8), ([46, 99, 118, 115, 105, 103, 110, 111, 114, 101] : List UInt8), ([46, 103, 105, 116] : List UInt8), ([46, 103, 105, 116, 97, 116, 116, 114, 105, 98, 117, 116, 101, 115] : List UInt8), ([46, 103, 105, 116, 105, 103, 110, 111, 114, 101] : List UInt8), ([46, 103, 105, 116, 109, 111, 100, 117, 108, 101, 115] : List UInt8), ([46, 104, 103] : List UInt8), ([46, 104, 103, 105, 103, 110, 111, 114, 101] : List UInt8), ([46, 104, 103, 116, 97, 103, 115] : List UInt8), ([46, 115, 118, 110] : List UInt8), ([61, 82, 69, 76, 69, 65, 83, 69, 45, 73, 68] : List UInt8), ([61, 109, 101, 116, 97, 45, 117, 112, 100, 97, 116, 101] : List UInt8), ([61, 117, 112, 100, 97, 116, 101] : List UInt8), ([67, 86, 83] : List UInt8), ([82, 67, 83] : List UInt8), ([83, 67, 67, 83] : List UInt8), ([95, 100, 97, 114, 99, 115] : List UInt8), ([123, 97, 114, 99, 104, 125] : List UInt8)] : List (List UInt8)).length))] H fun fr H => AY ?_
 obtain rfl := Ag hm
 refine ⟨.inl rfl, AH (some h.size) (([([46, 97, 114, 99, 104, 45, 105, 100, 115] : List UInt8), ([46, 98, 122, 114] : List UInt8), ([46, 98, 122, 114, 105, 103, 110, 111, 114, 101] : List UInt8), ([46, 98, 122, 114, 116, 97, 103, 115] : List UInt8), ([46, 99, 118, 115, 105, 103, 110, 111, 114, 101] : List UInt8), ([46, 103, 105, 116] : List UInt8), ([46, 103, 105, 116, 97, 116, 116, 114, 105, 98, 117, 116, 101, 115] : List UInt8), ([46, 103, 105, 116, 105, 103, 110, 111, 114, 101] : List UInt8), ([46, 103, 105, 116, 109, 111, 100, 117, 108, 101, 115] : List UInt8), ([46, 104, 103] : List UInt8), ([46, 104, 103, 105, 103, 110, 111, 114, 101] : List UInt8), ([46, 104, 103, 116, 97, 103, 115] : List UInt8), ([46, 115, 118, 110] : List UInt8), ([61, 82, 69, 76, 69, 65, 83, 69, 45, 73, 68] : List UInt8), ([61, 109, 101, 116, 97, 45, 117, 112, 100, 97, 116, 101] : List UInt8), ([61, 117, 112, 100, 97, 116, 101] : List UInt8), ([67, 86, 83] : List UInt8), ([82, 67, 83] : List UInt8), ([83, 67, 67, 83] : List UInt8), ([95, 100, 97, 114, 99, 115] : List UInt8), ([123, 97, 114, 99, 104, 125] : List UInt8)] : List (List UInt8)).length), rH H, ?_⟩
 replace A : HH g h1 [.AK (some h.size) 9 (AK eS ([([46, 97, 114, 99, 104, 45, 105, 100, 115] : List UInt8), ([46, 98, 122, 114] : List UInt8), ([46, 98, 122, 114, 105, 103, 110, 111, 114, 101] : List UInt8), ([46, 98, 122, 114, 116, 97, 103, 115] : List UInt8), ([46, 99, 118, 115, 105, 103, 110, 111, 114, 101] : List UInt8), ([46, 103, 105, 116] : List UInt8), ([46, 103, 105, 116, 97, 116, 116, 114, 105, 98, 117, 116, 101, 115] : List UInt8), ([46, 103, 105, 116, 105, 103, 110, 111, 114, 101] : List UInt8), ([46, 103, 105, 116, 109, 111, 100, 117, 108, 101, 115] : List UInt8), ([46, 104, 103] : List UInt8), ([46, 104, 103, 105, 103, 110, 111, 114, 101] : List UInt8), ([46, 104, 103, 116, 97, 103, 115] : List UInt8), ([46, 115, 118, 110] : List UInt8), ([61, 82, 69, 76, 69, 65, 83, 69, 45, 73, 68] : List UInt8), ([61, 109, 101, 116, 97, 45, 117, 112, 100, 97, 116, 101] : List UInt8), ([61, 117, 112, 100, 97, 116, 101] : List UInt8), ([67, 86, 83] : List UInt8), ([82, 67, 83] : List UInt8), ([83, 67, 67, 83] : List UInt8), ([95, 100, 97, 114, 99, 115] : List UInt8), ([123, 97, 114, 99, 104, 125] : List UInt8)] : List (List UInt8)))] F := A
 exact ⟨some h.size, rfl, A⟩
def G4 (p0 : List UInt8) (p1 : List UInt8) : Option (Bool) :=
 (FP p0).bind fun x1 => (Ac x1 ((FP p1).bind fun x3 => some (!x3)) (some false) : Option (Bool)).bind fun x2 => some (x2 || (Op.bytesLess p0 p1))
theorem Ly {p0 p1 q0} (hm : G4 p0 p1 = some q0) (A : HH g h [] F) (hc : Ba (cfg.still 214) av = [.str p0, .str p1] := by kernel_rfl) : ∃ v h', Bi cfg g h 214 av v h' ∧ v = .bool q0 ∧ HH g h' [] F := by
 refine EN 17 [.tmp 4] hc ?_
 clear hc
 unfold G4 at hm
 refine bg 17 [(0, .str p0), (1, .str p1)] fun fr H => ?_
 refine AF 1 (B1 1 [] 13 H fun fr H => ?_)
 obtain ⟨x1, hx, hm⟩ := bind_some hm
 obtain ⟨v1, h1, hr, rfl, A1⟩ := Hw (av := [.str p0]) hx (A.cut 0)
 replace A := A.C4 A1
 refine Ap 1 [] 6 hr H fun fr t H => ?_
 refine AG 1 [(7, .bool x1)] H fun fr H => ?_
 obtain ⟨x2, ho, hm⟩ := bind_some hm
 refine A9 4 (fun fr' h' => Has fr' 17 [(0, .str p0), (1, .str p1), (11, .bool x2)] ∧ HH g h' [] F) ?_ ?_
 ·rcases AZ ho with ⟨hb, hm⟩ | ⟨hb, hm⟩
  ·replace H := H.kn 7 hb
   obtain ⟨x3, hx, hm⟩ := bind_some hm
   obtain ⟨v1, h3, hr, rfl, A1⟩ := Hw (av := [.str p1]) hx (A.cut 0)
   replace A := A.C4 A1
   refine Ap 1 [] 9 hr H fun fr t H => ?_
   refine AG 2 [(11, .bool (!x3))] H fun fr H => ?_
   obtain rfl := Ag hm
   exact at_nil ⟨H.ls, A⟩
  replace H := H.kn 7 hb
  refine AG 4 [(11, .bool false)] H fun fr H => ?_
  obtain rfl := Ag hm
  exact at_nil ⟨H.ls, A⟩
 clear A
 intro t fr h2 hK
 obtain ⟨H, A⟩ := hK
 refine AG 1 [(12, .bool x2)] H fun fr H => A9 4 (fun fr' h' => h2 = h' ∧ Has fr' 17 [(16, .bool (x2 || (Op.bytesLess p0 p1)))]) ?_ ?_
 ·cases hb : (x2 : Bool) with
  | true =>
   replace H := H.kn 12 hb
   exact AG 4 [(16, .bool true)] H fun fr H => BK H hb
  | false =>
   replace H := H.kn 12 hb
   exact AG 4 [(16, .bool (Op.bytesLess p0 p1))] H fun fr H => BK H hb
 intro t fr h' hK
 obtain ⟨e, H⟩ := hK
 subst e
 refine AP 1 [(4, .bool (x2 || (Op.bytesLess p0 p1)))] H fun fr H => AY ?_
 obtain rfl := Ag hm
 exact ⟨.inl rfl, _, rH H, rfl, A⟩
def Ee (p0 : List UInt8) : Option (Bool) :=
 some (!(p0 == p0))
theorem Gq {p0 q0} (hm : Ee p0 = some q0) (A : HH g h [] F) (hc : Ba (cfg.still 215) av = [.str p0] := by kernel_rfl) : ∃ v h', Bi cfg g h 215 av v h' ∧ v = .bool q0 ∧ HH g h' [] F := by
 refine EN 6 [.tmp 2] hc ?_
 clear hc
 unfold Ee at hm
 refine bg 6 [(0, .str p0)] fun fr H => ?_
 refine AF 1 (B1 1 [] 4 H fun fr H => AP 4 [(2, .bool (!(p0 == p0)))] H fun fr H => AY ?_)
 obtain rfl := Ag hm
 exact ⟨.inl rfl, _, rH H, rfl, A⟩
def DX (p0 : List (List UInt8)) (p1 : List UInt8) (s : Int × Int) : Option ((Int × Int) ⊕ ((Int))) :=
 match s with
 | (x1, x2) => Ac (decide (x1 < x2)) ((HO p0 (IntKind.i64.wrap (By .u64 (IntKind.u64.wrap (IntKind.i64.wrap (x1 + x2))) (1 : Int)))).bind fun x4 => (G4 x4 p1).bind fun x5 => Ac x5 (some (.inl (IntKind.i64.wrap ((IntKind.i64.wrap (By .u64 (IntKind.u64.wrap (IntKind.i64.wrap (x1 + x2))) (1 : Int))) + 1), x2))) (some (.inl (x1, IntKind.i64.wrap (By .u64 (IntKind.u64.wrap (IntKind.i64.wrap (x1 + x2))) (1 : Int)))))) (some (.inr x1))
def Cs (p0 : List (List UInt8)) (p1 : List UInt8) : Option (Int × Bool) :=
 (loop (DX p0 p1) ((0 : Int), (p0.length : Int))).bind fun x3 => (Ac (decide (x3 < (p0.length : Int))) ((HO p0 x3).bind fun x7 => (Ac (x7 == p1) (some true) ((HO p0 x3).bind fun x9 => (Ee x9).bind fun x10 => (Ac x10 ((Ee p1).bind fun x12 => some x12) (some false) : Option (Bool)).bind fun x11 => some x11) : Option (Bool)).bind fun x8 => some x8) (some false) : Option (Bool)).bind fun x6 => some (x3, x6)
theorem Fc {p0 p1 rp0 q0 q1} (hm : Cs p0 p1 = some (q0, q1)) (A : HH g h [.AK rp0 9 (AK eS p0)] F) (hc : Ba (cfg.still 172) av = [AH rp0 p0.length, .str p1] := by kernel_rfl) : ∃ v h', Bi cfg g h 172 av v h' ∧ v = .tuple [Ai q0, .bool q1] ∧ HH g h' [.AK rp0 9 (AK eS p0)] F := by
 refine EN 54 [.tmp 4, .tmp 5] hc ?_
 clear hc
 unfold Cs at hm
 refine bg 54 [(0, AH rp0 p0.length), (1, .str p1)] fun fr H => ?_
 refine AF 2 (B1 2 [] 3 H fun fr H => B1 3 [(6, Ai (p0.length : Int))] 3 H fun fr H => AP 3 [(7, Ai 0), (8, Ai (p0.length : Int))] H fun fr H => AR (Af (id := 0) (by kernel_rfl) ?_))
 obtain ⟨o1, ho, hm⟩ := bind_some hm
 refine BU (Q' := fun e fr' h' => (∃ x3, e = .exit 0 ∧ x3 = o1 ∧ Has fr' 54 [(0, AH rp0 p0.length), (1, .str p1), (6, Ai (p0.length : Int)), (7, Ai x3)] ∧ HH g h' [.AK rp0 9 (AK eS p0)] F) ∨ False) ?_ ?_
 ·refine CH (by kernel_rfl) (fun (s : Int × Int) fr' h' => ∃ x1 x2, (x1, x2) = s ∧ Has fr' 54 [(0, AH rp0 p0.length), (1, .str p1), (6, Ai (p0.length : Int)), (7, Ai x1), (8, Ai x2)] ∧ HH g h' [.AK rp0 9 (AK eS p0)] F) ho ⟨_, _, rfl, H.ls, A⟩ ?_
  clear ho hm H A
  intro s q fr h1 hI hm
  obtain ⟨x1, x2, rfl, H, A⟩ := hI
  unfold DX at hm
  refine AR (AF 3 (AP 3 [(15, .bool (decide (x1 < x2)))] H fun fr H => Ae 15 H hm (fun hb hm H => ?_) fun hb hm H => ?_))
  ·refine B0 id (Af (id := 1) (by kernel_rfl) ?_)
   refine AF 7 (B1 7 [(9, Ai (IntKind.i64.wrap (By .u64 (IntKind.u64.wrap (IntKind.i64.wrap (x1 + x2))) (1 : Int))))] 6 H fun fr H => ?_)
   obtain ⟨x4, hx, hm⟩ := bind_some hm
   obtain ⟨i1, er1, _, hx, hq1⟩ := HH.Nk encS (by decide) A 0 (xs := p0) rfl hx
   refine BA 2 [] 24 (.ptr (some (i1, (IntKind.i64.wrap (By .u64 (IntKind.u64.wrap (IntKind.i64.wrap (x1 + x2))) (1 : Int))).toNat * 1))) h1 H (fun fr => .of (Fg (s := De rp0 p0.length) (by kernel_rfl) hx)) fun fr t H => ?_
   refine As 25 _ _ H (fun fr => .of (EP (by kernel_rfl) (Fw encS (HH.row A 0 rfl er1) hq1 (o := 0) rfl))) fun fr t H => ?_
   obtain ⟨x5, hx, hm⟩ := bind_some hm
   obtain ⟨v1, h2, hr, rfl, A1⟩ := Ly (av := [.str x4, .str p1]) hx (A.cut 0)
   replace A := A.C4 A1
   refine Ap 1 [] 27 hr H fun fr t H => ?_
   refine BD id (Ae 27 H hm (fun hb hm H => ?_) fun hb hm H => ?_)
   ·refine DQ 3 (BV 3 [(0, AH rp0 p0.length), (1, .str p1), (6, Ai (p0.length : Int)), (7, Ai (IntKind.i64.wrap ((IntKind.i64.wrap (By .u64 (IntKind.u64.wrap (IntKind.i64.wrap (x1 + x2))) (1 : Int))) + 1))), (8, Ai x2)] H fun fr H => at_nil ?_)
    exact nx hm ⟨_, _, rfl, H.ls, A⟩
   refine DQ 2 (BV 2 [(0, AH rp0 p0.length), (1, .str p1), (6, Ai (p0.length : Int)), (7, Ai x1), (8, Ai (IntKind.i64.wrap (By .u64 (IntKind.u64.wrap (IntKind.i64.wrap (x1 + x2))) (1 : Int))))] H fun fr H => at_nil ?_)
   exact nx hm ⟨_, _, rfl, H.ls, A⟩
  refine Bz (i := 0) (by kernel_rfl) ?_
  exact nr hm fun e => .inl ⟨_, rfl, e, H.ls, A⟩
 clear ho
 clear A
 intro e fr h3 hQ
 rcases hQ with ⟨x3, rfl, rfl, H, A⟩ | hF
 ·show AW _ _ _ _ _ _ _
  refine AF 25 (AG 5 [(31, Ai x3), (35, .bool (decide (x3 < (p0.length : Int))))] H fun fr H => ?_)
  obtain ⟨x6, ho, hm⟩ := bind_some hm
  refine A9 18 (fun fr' h' => Has fr' 54 [(31, Ai x3), (53, .bool x6)] ∧ HH g h' [.AK rp0 9 (AK eS p0)] F) ?_ ?_
  ·rcases AZ ho with ⟨hb, hm⟩ | ⟨hb, hm⟩
   ·replace H := H.kn 35 hb
    obtain ⟨x7, hx, hm⟩ := bind_some hm
    obtain ⟨i2, er2, _, hx, hq2⟩ := HH.Nk encS (by decide) A 0 (xs := p0) rfl hx
    refine BA 2 [] 38 (.ptr (some (i2, x3.toNat * 1))) h3 H (fun fr => .of (Fg (s := De rp0 p0.length) (by kernel_rfl) hx)) fun fr t H => ?_
    refine As 39 _ _ H (fun fr => .of (EP (by kernel_rfl) (Fw encS (HH.row A 0 rfl er2) hq2 (o := 0) rfl))) fun fr t H => ?_
    refine AG 3 [(42, .bool (x7 == p1))] H fun fr H => ?_
    obtain ⟨x8, ho, hm⟩ := bind_some hm
    refine A9 10 (fun fr' h' => Has fr' 54 [(31, Ai x3), (35, .bool true), (52, .bool x8)] ∧ HH g h' [.AK rp0 9 (AK eS p0)] F) ?_ ?_
    ·rcases AZ ho with ⟨hb, hm⟩ | ⟨hb, hm⟩
     ·replace H := H.kn 42 hb
      refine AG 10 [(52, .bool true)] H fun fr H => ?_
      obtain rfl := Ag hm
      exact at_nil ⟨H.ls, A⟩
     replace H := H.kn 42 hb
     obtain ⟨x9, hx, hm⟩ := bind_some hm
     obtain ⟨i3, er3, _, hx, hq3⟩ := HH.Nk encS (by decide) A 0 (xs := p0) rfl hx
     refine BA 2 [] 45 (.ptr (some (i3, x3.toNat * 1))) h3 H (fun fr => .of (Fg (s := De rp0 p0.length) (by kernel_rfl) hx)) fun fr t H => ?_
     refine As 46 _ _ H (fun fr => .of (EP (by kernel_rfl) (Fw encS (HH.row A 0 rfl er3) hq3 (o := 0) rfl))) fun fr t H => ?_
     obtain ⟨x10, hx, hm⟩ := bind_some hm
     obtain ⟨v1, h6, hr, rfl, A1⟩ := Gq (av := [.str x9]) hx (A.cut 0)
     replace A := A.C4 A1
     refine A8 47 hr H fun fr t H => ?_
     refine AG 1 [(48, .bool x10)] H fun fr H => ?_
     obtain ⟨x11, ho, hm⟩ := bind_some hm
     refine A9 3 (fun fr' h' => Has fr' 54 [(31, Ai x3), (35, .bool true), (42, .bool false), (51, .bool x11)] ∧ HH g h' [.AK rp0 9 (AK eS p0)] F) ?_ ?_
     ·rcases AZ ho with ⟨hb, hm⟩ | ⟨hb, hm⟩
      ·replace H := H.kn 48 hb
       obtain ⟨x12, hx, hm⟩ := bind_some hm
       obtain ⟨v1, h8, hr, rfl, A1⟩ := Gq (av := [.str p1]) hx (A.cut 0)
       replace A := A.C4 A1
       refine Ap 1 [] 50 hr H fun fr t H => ?_
       refine AG 1 [(51, .bool x12)] H fun fr H => ?_
       obtain rfl := Ag hm
       exact at_nil ⟨H.ls, A⟩
      replace H := H.kn 48 hb
      refine AG 3 [(51, .bool false)] H fun fr H => ?_
      obtain rfl := Ag hm
      exact at_nil ⟨H.ls, A⟩
     clear A
     intro t fr h7 hK
     obtain ⟨H, A⟩ := hK
     refine AG 1 [(52, .bool x11)] H fun fr H => ?_
     obtain rfl := Ag hm
     exact at_nil ⟨H.ls, A⟩
    clear A
    intro t fr h5 hK
    obtain ⟨H, A⟩ := hK
    refine AG 1 [(53, .bool x8)] H fun fr H => ?_
    obtain rfl := Ag hm
    exact at_nil ⟨H.ls, A⟩
   replace H := H.kn 35 hb
   refine AG 18 [(53, .bool false)] H fun fr H => ?_
   obtain rfl := Ag hm
   exact at_nil ⟨H.ls, A⟩
  clear A
  intro t fr h4 hK
  obtain ⟨H, A⟩ := hK
  refine AP 2 [(4, Ai x3), (5, .bool x6)] H fun fr H => AY ?_
  obtain ⟨rfl, rfl⟩ := B6 hm
  exact ⟨.inl rfl, _, rH H, rfl, A⟩
 exact hF.elim
def Ks (p0 : List UInt8) : Option (Bool) :=
 (Kk).bind fun x1 => (Cs x1 p0).bind fun (x2, x3) => some x3
theorem QB {p0 q0} (hm : Ks p0 = some q0) (A : HH g h [] F) (hc : Ba (cfg.still 117) av = [.str p0] := by kernel_rfl) : ∃ v h', Bi cfg g h 117 av v h' ∧ v = .bool q0 ∧ HH g h' [] F := by
 refine EN 12 [.tmp 2] hc ?_
 clear hc
 unfold Ks at hm
 refine bg 12 [(0, .str p0)] fun fr H => ?_
 refine AF 1 (B1 1 [] 8 H fun fr H => ?_)
 obtain ⟨x1, hx, hm⟩ := bind_some hm
 obtain ⟨v1, h1, hr, rqw1, rfl, A1⟩ := QM (av := []) hx (A.cut 0)
 replace A := A.Ve A1
 refine A8 6 hr H fun fr t H => ?_
 obtain ⟨⟨x2, x3⟩, hx, hm⟩ := bind_some hm
 obtain ⟨v1, h2, hr, rfl, A1⟩ := Fc (av := [AH rqw1 x1.length, .str p0]) hx (A.cut 1)
 replace A := A.g11 A1
 refine Ap 1 [] 8 hr H fun fr t H => ?_
 refine B1 5 [(4, .bool x3)] 2 H fun fr H => AP 2 [(2, .bool x3)] H fun fr H => AY ?_
 obtain rfl := Ag hm
 refine ⟨.inl rfl, .bool x3, rH H, ?_⟩
 replace A := A.d0
 exact ⟨rfl, A⟩
def Kt (x1 : List (List UInt8)) (s : Int) : Option ((Int) ⊕ ((Unit) ⊕ ((List UInt8) × Bool))) :=
 match s with
 | x2 => Ac (decide (x2 < (x1.length : Int))) ((HO x1 x2).bind fun x5 => (Ks x5).bind fun x6 => Ac x6 (some (.inr (.inr (x5, true)))) (some (.inl (IntKind.i64.wrap (x2 + 1))))) (some (.inr (.inl ())))
def KV (p0 : List UInt8) : Option ((List UInt8) × Bool) :=
 (JG p0).bind fun x1 => (loop (Kt x1) (0 : Int)).bind fun o1 => (match o1 with | .inl _ => some (([] : List UInt8), false) | .inr (x3, x4) => some (x3, x4))
theorem Ph {p0 q0 q1} (hm : KV p0 = some (q0, q1)) (A : HH g h [] F) (hc : Ba (cfg.still 73) av = [.str p0] := by kernel_rfl) : ∃ v h', Bi cfg g h 73 av v h' ∧ v = .tuple [.str q0, .bool q1] ∧ HH g h' [] F := by
 refine EN 17 [.tmp 2, .tmp 3] hc ?_
 clear hc
 unfold KV at hm
 refine bg 17 [(0, .str p0)] fun fr H => ?_
 refine AF 2 (AP 2 [] H fun fr H => AR (AF 4 ?_))
 obtain ⟨x1, hx, hm⟩ := bind_some hm
 obtain ⟨v1, h1, hr, rfl, A1⟩ := Ny (av := [.str p0]) hx (A.cut 0)
 replace A := A.C4 A1
 refine Ap 1 [] 7 hr H fun fr t H => ?_
 refine AP 2 [(8, Ai (x1.length : Int)), (9, Ai 0)] H fun fr H => Af (id := 0) (by kernel_rfl) ?_
 obtain ⟨o1, ho, hm⟩ := bind_some hm
 refine BU (Q' := fun e fr' h' => (e = .exit 0 ∧ .inl () = o1 ∧ Has fr' 17 [] ∧ HH g h' [] F) ∨ (∃ x3 x4, e = .ret ∧ .inr (x3, x4) = o1 ∧ Has fr' 17 [(2, .str x3), (3, .bool x4)] ∧ HH g h' [] F) ∨ False) ?_ ?_
 ·refine CH (by kernel_rfl) (fun (s : Int) fr' h' => ∃ x2, x2 = s ∧ Has fr' 17 [(7, vs eS x1), (8, Ai (x1.length : Int)), (9, Ai x2)] ∧ HH g h' [] F) ho ⟨_, rfl, H.ls, A⟩ ?_
  clear ho hm H A
  intro s q fr h2 hI hm
  obtain ⟨x2, rfl, H, A⟩ := hI
  unfold Kt at hm
  refine AF 1 (AP 1 [(10, .bool (decide (x2 < (x1.length : Int))))] H fun fr H => AR (Ae 10 H hm (fun hb hm H => ?_) fun hb hm H => ?_))
  ·refine B0 id (AR (Af (id := 1) (by kernel_rfl) ?_))
   refine AF 3 ?_
   obtain ⟨x5, hx, hm⟩ := bind_some hm
   refine As 11 (.BR [.str x5]) h2 H (fun fr => .of (RM (e := eS) (x := x5) encS (by decide) (by kernel_rfl) hx)) fun fr t H => ?_
   refine As 12 (.str x5) h2 H (fun fr => .of (Lp (by kernel_rfl))) fun fr t H => ?_
   refine B1 1 [(5, .str x5)] 2 H fun fr H => ?_
   obtain ⟨x6, hx, hm⟩ := bind_some hm
   obtain ⟨v1, h3, hr, rfl, A1⟩ := QB (av := [.str x5]) hx (A.cut 0)
   replace A := A.C4 A1
   refine Ap 1 [] 14 hr H fun fr t H => ?_
   refine BD id (Ae 14 H hm (fun hb hm H => ?_) fun hb hm H => ?_)
   ·refine AF 3 (AP 3 [(2, .str x5), (3, .bool true)] H fun fr H => AY ?_)
    exact nr hm fun e => Or.inr (.inl ⟨_, _, rfl, e, H.ls, A⟩)
   refine F3 2 id (BV 2 [(7, vs eS x1), (8, Ai (x1.length : Int)), (9, Ai (IntKind.i64.wrap (x2 + 1)))] H fun fr H => at_nil ?_)
   exact nx hm ⟨_, rfl, H.ls, A⟩
  refine Bz (i := 0) (by kernel_rfl) ?_
  exact nr hm fun e => .inl ⟨rfl, e, H.ls, A⟩
 clear ho
 clear A
 intro e fr h4 hQ
 rcases hQ with ⟨rfl, rfl, H, A⟩ | ⟨x3, x4, rfl, rfl, H, A⟩ | hF
 ·show AW _ _ _ _ _ _ _
  refine AF 2 (AP 2 [(2, .str ([] : List UInt8)), (3, .bool false)] H fun fr H => AY ?_)
  obtain ⟨rfl, rfl⟩ := B6 hm
  exact ⟨.inl rfl, _, rH H, rfl, A⟩
 ·obtain ⟨rfl, rfl⟩ := B6 hm
  exact ⟨.inl rfl, _, rH H, rfl, A⟩
 exact hF.elim
def EB (p0 : B2) (p1 : Bk) : Option (Int) :=
 (E6 p0.Ak p1.Name).bind fun (x1, x2) => Ac x2 (some (1 : Int)) ((KV p1.Name).bind fun (x3, x4) => Ac (x4 && p0.c_.FT) (some (2 : Int)) (Ac p0.c_.Ay (none) (some (0 : Int))))
theorem Hj {p0 p1 bp0 rp0_14 rp0_15 bp0_16 rp0_16_0 bp0_17 q0} (hm : EB p0 p1 = some q0) (A : HH g h [.obj bp0 (.cells none 2 [vs AA p0.c_.AQ, vs AA p0.c_.AS, vs AL p0.c_.Bt, .bool p0.c_.FT, .bool p0.c_.Ay, Ai p0.c_.BN, .bool p0.c_.Be, Ai p0.c_.An.CX, Ai p0.c_.An.BS, Ai p0.c_.Eu, Ai p0.c_.Bf, Ai p0.c_.Name, Ai p0.c_.Head, Ai p0.c_.BF, AH rp0_14 p0.Aj.length, AH rp0_15 p0.Ak.length, .ptr (some (bp0_16, 0)), .ptr (some (bp0_17, 0))]), .AK rp0_14 93 (AK (eP AE) p0.Aj), .AK rp0_15 93 (AK (eP AE) p0.Ak), .obj bp0_16 (.cells none 2 [AH rp0_16_0 p0.Aq.l_.length, Ai p0.Aq.Cm]), .AK rp0_16_0 99 (AK (eP AU) p0.Aq.l_), .obj bp0_17 (.cells none 2 ([Ai p0.Ar.n_, Ai p0.Ar.Az] ++ (DC 257 (AB.int .i64) p0.Ar.Bl ++ [])))] F) (hc : Ba (cfg.still 24) av = [.ptr (some (bp0, 0)), .agg (Aa p1)] := by kernel_rfl) : ∃ v h', Bi cfg g h 24 av v h' ∧ v = Ai q0 ∧ HH g h' [.obj bp0 (.cells none 2 [vs AA p0.c_.AQ, vs AA p0.c_.AS, vs AL p0.c_.Bt, .bool p0.c_.FT, .bool p0.c_.Ay, Ai p0.c_.BN, .bool p0.c_.Be, Ai p0.c_.An.CX, Ai p0.c_.An.BS, Ai p0.c_.Eu, Ai p0.c_.Bf, Ai p0.c_.Name, Ai p0.c_.Head, Ai p0.c_.BF, AH rp0_14 p0.Aj.length, AH rp0_15 p0.Ak.length, .ptr (some (bp0_16, 0)), .ptr (some (bp0_17, 0))]), .AK rp0_14 93 (AK (eP AE) p0.Aj), .AK rp0_15 93 (AK (eP AE) p0.Ak), .obj bp0_16 (.cells none 2 [AH rp0_16_0 p0.Aq.l_.length, Ai p0.Aq.Cm]), .AK rp0_16_0 99 (AK (eP AU) p0.Aq.l_), .obj bp0_17 (.cells none 2 ([Ai p0.Ar.n_, Ai p0.Ar.Az] ++ (DC 257 (AB.int .i64) p0.Ar.Bl ++ [])))] F := by
 refine EN 44 [.tmp 4] hc ?_
 clear hc
 unfold EB at hm
 refine bg 44 [(0, .ptr (some (bp0, 0))), (1, .agg (Aa p1))] fun fr H => ?_
 refine AF 2 ?_
 obtain ⟨h1, e1, A⟩ := A.pu (.cells none 2 (Aa p1))
 refine BP 3 (.ptr (some (h.size, 0))) e1 H fun fr t H => ?_
 refine AP 1 [] H fun fr H => AR (AR (Df 1 12 ?_))
 refine Ah 3 [] 13 1 15 A H fun fr t H => ?_
 refine Ah 1 [] 15 0 0 A H fun fr t H => ?_
 replace A : HH g h1 [_, .obj h.size (.cells none 2 (Aa p1)), _, _, _, _, _] F := (A.front 3 rfl)
 obtain ⟨⟨x1, x2⟩, hx, hm⟩ := bind_some hm
 obtain ⟨v1, h2, hr, rfl, A1⟩ := Hg (av := [AH rp0_15 p0.Ak.length, .str p1.Name]) hx (A.cut 1)
 replace A := A.g11 A1
 refine A8 16 hr H fun fr t H => ?_
 refine B1 5 [(6, .bool x2)] 1 H fun fr H => AP 1 [(19, .bool x2)] H fun fr H => Ae 19 H hm (fun hb hm H => ?_) fun hb hm H => ?_
 ·refine AF 1 (AP 1 [(4, Ai 1)] H fun fr H => AY ?_)
  obtain rfl := Ag hm
  refine ⟨.inl rfl, Ai 1, rH H, ?_⟩
  replace A := A.k6 2 3 0 4 5 6
  exact ⟨rfl, A⟩
 refine B0 id (AR (AF 8 (Ah 1 [] 22 1 0 A H fun fr t H => ?_)))
 obtain ⟨⟨x3, x4⟩, hx, hm⟩ := bind_some hm
 obtain ⟨v1, h3, hr, rfl, A1⟩ := Ph (av := [.str p1.Name]) hx (A.cut 0)
 replace A := A.C4 A1
 refine A8 23 hr H fun fr t H => ?_
 refine B1 5 [(8, .bool x4)] 8 H fun fr H => AG 2 [(27, .bool x4)] H fun fr H => A9 6 (fun fr' h' => h3 = h' ∧ Has fr' 44 [(0, .ptr (some (bp0, 0))), (3, .ptr (some (h.size, 0))), (33, .bool (x4 && p0.c_.FT))]) ?_ ?_
 ·cases hb : (x4 : Bool) with
  | true =>
   replace H := H.kn 27 hb
   refine Ah 4 [] 32 2 3 A H fun fr t H => ?_
   exact AG 1 [(33, .bool p0.c_.FT)] H fun fr H => BK H hb
  | false =>
   replace H := H.kn 27 hb
   exact AG 6 [(33, .bool false)] H fun fr H => BK H hb
 intro t fr h' hK
 obtain ⟨e, H⟩ := hK
 subst e
 refine BD id (Ae 33 H hm (fun hb hm H => ?_) fun hb hm H => ?_)
 ·refine AF 1 (AP 1 [(4, Ai 2)] H fun fr H => AY ?_)
  obtain rfl := Ag hm
  refine ⟨.inl rfl, Ai 2, rH H, ?_⟩
  replace A := A.k6 2 3 0 4 5 6
  exact ⟨rfl, A⟩
 refine B0 id (AR (AF 10 (Ah 4 [] 38 2 4 A H fun fr t H => ?_)))
 refine AG 1 [(39, .bool p0.c_.Ay)] H fun fr H => ?_
 rcases AZ hm with ⟨hb, hm⟩ | ⟨hb, hm⟩
 ·replace H := H.kn 39 hb
  refine Ah 1 [] 41 1 0 A H fun fr t H => ?_
  cases hm
 replace H := H.kn 39 hb
 refine AP 4 [(43, .bool false)] H fun fr H => Jj (x := .tmp 43) (by kernel_rfl) H (fun fr => by kernel_rfl) ?_
 refine CN 1 id (AP 1 [(4, Ai 0)] H fun fr H => AY ?_)
 obtain rfl := Ag hm
 refine ⟨.inl rfl, Ai 0, rH H, ?_⟩
 replace A := A.k6 2 3 0 4 5 6
 exact ⟨rfl, A⟩
def DT (p0 : Bk) (p2_0 : B2) : Option (Int) :=
 some (0 : Int)
theorem Gm {p0 p2_0 bp1 bp2 bp2_0 rp2_0_14 rp2_0_15 bp2_0_16 rp2_0_16_0 bp2_0_17 q0} (hm : DT p0 p2_0 = some q0) (A : HH g h [.obj bp1 (.cells none 2 [.ptr none]), .obj bp2 (.cells none 2 [.ptr (some (bp2_0, 0))]), .obj bp2_0 (.cells none 2 [vs AA p2_0.c_.AQ, vs AA p2_0.c_.AS, vs AL p2_0.c_.Bt, .bool p2_0.c_.FT, .bool p2_0.c_.Ay, Ai p2_0.c_.BN, .bool p2_0.c_.Be, Ai p2_0.c_.An.CX, Ai p2_0.c_.An.BS, Ai p2_0.c_.Eu, Ai p2_0.c_.Bf, Ai p2_0.c_.Name, Ai p2_0.c_.Head, Ai p2_0.c_.BF, AH rp2_0_14 p2_0.Aj.length, AH rp2_0_15 p2_0.Ak.length, .ptr (some (bp2_0_16, 0)), .ptr (some (bp2_0_17, 0))]), .AK rp2_0_14 93 (AK (eP AE) p2_0.Aj), .AK rp2_0_15 93 (AK (eP AE) p2_0.Ak), .obj bp2_0_16 (.cells none 2 [AH rp2_0_16_0 p2_0.Aq.l_.length, Ai p2_0.Aq.Cm]), .AK rp2_0_16_0 99 (AK (eP AU) p2_0.Aq.l_), .obj bp2_0_17 (.cells none 2 ([Ai p2_0.Ar.n_, Ai p2_0.Ar.Az] ++ (DC 257 (AB.int .i64) p2_0.Ar.Bl ++ [])))] F) (hc : Ba (cfg.still 22) av = [.agg (Aa p0), .ptr (some (bp1, 0)), .ptr (some (bp2, 0))] := by kernel_rfl) : ∃ v h', Bi cfg g h 22 av v h' ∧ v = Ai q0 ∧ HH g h' [.obj bp1 (.cells none 2 [.ptr none]), .obj bp2 (.cells none 2 [.ptr (some (bp2_0, 0))]), .obj bp2_0 (.cells none 2 [vs AA p2_0.c_.AQ, vs AA p2_0.c_.AS, vs AL p2_0.c_.Bt, .bool p2_0.c_.FT, .bool p2_0.c_.Ay, Ai p2_0.c_.BN, .bool p2_0.c_.Be, Ai p2_0.c_.An.CX, Ai p2_0.c_.An.BS, Ai p2_0.c_.Eu, Ai p2_0.c_.Bf, Ai p2_0.c_.Name, Ai p2_0.c_.Head, Ai p2_0.c_.BF, AH rp2_0_14 p2_0.Aj.length, AH rp2_0_15 p2_0.Ak.length, .ptr (some (bp2_0_16, 0)), .ptr (some (bp2_0_17, 0))]), .AK rp2_0_14 93 (AK (eP AE) p2_0.Aj), .AK rp2_0_15 93 (AK (eP AE) p2_0.Ak), .obj bp2_0_16 (.cells none 2 [AH rp2_0_16_0 p2_0.Aq.l_.length, Ai p2_0.Aq.Cm]), .AK rp2_0_16_0 99 (AK (eP AU) p2_0.Aq.l_), .obj bp2_0_17 (.cells none 2 ([Ai p2_0.Ar.n_, Ai p2_0.Ar.Az] ++ (DC 257 (AB.int .i64) p2_0.Ar.Bl ++ [])))] F := by
 refine EN 18 [.tmp 4] hc ?_
 clear hc
 unfold DT at hm
 refine bg 18 [(0, .agg (Aa p0)), (1, .ptr (some (bp1, 0))), (2, .ptr (some (bp2, 0)))] fun fr H => ?_
 refine AF 2 ?_
 obtain ⟨h1, e1, A⟩ := A.pu (.cells none 2 (Aa p0))
 refine BP 3 (.ptr (some (h.size, 0))) e1 H fun fr t H => ?_
 refine AP 1 [] H fun fr H => AR (AR (Df 1 13 ?_))
 refine GI 5 1 0 A H fun fr t H => ?_
 refine AP 12 [(17, .bool false)] H fun fr H => Jj (x := .tmp 17) (by kernel_rfl) H (fun fr => by kernel_rfl) ?_
 refine CN 1 id (AP 1 [(4, Ai 0)] H fun fr H => AY ?_)
 obtain rfl := Ag hm
 refine ⟨.inl rfl, Ai 0, rH H, ?_⟩
 replace A := A.k8 1 2 3 4 5 6 7 8
 exact ⟨rfl, A⟩
def EM (p0 : B2) (p1 : Bk) : Option (Int) :=
 Ac (p0.c_.Be && (p1.Kind != 53)) (none) (some (0 : Int))
theorem Hu {p0 p1 bp0 rp0_14 rp0_15 bp0_16 rp0_16_0 bp0_17 q0} (hm : EM p0 p1 = some q0) (A : HH g h [.obj bp0 (.cells none 2 [vs AA p0.c_.AQ, vs AA p0.c_.AS, vs AL p0.c_.Bt, .bool p0.c_.FT, .bool p0.c_.Ay, Ai p0.c_.BN, .bool p0.c_.Be, Ai p0.c_.An.CX, Ai p0.c_.An.BS, Ai p0.c_.Eu, Ai p0.c_.Bf, Ai p0.c_.Name, Ai p0.c_.Head, Ai p0.c_.BF, AH rp0_14 p0.Aj.length, AH rp0_15 p0.Ak.length, .ptr (some (bp0_16, 0)), .ptr (some (bp0_17, 0))]), .AK rp0_14 93 (AK (eP AE) p0.Aj), .AK rp0_15 93 (AK (eP AE) p0.Ak), .obj bp0_16 (.cells none 2 [AH rp0_16_0 p0.Aq.l_.length, Ai p0.Aq.Cm]), .AK rp0_16_0 99 (AK (eP AU) p0.Aq.l_), .obj bp0_17 (.cells none 2 ([Ai p0.Ar.n_, Ai p0.Ar.Az] ++ (DC 257 (AB.int .i64) p0.Ar.Bl ++ [])))] F) (hc : Ba (cfg.still 25) av = [.ptr (some (bp0, 0)), .agg (Aa p1)] := by kernel_rfl) : ∃ v h', Bi cfg g h 25 av v h' ∧ v = Ai q0 ∧ HH g h' [.obj bp0 (.cells none 2 [vs AA p0.c_.AQ, vs AA p0.c_.AS, vs AL p0.c_.Bt, .bool p0.c_.FT, .bool p0.c_.Ay, Ai p0.c_.BN, .bool p0.c_.Be, Ai p0.c_.An.CX, Ai p0.c_.An.BS, Ai p0.c_.Eu, Ai p0.c_.Bf, Ai p0.c_.Name, Ai p0.c_.Head, Ai p0.c_.BF, AH rp0_14 p0.Aj.length, AH rp0_15 p0.Ak.length, .ptr (some (bp0_16, 0)), .ptr (some (bp0_17, 0))]), .AK rp0_14 93 (AK (eP AE) p0.Aj), .AK rp0_15 93 (AK (eP AE) p0.Ak), .obj bp0_16 (.cells none 2 [AH rp0_16_0 p0.Aq.l_.length, Ai p0.Aq.Cm]), .AK rp0_16_0 99 (AK (eP AU) p0.Aq.l_), .obj bp0_17 (.cells none 2 ([Ai p0.Ar.n_, Ai p0.Ar.Az] ++ (DC 257 (AB.int .i64) p0.Ar.Bl ++ [])))] F := by
 refine EN 26 [.tmp 4] hc ?_
 clear hc
 unfold EM at hm
 refine bg 26 [(0, .ptr (some (bp0, 0))), (1, .agg (Aa p1))] fun fr H => ?_
 refine AF 2 ?_
 obtain ⟨h1, e1, A⟩ := A.pu (.cells none 2 (Aa p1))
 refine BP 3 (.ptr (some (h.size, 0))) e1 H fun fr t H => ?_
 refine AP 1 [] H fun fr H => AR (AR (Df 1 21 ?_))
 refine Ah 4 [] 9 1 6 A H fun fr t H => ?_
 refine AG 1 [(10, .bool p0.c_.Be)] H fun fr H => A9 4 (fun fr' h' => h1 = h' ∧ Has fr' 26 [(0, .ptr (some (bp0, 0))), (3, .ptr (some (h.size, 0))), (14, .bool (p0.c_.Be && (p1.Kind != 53)))]) ?_ ?_
 ·cases hb : (p0.c_.Be : Bool) with
  | true =>
   replace H := H.kn 10 hb
   refine Ah 1 [] 12 0 2 A H fun fr t H => ?_
   exact AG 2 [(14, .bool (p1.Kind != 53))] H fun fr H => BK H hb
  | false =>
   replace H := H.kn 10 hb
   exact AG 4 [(14, .bool false)] H fun fr H => BK H hb
 intro t fr h' hK
 obtain ⟨e, H⟩ := hK
 subst e
 refine AG 1 [(15, .bool (p0.c_.Be && (p1.Kind != 53)))] H fun fr H => ?_
 rcases AZ hm with ⟨hb, hm⟩ | ⟨hb, hm⟩
 ·replace H := H.kn 15 hb
  refine BA 1 [] 17 _ _ H (fun fr => .of (B3 (by kernel_rfl) (A.F5 0 rfl (o := 10) (n := 2) ⟨Nat.le_of_ble_eq_true rfl, rfl⟩))) fun fr t H => ?_
  refine BA 4 [] 22 _ _ H (fun fr => .of (B3 (by kernel_rfl) (A.F5 1 rfl (o := 7) (n := 2) ⟨Nat.le_of_ble_eq_true rfl, rfl⟩))) fun fr t H => ?_
  cases hm
 replace H := H.kn 15 hb
 refine AP 10 [(25, .bool false)] H fun fr H => Jj (x := .tmp 25) (by kernel_rfl) H (fun fr => by kernel_rfl) ?_
 refine CN 1 id (AP 1 [(4, Ai 0)] H fun fr H => AY ?_)
 obtain rfl := Ag hm
 refine ⟨.inl rfl, Ai 0, rH H, ?_⟩
 replace A := A.k6 1 2 3 4 5 6
 exact ⟨rfl, A⟩
def FB (p0 : List UInt8) (p1 : Int) : Option (Int) :=
 (Km p0 p1).bind fun x1 => some x1
theorem JM {p0 p1 q0} (hm : FB p0 p1 = some q0) (A : HH g h [] F) (hc : Ba (cfg.still 127) av = [.str p0, Ab p1] := by kernel_rfl) : ∃ v h', Bi cfg g h 127 av v h' ∧ v = Ai q0 ∧ HH g h' [] F := by
 refine EN 8 [.tmp 4] hc ?_
 clear hc
 unfold FB at hm
 refine bg 8 [(0, .str p0), (1, Ab p1)] fun fr H => ?_
 refine AF 1 (B1 1 [] 4 H fun fr H => ?_)
 obtain ⟨x1, hx, hm⟩ := bind_some hm
 refine BA 2 [] 7 (Ai x1) h H (fun fr => Steps.call (by kernel_rfl) (U5 (C := cfg) (f := 181) (by kernel_rfl) (l := exts) rfl (by kernel_rfl) hx)) fun fr t H => ?_
 refine AP 1 [(4, Ai x1)] H fun fr H => AY ?_
 obtain rfl := Ag hm
 exact ⟨.inl rfl, _, rH H, rfl, A⟩
end
end Go.Av.L
