/-
 Models of functions, and that the abstract run tells them. Written by lift2.py.
-/
import Derived.Test.YtdpebdaplhfbjaaGreatDoorKCfg
import Derived.Test.YtdpebdaplhfbjaaGreatDoorK0
import Derived.Test.YtdpebdaplhfbjaaGreatDoorK1
namespace Go.Av.L
open Go.Av Go.Lib
set_option maxRecDepth 10000
set_option linter.unusedVariables false
set_option linter.unusedSimpArgs false
variable {g : Gd} {h : AHeap} {F : List Ck} {av : List AVal}
noncomputable section
def M_boulterref07_number_L0 (p0 : List UInt8) (s : Int × Int) : Option ((Int × Int) ⊕ ((Int) ⊕ (Int × Int))) :=
 match s with
 | (x1, x2) => iteB (decide (x2 < (p0.length : Int))) ((ixS p0 x2).bind fun x6 => (iteB (decide (x6 < 48)) (some true) ((ixS p0 x2).bind fun x8 => some (decide (x8 > 57))) : Option (Bool)).bind fun x7 => iteB x7 (some (.inr (.inr ((0 : Int), (2 : Int))))) ((ixS p0 x2).bind fun x9 => some (.inl (IntKind.i64.wrap ((IntKind.i64.wrap ((IntKind.i64.wrap ((10 : Int) * x1)) + (IntKind.i64.wrap x9))) - 48), IntKind.i64.wrap (x2 + 1))))) (some (.inr (.inl x1)))
def M_boulterref07_number (p0 : List UInt8) : Option (Int × Int) :=
 iteB ((decide ((p0.length : Int) < 1)) || (decide ((p0.length : Int) > 16))) (some ((0 : Int), (2 : Int))) ((loop (M_boulterref07_number_L0 p0) ((0 : Int), (0 : Int))).bind fun o1 => (match o1 with | .inl x3 => iteB (decide (x3 > 9007199254740991)) (some ((0 : Int), (6 : Int))) (some (x3, (0 : Int))) | .inr (x4, x5) => some (x4, x5)))
theorem ok_boulterref07_number {p0 q0 q1} (hm : M_boulterref07_number p0 = some (q0, q1)) (A : HH g h [] F) (hc : canL (cfg.still 18) av = [.str p0] := by kernel_rfl) : ∃ v h', Runs cfg g h 18 av v h' ∧ v = .tuple [Ai q0, Ai q1] ∧ HH g h' [] F := by
 refine rq1 41 [.tmp 2, .tmp 3] hc ?_
 clear hc
 unfold M_boulterref07_number at hm
 refine bg 41 [(0, .str p0)] fun fr H => ?_
 refine aw_sr 2 (at_L 2 [] H fun fr H => aw_sq (aw_sr 8 (at_sl 4 [(9, .bool (decide ((p0.length : Int) < 1)))] H fun fr H => at_cl 4 (fun fr' h' => h = h' ∧ Has fr' 41 [(0, .str p0), (13, .bool ((decide ((p0.length : Int) < 1)) || (decide ((p0.length : Int) > 16))))]) ?_ ?_)))
 ·cases hb : (decide ((p0.length : Int) < 1) : Bool) with
  | true =>
   replace H := H.kn 9 hb
   exact at_sl 4 [(13, .bool true)] H fun fr H => at_zb H hb
  | false =>
   replace H := H.kn 9 hb
   exact at_sl 4 [(13, .bool (decide ((p0.length : Int) > 16)))] H fun fr H => at_zb H hb
 intro t fr h' hK
 obtain ⟨e, H⟩ := hK
 subst e
 refine at_nl id (aw_if 13 H hm (fun hb hm H => ?_) fun hb hm H => ?_)
 ·refine aw_sr 2 (at_L 2 [(2, Ai 0), (3, Ai 2)] H fun fr H => aw_rt ?_)
  obtain ⟨rfl, rfl⟩ := injB hm
  exact ⟨.inl rfl, _, rH H, rfl, A⟩
 refine aw_ks 1 id (at_L 1 [(4, Ai 0)] H fun fr H => aw_sq (aw_sr 1 (at_L 1 [(5, Ai 0)] H fun fr H => aw_block (id := 0) (by kernel_rfl) ?_)))
 obtain ⟨o1, ho, hm⟩ := bind_some hm
 refine aw_mono (Q' := fun e fr' h' => (∃ x3, e = .exit 0 ∧ .inl x3 = o1 ∧ Has fr' 41 [(4, Ai x3)] ∧ HH g h' [] F) ∨ (∃ x4 x5, e = .ret ∧ .inr (x4, x5) = o1 ∧ Has fr' 41 [(2, Ai x4), (3, Ai x5)] ∧ HH g h' [] F) ∨ False) ?_ ?_
 ·refine aw_loop (by kernel_rfl) (fun (s : Int × Int) fr' h' => ∃ x1 x2, (x1, x2) = s ∧ Has fr' 41 [(0, .str p0), (4, Ai x1), (5, Ai x2)] ∧ HH g h' [] F) ho ⟨_, _, rfl, H.ls, A⟩ ?_
  clear ho hm H A
  intro s q fr h1 hI hm
  obtain ⟨x1, x2, rfl, H, A⟩ := hI
  unfold M_boulterref07_number_L0 at hm
  refine aw_sq (aw_sr 4 (at_L 4 [(17, .bool (decide (x2 < (p0.length : Int))))] H fun fr H => aw_if 17 H hm (fun hb hm H => ?_) fun hb hm H => ?_))
  ·refine aw_kn id (aw_sq (aw_block (id := 1) (by kernel_rfl) ?_))
   refine aw_sq (aw_sr 10 ?_)
   obtain ⟨x6, hx, hm⟩ := bind_some hm
   refine at_g1 2 [] 22 (Ab x6) h1 H (fun fr => .of (s_ixS (by kernel_rfl) hx)) fun fr t H => ?_
   refine at_sl 2 [(24, .bool (decide (x6 < 48)))] H fun fr H => ?_
   obtain ⟨x7, ho, hm⟩ := bind_some hm
   refine at_cl 5 (fun fr' h' => Has fr' 41 [(0, .str p0), (4, Ai x1), (5, Ai x2), (29, .bool x7)] ∧ HH g h' [] F) ?_ ?_
   ·rcases iteB_some ho with ⟨hb, hm⟩ | ⟨hb, hm⟩
    ·replace H := H.kn 24 hb
     refine at_sl 5 [(29, .bool true)] H fun fr H => ?_
     obtain rfl := injA hm
     exact at_nil ⟨H.ls, A⟩
    replace H := H.kn 24 hb
    obtain ⟨x8, hx, hm⟩ := bind_some hm
    refine at_g1 2 [] 27 (Ab x8) h1 H (fun fr => .of (s_ixS (by kernel_rfl) hx)) fun fr t H => ?_
    refine at_sl 2 [(29, .bool (decide (x8 > 57)))] H fun fr H => ?_
    obtain rfl := injA hm
    exact at_nil ⟨H.ls, A⟩
   clear A
   intro t fr h2 hK
   obtain ⟨H, A⟩ := hK
   refine at_nl id (aw_if 29 H hm (fun hb hm H => ?_) fun hb hm H => ?_)
   ·refine aw_sr 2 (at_L 2 [(2, Ai 0), (3, Ai 2)] H fun fr H => aw_rt ?_)
    exact nr hm fun e => Or.inr (.inl ⟨_, _, rfl, e, H.ls, A⟩)
   refine aw_kr 9 id ?_
   obtain ⟨x9, hx, hm⟩ := bind_some hm
   refine at_g1 4 [(31, Ai (IntKind.i64.wrap ((10 : Int) * x1)))] 34 (Ab x9) h2 H (fun fr => .of (s_ixS (by kernel_rfl) hx)) fun fr t H => ?_
   refine at_se 4 [(0, .str p0), (4, Ai (IntKind.i64.wrap ((IntKind.i64.wrap ((IntKind.i64.wrap ((10 : Int) * x1)) + (IntKind.i64.wrap x9))) - 48))), (5, Ai x2)] H fun fr H => at_nr 3 id (at_se 3 [(0, .str p0), (4, Ai (IntKind.i64.wrap ((IntKind.i64.wrap ((IntKind.i64.wrap ((10 : Int) * x1)) + (IntKind.i64.wrap x9))) - 48))), (5, Ai (IntKind.i64.wrap (x2 + 1)))] H fun fr H => at_nil ?_)
   exact nx hm ⟨_, _, rfl, H.ls, A⟩
  refine aw_exit (i := 0) (by kernel_rfl) ?_
  exact nr hm fun e => .inl ⟨_, rfl, e, H.ls, A⟩
 clear ho
 clear A
 intro e fr h3 hQ
 rcases hQ with ⟨x3, rfl, rfl, H, A⟩ | ⟨x4, x5, rfl, rfl, H, A⟩ | hF
 ·show AW _ _ _ _ _ _ _
  refine aw_sq (aw_sr 2 (at_L 2 [(39, .bool (decide (x3 > 9007199254740991)))] H fun fr H => aw_if 39 H hm (fun hb hm H => ?_) fun hb hm H => ?_))
  ·refine aw_sr 2 (at_L 2 [(2, Ai 0), (3, Ai 6)] H fun fr H => aw_rt ?_)
   obtain ⟨rfl, rfl⟩ := injB hm
   exact ⟨.inl rfl, _, rH H, rfl, A⟩
  refine aw_ks 3 id (at_L 3 [(2, Ai x3), (3, Ai 0)] H fun fr H => aw_rt ?_)
  obtain ⟨rfl, rfl⟩ := injB hm
  exact ⟨.inl rfl, _, rH H, rfl, A⟩
 ·obtain ⟨rfl, rfl⟩ := injB hm
  exact ⟨.inl rfl, _, rH H, rfl, A⟩
 exact hF.elim
def M_boulterref04_Right (p0 : Int) (p1 : Int) : Option (Bool) :=
 some ((((decide (p0 ≥ (-9007199254740991))) && (decide (p0 ≤ 9007199254740991))) && (decide (p1 ≥ 0))) && (decide (p1 ≤ 999999999)))
theorem ok_boulterref04_Right {p0 p1 q0} (hm : M_boulterref04_Right p0 p1 = some q0) (A : HH g h [] F) (hc : canL (cfg.still 33) av = [Ai p0, Ai p1] := by kernel_rfl) : ∃ v h', Runs cfg g h 33 av v h' ∧ v = .bool q0 ∧ HH g h' [] F := by
 refine rq1 19 [.tmp 4] hc ?_
 clear hc
 unfold M_boulterref04_Right at hm
 refine bg 19 [(0, Ai p0), (1, Ai p1)] fun fr H => ?_
 refine aw_sr 1 (at_S 1 [] 15 H fun fr H => at_sl 3 [(7, .bool (decide (p0 ≥ (-9007199254740991))))] H fun fr H => at_cl 3 (fun fr' h' => h = h' ∧ Has fr' 19 [(1, Ai p1), (10, .bool ((decide (p0 ≥ (-9007199254740991))) && (decide (p0 ≤ 9007199254740991))))]) ?_ ?_)
 ·cases hb : (decide (p0 ≥ (-9007199254740991)) : Bool) with
  | true =>
   replace H := H.kn 7 hb
   exact at_sl 3 [(10, .bool (decide (p0 ≤ 9007199254740991)))] H fun fr H => at_zb H hb
  | false =>
   replace H := H.kn 7 hb
   exact at_sl 3 [(10, .bool false)] H fun fr H => at_zb H hb
 intro t fr h' hK
 obtain ⟨e, H⟩ := hK
 subst e
 refine at_sl 1 [(11, .bool ((decide (p0 ≥ (-9007199254740991))) && (decide (p0 ≤ 9007199254740991))))] H fun fr H => at_cl 3 (fun fr' h' => h = h' ∧ Has fr' 19 [(1, Ai p1), (14, .bool (((decide (p0 ≥ (-9007199254740991))) && (decide (p0 ≤ 9007199254740991))) && (decide (p1 ≥ 0))))]) ?_ ?_
 ·cases hb : ((decide (p0 ≥ (-9007199254740991))) && (decide (p0 ≤ 9007199254740991)) : Bool) with
  | true =>
   replace H := H.kn 11 hb
   exact at_sl 3 [(14, .bool (decide (p1 ≥ 0)))] H fun fr H => at_zb H hb
  | false =>
   replace H := H.kn 11 hb
   exact at_sl 3 [(14, .bool false)] H fun fr H => at_zb H hb
 intro t fr h' hK
 obtain ⟨e, H⟩ := hK
 subst e
 refine at_sl 1 [(15, .bool (((decide (p0 ≥ (-9007199254740991))) && (decide (p0 ≤ 9007199254740991))) && (decide (p1 ≥ 0))))] H fun fr H => at_cl 3 (fun fr' h' => h = h' ∧ Has fr' 19 [(18, .bool ((((decide (p0 ≥ (-9007199254740991))) && (decide (p0 ≤ 9007199254740991))) && (decide (p1 ≥ 0))) && (decide (p1 ≤ 999999999))))]) ?_ ?_
 ·cases hb : (((decide (p0 ≥ (-9007199254740991))) && (decide (p0 ≤ 9007199254740991))) && (decide (p1 ≥ 0)) : Bool) with
  | true =>
   replace H := H.kn 15 hb
   exact at_sl 3 [(18, .bool (decide (p1 ≤ 999999999)))] H fun fr H => at_zb H hb
  | false =>
   replace H := H.kn 15 hb
   exact at_sl 3 [(18, .bool false)] H fun fr H => at_zb H hb
 intro t fr h' hK
 obtain ⟨e, H⟩ := hK
 subst e
 refine at_L 1 [(4, .bool ((((decide (p0 ≥ (-9007199254740991))) && (decide (p0 ≤ 9007199254740991))) && (decide (p1 ≥ 0))) && (decide (p1 ≤ 999999999))))] H fun fr H => aw_rt ?_
 obtain rfl := injA hm
 exact ⟨.inl rfl, _, rH H, rfl, A⟩
def M_boulterref04_Parse_L0 (p0 : List UInt8) (s : Int × Int × Int) : Option ((Int × Int × Int) ⊕ ((Int × Int × Int))) :=
 match s with
 | (x4, x5, x6) => (iteB (decide (x4 < (p0.length : Int))) ((ixS p0 x4).bind fun x11 => (M_boulterref04_digit x11).bind fun x12 => some x12) (some false) : Option (Bool)).bind fun x10 => iteB (x10 && (decide (x6 < 17))) ((ixS p0 x4).bind fun x13 => some (.inl (IntKind.i64.wrap (x4 + 1), IntKind.i64.wrap ((IntKind.i64.wrap ((IntKind.i64.wrap ((10 : Int) * x5)) + (IntKind.i64.wrap x13))) - 48), IntKind.i64.wrap (x6 + 1)))) (some (.inr (x4, x5, x6)))
def M_boulterref04_Parse_L1 (p0 : List UInt8) (s : Int × Int × Int) : Option ((Int × Int × Int) ⊕ ((Int × Int × Int))) :=
 match s with
 | (x19, x20, x21) => (iteB (decide (x19 < (p0.length : Int))) ((ixS p0 x19).bind fun x26 => (M_boulterref04_digit x26).bind fun x27 => some x27) (some false) : Option (Bool)).bind fun x25 => iteB x25 ((iteB (decide (x21 < 9)) ((ixS p0 x19).bind fun x29 => some (IntKind.i64.wrap ((IntKind.i64.wrap ((IntKind.i64.wrap ((10 : Int) * x20)) + (IntKind.i64.wrap x29))) - 48))) (some x20) : Option ((Int))).bind fun x28 => some (.inl (IntKind.i64.wrap (x19 + 1), x28, IntKind.i64.wrap (x21 + 1)))) (some (.inr (x19, x20, x21)))
def M_boulterref04_Parse_L2 (s : Int × Int) : Option ((Int × Int) ⊕ ((Int))) :=
 match s with
 | (x30, x31) => iteB (decide (x31 < 9)) (some (.inl (IntKind.i64.wrap ((10 : Int) * x30), IntKind.i64.wrap (x31 + 1)))) (some (.inr x30))
def M_boulterref04_Parse (p0 : List UInt8) : Option (Int × Int × Int) :=
 (iteB (decide ((p0.length : Int) > 0)) ((ixS p0 (0 : Int)).bind fun x2 => some (x2 == 45)) (some false) : Option (Bool)).bind fun x1 => (iteB x1 (some (1 : Int)) (some (0 : Int)) : Option ((Int))).bind fun x3 => (loop (M_boulterref04_Parse_L0 p0) (x3, (0 : Int), (0 : Int))).bind fun (x7, x8, x9) => iteB ((decide (x9 < 1)) || (decide (x9 > 16))) (some ((0 : Int), (0 : Int), (2 : Int))) ((iteB (decide (x7 < (p0.length : Int))) ((ixS p0 x7).bind fun x18 => iteB (x18 != 46) (some (.inr ((0 : Int), (0 : Int), (2 : Int)))) ((loop (M_boulterref04_Parse_L1 p0) (IntKind.i64.wrap (x7 + 1), (0 : Int), (0 : Int))).bind fun (x22, x23, x24) => iteB (((decide (x24 < 1)) || (decide (x24 > 40))) || (decide (x22 < (p0.length : Int)))) (some (.inr ((0 : Int), (0 : Int), (2 : Int)))) ((loop (M_boulterref04_Parse_L2) (x23, x24)).bind fun x32 => some (.inl x32)))) (some (.inl (0 : Int))) : Option ((Int) ⊕ (Int × Int × Int))).bind fun o3 => (match o3 with | .inl x14 => (iteB x1 (iteB (decide (x14 > 0)) (some (IntKind.i64.wrap ((IntKind.i64.wrap (0 - x8)) - 1), IntKind.i64.wrap ((1000000000 : Int) - x14))) (some (IntKind.i64.wrap (0 - x8), x14))) (some (x8, x14)) : Option ((Int × Int))).bind fun (x33, x34) => (M_boulterref04_Right x33 x34).bind fun x35 => iteB (!x35) (some ((0 : Int), (0 : Int), (6 : Int))) (some (x33, x34, (0 : Int))) | .inr (x15, x16, x17) => some (x15, x16, x17)))
theorem ok_boulterref04_Parse {p0 q0 q1 q2} (hm : M_boulterref04_Parse p0 = some (q0, q1, q2)) (A : HH g h [] F) (hc : canL (cfg.still 19) av = [.str p0] := by kernel_rfl) : ∃ v h', Runs cfg g h 19 av v h' ∧ v = .tuple [Ai q0, Ai q1, Ai q2] ∧ HH g h' [] F := by
 refine rq1 119 [.tmp 2, .tmp 3, .tmp 4] hc ?_
 clear hc
 unfold M_boulterref04_Parse at hm
 refine bg 119 [(0, .str p0)] fun fr H => ?_
 refine aw_sr 3 (at_S 3 [] 1 H fun fr H => at_S 1 [(5, Ai 0)] 9 H fun fr H => at_sl 4 [(14, .bool (decide ((p0.length : Int) > 0)))] H fun fr H => ?_)
 obtain ⟨x1, ho, hm⟩ := bind_some hm
 refine at_cl 4 (fun fr' h' => Has fr' 119 [(0, .str p0), (5, Ai 0), (18, .bool x1)] ∧ HH g h' [] F) ?_ ?_
 ·rcases iteB_some ho with ⟨hb, hm⟩ | ⟨hb, hm⟩
  ·replace H := H.kn 14 hb
   obtain ⟨x2, hx, hm⟩ := bind_some hm
   refine at_g1 1 [] 16 (Ab x2) h H (fun fr => .of (s_ixS (by kernel_rfl) hx)) fun fr t H => ?_
   refine at_sl 2 [(18, .bool (x2 == 45))] H fun fr H => ?_
   obtain rfl := injA hm
   exact at_nil ⟨H.ls, A⟩
  replace H := H.kn 14 hb
  refine at_sl 4 [(18, .bool false)] H fun fr H => ?_
  obtain rfl := injA hm
  exact at_nil ⟨H.ls, A⟩
 clear A
 intro t fr h1 hK
 obtain ⟨H, A⟩ := hK
 refine at_L 1 [(6, .bool x1)] H fun fr H => aw_sq ?_
 obtain ⟨o1, ho, hm⟩ := bind_some hm
 refine aw_mono (Q' := fun e fr' h' => (∃ x3, e = .normal ∧ x3 = o1 ∧ Has fr' 119 [(0, .str p0), (5, Ai x3), (6, .bool x1)] ∧ HH g h' [] F) ∨ False) ?_ ?_
 ·replace hm := ho
  clear ho
  refine aw_sr 1 (at_L 1 [(19, .bool x1)] H fun fr H => aw_if 19 H hm (fun hb hm H => ?_) fun hb hm H => ?_)
  ·refine aw_rg 1 (at_se 1 [(0, .str p0), (5, Ai 1), (6, .bool x1)] H fun fr H => at_nil ?_)
   exact .inl ⟨_, rfl, injA hm, H.ls, A⟩
  exact aw_sk (.inl ⟨_, rfl, injA hm, H.ls, A⟩)
 clear ho
 clear A
 intro e fr h2 hQ
 rcases hQ with ⟨x3, rfl, rfl, H, A⟩ | hF
 ·show AW _ _ _ _ _ _ _
  refine aw_sr 2 (at_L 2 [(7, Ai 0), (8, Ai 0)] H fun fr H => aw_sq (aw_block (id := 0) (by kernel_rfl) ?_))
  obtain ⟨o2, ho, hm⟩ := bind_some hm
  refine aw_mono (Q' := fun e fr' h' => (∃ x7 x8 x9, e = .exit 0 ∧ (x7, x8, x9) = o2 ∧ Has fr' 119 [(0, .str p0), (5, Ai x7), (6, .bool x1), (7, Ai x8), (8, Ai x9)] ∧ HH g h' [] F) ∨ False) ?_ ?_
  ·refine aw_loop (by kernel_rfl) (fun (s : Int × Int × Int) fr' h' => ∃ x4 x5 x6, (x4, x5, x6) = s ∧ Has fr' 119 [(0, .str p0), (5, Ai x4), (6, .bool x1), (7, Ai x5), (8, Ai x6)] ∧ HH g h' [] F) ho ⟨_, _, _, rfl, H.ls, A⟩ ?_
   clear ho hm H A
   intro s q fr h3 hI hm
   obtain ⟨x4, x5, x6, rfl, H, A⟩ := hI
   unfold M_boulterref04_Parse_L0 at hm
   refine aw_sq (aw_sr 14 (at_sl 5 [(24, .bool (decide (x4 < (p0.length : Int))))] H fun fr H => ?_))
   obtain ⟨x10, ho, hm⟩ := bind_some hm
   refine at_cl 5 (fun fr' h' => Has fr' 119 [(0, .str p0), (5, Ai x4), (6, .bool x1), (7, Ai x5), (8, Ai x6), (29, .bool x10)] ∧ HH g h' [] F) ?_ ?_
   ·rcases iteB_some ho with ⟨hb, hm⟩ | ⟨hb, hm⟩
    ·replace H := H.kn 24 hb
     obtain ⟨x11, hx, hm⟩ := bind_some hm
     refine at_g1 2 [] 27 (Ab x11) h3 H (fun fr => .of (s_ixS (by kernel_rfl) hx)) fun fr t H => ?_
     obtain ⟨x12, hx, hm⟩ := bind_some hm
     obtain ⟨v1, h5, hr, rfl, A1⟩ := ok_boulterref04_digit (av := [Ab x11]) hx (A.cut 0)
     replace A := A.g00 A1
     refine at_lc1 28 hr H fun fr t H => ?_
     refine at_sl 1 [(29, .bool x12)] H fun fr H => ?_
     obtain rfl := injA hm
     exact at_nil ⟨H.ls, A⟩
    replace H := H.kn 24 hb
    refine at_sl 5 [(29, .bool false)] H fun fr H => ?_
    obtain rfl := injA hm
    exact at_nil ⟨H.ls, A⟩
   clear A
   intro t fr h4 hK
   obtain ⟨H, A⟩ := hK
   refine at_sl 1 [(30, .bool x10)] H fun fr H => at_cl 3 (fun fr' h' => h4 = h' ∧ Has fr' 119 [(0, .str p0), (5, Ai x4), (6, .bool x1), (7, Ai x5), (8, Ai x6), (33, .bool (x10 && (decide (x6 < 17))))]) ?_ ?_
   ·cases hb : (x10 : Bool) with
    | true =>
     replace H := H.kn 30 hb
     exact at_sl 3 [(33, .bool (decide (x6 < 17)))] H fun fr H => at_zb H hb
    | false =>
     replace H := H.kn 30 hb
     exact at_sl 3 [(33, .bool false)] H fun fr H => at_zb H hb
   intro t fr h' hK
   obtain ⟨e, H⟩ := hK
   subst e
   refine at_nl id (aw_if 33 H hm (fun hb hm H => ?_) fun hb hm H => ?_)
   ·refine aw_kn id (aw_block (id := 1) (by kernel_rfl) ?_)
    refine aw_sr 9 ?_
    obtain ⟨x13, hx, hm⟩ := bind_some hm
    refine at_g1 4 [(35, Ai (IntKind.i64.wrap ((10 : Int) * x5)))] 38 (Ab x13) h4 H (fun fr => .of (s_ixS (by kernel_rfl) hx)) fun fr t H => ?_
    refine at_se 4 [(0, .str p0), (5, Ai x4), (6, .bool x1), (7, Ai (IntKind.i64.wrap ((IntKind.i64.wrap ((IntKind.i64.wrap ((10 : Int) * x5)) + (IntKind.i64.wrap x13))) - 48))), (8, Ai x6)] H fun fr H => at_ns 3 id (at_se 3 [(0, .str p0), (5, Ai (IntKind.i64.wrap (x4 + 1))), (6, .bool x1), (7, Ai (IntKind.i64.wrap ((IntKind.i64.wrap ((IntKind.i64.wrap ((10 : Int) * x5)) + (IntKind.i64.wrap x13))) - 48))), (8, Ai x6)] H fun fr H => at_nr 3 id (at_se 3 [(0, .str p0), (5, Ai (IntKind.i64.wrap (x4 + 1))), (6, .bool x1), (7, Ai (IntKind.i64.wrap ((IntKind.i64.wrap ((IntKind.i64.wrap ((10 : Int) * x5)) + (IntKind.i64.wrap x13))) - 48))), (8, Ai (IntKind.i64.wrap (x6 + 1)))] H fun fr H => at_nil ?_))
    exact nx hm ⟨_, _, _, rfl, H.ls, A⟩
   refine aw_exit (i := 0) (by kernel_rfl) ?_
   exact nr hm fun e => .inl ⟨_, _, _, rfl, e, H.ls, A⟩
  clear ho
  clear A
  intro e fr h6 hQ
  rcases hQ with ⟨x7, x8, x9, rfl, rfl, H, A⟩ | hF
  ·show AW _ _ _ _ _ _ _
   refine aw_sq (aw_sr 6 (at_sl 3 [(48, .bool (decide (x9 < 1)))] H fun fr H => at_cl 3 (fun fr' h' => h6 = h' ∧ Has fr' 119 [(0, .str p0), (5, Ai x7), (6, .bool x1), (7, Ai x8), (51, .bool ((decide (x9 < 1)) || (decide (x9 > 16))))]) ?_ ?_))
   ·cases hb : (decide (x9 < 1) : Bool) with
    | true =>
     replace H := H.kn 48 hb
     exact at_sl 3 [(51, .bool true)] H fun fr H => at_zb H hb
    | false =>
     replace H := H.kn 48 hb
     exact at_sl 3 [(51, .bool (decide (x9 > 16)))] H fun fr H => at_zb H hb
   intro t fr h' hK
   obtain ⟨e, H⟩ := hK
   subst e
   refine at_nl id (aw_if 51 H hm (fun hb hm H => ?_) fun hb hm H => ?_)
   ·refine aw_sr 3 (at_L 3 [(2, Ai 0), (3, Ai 0), (4, Ai 2)] H fun fr H => aw_rt ?_)
    obtain ⟨rfl, rfl, rfl⟩ := injC hm
    exact ⟨.inl rfl, _, rH H, rfl, A⟩
   refine aw_ks 2 id (at_L 2 [(9, Ai 0), (10, Ai 0)] H fun fr H => aw_sq ?_)
   obtain ⟨o3, ho, hm⟩ := bind_some hm
   refine aw_mono (Q' := fun e fr' h' => (∃ x14, e = .normal ∧ .inl x14 = o3 ∧ Has fr' 119 [(6, .bool x1), (7, Ai x8), (9, Ai x14)] ∧ HH g h' [] F) ∨ (∃ x15 x16 x17, e = .ret ∧ .inr (x15, x16, x17) = o3 ∧ Has fr' 119 [(2, Ai x15), (3, Ai x16), (4, Ai x17)] ∧ HH g h' [] F) ∨ False) ?_ ?_
   ·replace hm := ho
    clear ho
    refine aw_sr 4 (at_L 4 [(55, .bool (decide (x7 < (p0.length : Int))))] H fun fr H => aw_if 55 H hm (fun hb hm H => ?_) fun hb hm H => ?_)
    ·refine aw_sq (aw_sr 4 ?_)
     obtain ⟨x18, hx, hm⟩ := bind_some hm
     refine at_g1 2 [] 58 (Ab x18) h6 H (fun fr => .of (s_ixS (by kernel_rfl) hx)) fun fr t H => ?_
     refine at_L 1 [(59, .bool (x18 != 46))] H fun fr H => aw_if 59 H hm (fun hb hm H => ?_) fun hb hm H => ?_
     ·refine aw_sr 3 (at_L 3 [(2, Ai 0), (3, Ai 0), (4, Ai 2)] H fun fr H => aw_rt ?_)
      exact .inr (.inl ⟨_, _, _, rfl, injA hm, H.ls, A⟩)
     refine aw_ks 3 id (at_se 3 [(0, .str p0), (5, Ai (IntKind.i64.wrap (x7 + 1))), (6, .bool x1), (7, Ai x8), (9, Ai 0), (10, Ai 0)] H fun fr H => at_nl id (aw_sq (aw_block (id := 2) (by kernel_rfl) ?_)))
     obtain ⟨o4, ho, hm⟩ := bind_some hm
     refine aw_mono (Q' := fun e fr' h' => (∃ x22 x23 x24, e = .exit 2 ∧ (x22, x23, x24) = o4 ∧ Has fr' 119 [(0, .str p0), (5, Ai x22), (6, .bool x1), (7, Ai x8), (9, Ai x23), (10, Ai x24)] ∧ HH g h' [] F) ∨ False) ?_ ?_
     ·refine aw_loop (by kernel_rfl) (fun (s : Int × Int × Int) fr' h' => ∃ x19 x20 x21, (x19, x20, x21) = s ∧ Has fr' 119 [(0, .str p0), (5, Ai x19), (6, .bool x1), (7, Ai x8), (9, Ai x20), (10, Ai x21)] ∧ HH g h' [] F) ho ⟨_, _, _, rfl, H.ls, A⟩ ?_
      clear ho hm H A
      intro s q fr h7 hI hm
      obtain ⟨x19, x20, x21, rfl, H, A⟩ := hI
      unfold M_boulterref04_Parse_L1 at hm
      refine aw_sq (aw_sr 10 (at_sl 5 [(66, .bool (decide (x19 < (p0.length : Int))))] H fun fr H => ?_))
      obtain ⟨x25, ho, hm⟩ := bind_some hm
      refine at_cl 5 (fun fr' h' => Has fr' 119 [(0, .str p0), (5, Ai x19), (6, .bool x1), (7, Ai x8), (9, Ai x20), (10, Ai x21), (71, .bool x25)] ∧ HH g h' [] F) ?_ ?_
      ·rcases iteB_some ho with ⟨hb, hm⟩ | ⟨hb, hm⟩
       ·replace H := H.kn 66 hb
        obtain ⟨x26, hx, hm⟩ := bind_some hm
        refine at_g1 2 [] 69 (Ab x26) h7 H (fun fr => .of (s_ixS (by kernel_rfl) hx)) fun fr t H => ?_
        obtain ⟨x27, hx, hm⟩ := bind_some hm
        obtain ⟨v1, h9, hr, rfl, A1⟩ := ok_boulterref04_digit (av := [Ab x26]) hx (A.cut 0)
        replace A := A.g00 A1
        refine at_lc1 70 hr H fun fr t H => ?_
        refine at_sl 1 [(71, .bool x27)] H fun fr H => ?_
        obtain rfl := injA hm
        exact at_nil ⟨H.ls, A⟩
       replace H := H.kn 66 hb
       refine at_sl 5 [(71, .bool false)] H fun fr H => ?_
       obtain rfl := injA hm
       exact at_nil ⟨H.ls, A⟩
      clear A
      intro t fr h8 hK
      obtain ⟨H, A⟩ := hK
      refine at_nl id (aw_if 71 H hm (fun hb hm H => ?_) fun hb hm H => ?_)
      ·refine aw_kn id (aw_block (id := 3) (by kernel_rfl) ?_)
       refine aw_sq ?_
       obtain ⟨o5, ho, hm⟩ := bind_some hm
       refine aw_mono (Q' := fun e fr' h' => (∃ x28, e = .normal ∧ x28 = o5 ∧ Has fr' 119 [(0, .str p0), (5, Ai x19), (6, .bool x1), (7, Ai x8), (9, Ai x28), (10, Ai x21)] ∧ HH g h' [] F) ∨ False) ?_ ?_
       ·replace hm := ho
        clear ho
        refine aw_sr 2 (at_L 2 [(73, .bool (decide (x21 < 9)))] H fun fr H => aw_if 73 H hm (fun hb hm H => ?_) fun hb hm H => ?_)
        ·refine aw_rg 9 ?_
         obtain ⟨x29, hx, hm⟩ := bind_some hm
         refine at_g1 4 [(75, Ai (IntKind.i64.wrap ((10 : Int) * x20)))] 78 (Ab x29) h8 H (fun fr => .of (s_ixS (by kernel_rfl) hx)) fun fr t H => ?_
         refine at_se 4 [(0, .str p0), (5, Ai x19), (6, .bool x1), (7, Ai x8), (9, Ai (IntKind.i64.wrap ((IntKind.i64.wrap ((IntKind.i64.wrap ((10 : Int) * x20)) + (IntKind.i64.wrap x29))) - 48))), (10, Ai x21)] H fun fr H => at_nil ?_
         exact .inl ⟨_, rfl, injA hm, H.ls, A⟩
        exact aw_sk (.inl ⟨_, rfl, injA hm, H.ls, A⟩)
       clear ho
       clear A
       intro e fr h10 hQ
       rcases hQ with ⟨x28, rfl, rfl, H, A⟩ | hF
       ·show AW _ _ _ _ _ _ _
        refine aw_sr 3 (at_se 3 [(0, .str p0), (5, Ai (IntKind.i64.wrap (x19 + 1))), (6, .bool x1), (7, Ai x8), (9, Ai x28), (10, Ai x21)] H fun fr H => at_nr 3 id (at_se 3 [(0, .str p0), (5, Ai (IntKind.i64.wrap (x19 + 1))), (6, .bool x1), (7, Ai x8), (9, Ai x28), (10, Ai (IntKind.i64.wrap (x21 + 1)))] H fun fr H => at_nil ?_))
        exact nx hm ⟨_, _, _, rfl, H.ls, A⟩
       exact hF.elim
      refine aw_exit (i := 2) (by kernel_rfl) ?_
      exact nr hm fun e => .inl ⟨_, _, _, rfl, e, H.ls, A⟩
     clear ho
     clear A
     intro e fr h11 hQ
     rcases hQ with ⟨x22, x23, x24, rfl, rfl, H, A⟩ | hF
     ·show AW _ _ _ _ _ _ _
      refine aw_sq (aw_sr 12 (at_sl 3 [(88, .bool (decide (x24 < 1)))] H fun fr H => at_cl 3 (fun fr' h' => h11 = h' ∧ Has fr' 119 [(0, .str p0), (5, Ai x22), (6, .bool x1), (7, Ai x8), (9, Ai x23), (10, Ai x24), (91, .bool ((decide (x24 < 1)) || (decide (x24 > 40))))]) ?_ ?_))
      ·cases hb : (decide (x24 < 1) : Bool) with
       | true =>
        replace H := H.kn 88 hb
        exact at_sl 3 [(91, .bool true)] H fun fr H => at_zb H hb
       | false =>
        replace H := H.kn 88 hb
        exact at_sl 3 [(91, .bool (decide (x24 > 40)))] H fun fr H => at_zb H hb
      intro t fr h' hK
      obtain ⟨e, H⟩ := hK
      subst e
      refine at_sl 1 [(92, .bool ((decide (x24 < 1)) || (decide (x24 > 40))))] H fun fr H => at_cl 5 (fun fr' h' => h11 = h' ∧ Has fr' 119 [(6, .bool x1), (7, Ai x8), (9, Ai x23), (10, Ai x24), (97, .bool (((decide (x24 < 1)) || (decide (x24 > 40))) || (decide (x22 < (p0.length : Int)))))]) ?_ ?_
      ·cases hb : ((decide (x24 < 1)) || (decide (x24 > 40)) : Bool) with
       | true =>
        replace H := H.kn 92 hb
        exact at_sl 5 [(97, .bool true)] H fun fr H => at_zb H hb
       | false =>
        replace H := H.kn 92 hb
        exact at_sl 5 [(97, .bool (decide (x22 < (p0.length : Int))))] H fun fr H => at_zb H hb
      intro t fr h' hK
      obtain ⟨e, H⟩ := hK
      subst e
      refine at_nl id (aw_if 97 H hm (fun hb hm H => ?_) fun hb hm H => ?_)
      ·refine aw_sr 3 (at_L 3 [(2, Ai 0), (3, Ai 0), (4, Ai 2)] H fun fr H => aw_rt ?_)
       exact .inr (.inl ⟨_, _, _, rfl, injA hm, H.ls, A⟩)
      refine aw_kn id (aw_block (id := 4) (by kernel_rfl) ?_)
      obtain ⟨o6, ho, hm⟩ := bind_some hm
      refine aw_mono (Q' := fun e fr' h' => (∃ x32, e = .exit 4 ∧ x32 = o6 ∧ Has fr' 119 [(6, .bool x1), (7, Ai x8), (9, Ai x32)] ∧ HH g h' [] F) ∨ False) ?_ ?_
      ·refine aw_loop (by kernel_rfl) (fun (s : Int × Int) fr' h' => ∃ x30 x31, (x30, x31) = s ∧ Has fr' 119 [(6, .bool x1), (7, Ai x8), (9, Ai x30), (10, Ai x31)] ∧ HH g h' [] F) ho ⟨_, _, rfl, H.ls, A⟩ ?_
       clear ho hm H A
       intro s q fr h12 hI hm
       obtain ⟨x30, x31, rfl, H, A⟩ := hI
       unfold M_boulterref04_Parse_L2 at hm
       refine aw_sq (aw_sr 2 (at_L 2 [(99, .bool (decide (x31 < 9)))] H fun fr H => aw_if 99 H hm (fun hb hm H => ?_) fun hb hm H => ?_))
       ·refine aw_kn id (aw_block (id := 5) (by kernel_rfl) ?_)
        refine aw_sr 3 (at_se 3 [(6, .bool x1), (7, Ai x8), (9, Ai (IntKind.i64.wrap ((10 : Int) * x30))), (10, Ai x31)] H fun fr H => at_nr 3 id (at_se 3 [(6, .bool x1), (7, Ai x8), (9, Ai (IntKind.i64.wrap ((10 : Int) * x30))), (10, Ai (IntKind.i64.wrap (x31 + 1)))] H fun fr H => at_nil ?_))
        exact nx hm ⟨_, _, rfl, H.ls, A⟩
       refine aw_exit (i := 4) (by kernel_rfl) ?_
       exact nr hm fun e => .inl ⟨_, rfl, e, H.ls, A⟩
      clear ho
      clear A
      intro e fr h13 hQ
      rcases hQ with ⟨x32, rfl, rfl, H, A⟩ | hF
      ·exact .inl ⟨_, rfl, injA hm, H.ls, A⟩
      exact hF.elim
     exact hF.elim
    exact aw_sk (.inl ⟨_, rfl, injA hm, H.ls, A⟩)
   clear ho
   clear A
   intro e fr h14 hQ
   rcases hQ with ⟨x14, rfl, rfl, H, A⟩ | ⟨x15, x16, x17, rfl, rfl, H, A⟩ | hF
   ·show AW _ _ _ _ _ _ _
    refine aw_sq ?_
    obtain ⟨o7, ho, hm⟩ := bind_some hm
    refine aw_mono (Q' := fun e fr' h' => (∃ x33 x34, e = .normal ∧ (x33, x34) = o7 ∧ Has fr' 119 [(7, Ai x33), (9, Ai x34)] ∧ HH g h' [] F) ∨ False) ?_ ?_
    ·replace hm := ho
     clear ho
     refine aw_sr 1 (at_L 1 [(104, .bool x1)] H fun fr H => aw_if 104 H hm (fun hb hm H => ?_) fun hb hm H => ?_)
     ·refine aw_sr 3 (at_se 3 [(7, Ai (IntKind.i64.wrap (0 - x8))), (9, Ai x14)] H fun fr H => at_ns 2 id (at_L 2 [(108, .bool (decide (x14 > 0)))] H fun fr H => aw_if 108 H hm (fun hb hm H => ?_) fun hb hm H => ?_))
      ·refine aw_sr 3 (at_se 3 [(7, Ai (IntKind.i64.wrap ((IntKind.i64.wrap (0 - x8)) - 1))), (9, Ai x14)] H fun fr H => at_nr 3 id (at_se 3 [(7, Ai (IntKind.i64.wrap ((IntKind.i64.wrap (0 - x8)) - 1))), (9, Ai (IntKind.i64.wrap ((1000000000 : Int) - x14)))] H fun fr H => at_nil ?_))
       exact .inl ⟨_, _, rfl, injA hm, H.ls, A⟩
      exact aw_sk (.inl ⟨_, _, rfl, injA hm, H.ls, A⟩)
     exact aw_sk (.inl ⟨_, _, rfl, injA hm, H.ls, A⟩)
    clear ho
    clear A
    intro e fr h15 hQ
    rcases hQ with ⟨x33, x34, rfl, rfl, H, A⟩ | hF
    ·show AW _ _ _ _ _ _ _
     refine aw_sq (aw_sr 4 ?_)
     obtain ⟨x35, hx, hm⟩ := bind_some hm
     obtain ⟨v1, h16, hr, rfl, A1⟩ := ok_boulterref04_Right (av := [Ai x33, Ai x34]) hx (A.cut 0)
     replace A := A.g00 A1
     refine at_gc1 2 [] 115 hr H fun fr t H => ?_
     refine at_L 1 [(116, .bool (!x35))] H fun fr H => aw_if 116 H hm (fun hb hm H => ?_) fun hb hm H => ?_
     ·refine aw_sr 3 (at_L 3 [(2, Ai 0), (3, Ai 0), (4, Ai 6)] H fun fr H => aw_rt ?_)
      obtain ⟨rfl, rfl, rfl⟩ := injC hm
      exact ⟨.inl rfl, _, rH H, rfl, A⟩
     refine aw_ks 5 id (at_L 5 [(2, Ai x33), (3, Ai x34), (4, Ai 0)] H fun fr H => aw_rt ?_)
     obtain ⟨rfl, rfl, rfl⟩ := injC hm
     exact ⟨.inl rfl, _, rH H, rfl, A⟩
    exact hF.elim
   ·obtain ⟨rfl, rfl, rfl⟩ := injC hm
    exact ⟨.inl rfl, _, rH H, rfl, A⟩
   exact hF.elim
  exact hF.elim
 exact hF.elim
def M_boulterref02_Read_L0 (p0 : List UInt8) (s : Int) : Option ((Int) ⊕ ((Int))) :=
 match s with
 | x1 => (iteB (decide (x1 < (p0.length : Int))) ((ixS p0 x1).bind fun x4 => some (x4 != 0)) (some false) : Option (Bool)).bind fun x3 => iteB x3 (some (.inl (IntKind.i64.wrap (x1 + 1)))) (some (.inr x1))
def M_boulterref02_Read (p0 : List UInt8) : Option ((List UInt8)) :=
 (loop (M_boulterref02_Read_L0 p0) (0 : Int)).bind fun x2 => (subS p0 none (some x2)).bind fun x5 => some x5
theorem ok_boulterref02_Read {p0 q0} (hm : M_boulterref02_Read p0 = some q0) (A : HH g h [] F) (hc : canL (cfg.still 20) av = [.str p0] := by kernel_rfl) : ∃ v h', Runs cfg g h 20 av v h' ∧ v = .str q0 ∧ HH g h' [] F := by
 refine rq1 19 [.tmp 2] hc ?_
 clear hc
 unfold M_boulterref02_Read at hm
 refine bg 19 [(0, .str p0)] fun fr H => ?_
 refine aw_sr 1 (at_S 1 [] 1 H fun fr H => at_L 1 [(3, Ai 0)] H fun fr H => aw_sq (aw_block (id := 0) (by kernel_rfl) ?_))
 obtain ⟨o1, ho, hm⟩ := bind_some hm
 refine aw_mono (Q' := fun e fr' h' => (∃ x2, e = .exit 0 ∧ x2 = o1 ∧ Has fr' 19 [(0, .str p0), (3, Ai x2)] ∧ HH g h' [] F) ∨ False) ?_ ?_
 ·refine aw_loop (by kernel_rfl) (fun (s : Int) fr' h' => ∃ x1, x1 = s ∧ Has fr' 19 [(0, .str p0), (3, Ai x1)] ∧ HH g h' [] F) ho ⟨_, rfl, H.ls, A⟩ ?_
  clear ho hm H A
  intro s q fr h1 hI hm
  obtain ⟨x1, rfl, H, A⟩ := hI
  unfold M_boulterref02_Read_L0 at hm
  refine aw_sq (aw_sr 10 (at_sl 5 [(8, .bool (decide (x1 < (p0.length : Int))))] H fun fr H => ?_))
  obtain ⟨x3, ho, hm⟩ := bind_some hm
  refine at_cl 5 (fun fr' h' => Has fr' 19 [(0, .str p0), (3, Ai x1), (13, .bool x3)] ∧ HH g h' [] F) ?_ ?_
  ·rcases iteB_some ho with ⟨hb, hm⟩ | ⟨hb, hm⟩
   ·replace H := H.kn 8 hb
    obtain ⟨x4, hx, hm⟩ := bind_some hm
    refine at_g1 2 [] 11 (Ab x4) h1 H (fun fr => .of (s_ixS (by kernel_rfl) hx)) fun fr t H => ?_
    refine at_sl 2 [(13, .bool (x4 != 0))] H fun fr H => ?_
    obtain rfl := injA hm
    exact at_nil ⟨H.ls, A⟩
   replace H := H.kn 8 hb
   refine at_sl 5 [(13, .bool false)] H fun fr H => ?_
   obtain rfl := injA hm
   exact at_nil ⟨H.ls, A⟩
  clear A
  intro t fr h2 hK
  obtain ⟨H, A⟩ := hK
  refine at_nl id (aw_if 13 H hm (fun hb hm H => ?_) fun hb hm H => ?_)
  ·refine aw_kn id (aw_block (id := 1) (by kernel_rfl) ?_)
   refine aw_rg 3 (at_se 3 [(0, .str p0), (3, Ai (IntKind.i64.wrap (x1 + 1)))] H fun fr H => at_nil ?_)
   exact nx hm ⟨_, rfl, H.ls, A⟩
  refine aw_exit (i := 0) (by kernel_rfl) ?_
  exact nr hm fun e => .inl ⟨_, rfl, e, H.ls, A⟩
 clear ho
 clear A
 intro e fr h3 hQ
 rcases hQ with ⟨x2, rfl, rfl, H, A⟩ | hF
 ·show AW _ _ _ _ _ _ _
  refine aw_sr 4 ?_
  obtain ⟨x5, hx, hm⟩ := bind_some hm
  refine at_g1 2 [] 18 (.str x5) h3 H (fun fr => .of (s_subS (k := .i64) (k' := .i64) (lo := none) (hi := (some x2)) (by kernel_rfl) hx)) fun fr t H => ?_
  refine at_L 1 [(2, .str x5)] H fun fr H => aw_rt ?_
  obtain rfl := injA hm
  exact ⟨.inl rfl, _, rH H, rfl, A⟩
 exact hF.elim
def M_boulterref07_Apply_sRO_L0 (p1 : List S_api_Pair) (s : (List S_api_Pair) × (List UInt8) × (List UInt8) × Int × Int × (List UInt8) × (List UInt8) × Int × Int × Int × Int) : Option (((List S_api_Pair) × (List UInt8) × (List UInt8) × Int × Int × (List UInt8) × (List UInt8) × Int × Int × Int × Int) ⊕ (((List S_api_Pair) × (List UInt8) × (List UInt8) × Int × Int × (List UInt8) × (List UInt8) × Int × Int × Int) ⊕ ((List S_api_Pair) × (List UInt8) × (List UInt8) × Int × Int × (List UInt8) × (List UInt8) × Int × Int × Int × Int))) :=
 match s with
 | (x1, x2, x3, x4, x5, x6, x7, x8, x9, x10, x11) => iteB (decide (x11 < (p1.length : Int))) (((ixV p1 x11).bind fun x47 => (ixV p1 x11).bind fun x48 => (M_boulterref07_known x47.Key).bind fun x49 => iteB (!x49) ((ixV p1 x11).bind fun x50 => need (okN 32 (x1.length + ([x50] : List S_api_Pair).length)) <| some (.inl ((x1 ++ ([x50] : List S_api_Pair)), x2, x3, x4, x5, x6, x7, x8, x9, x10))) ((iteB (((x47.Key == ([103, 105, 100] : List UInt8)) || (x47.Key == ([117, 105, 100] : List UInt8))) || (x47.Key == ([115, 105, 122, 101] : List UInt8))) ((M_boulterref07_number x48.Value).bind fun (x55, x56) => some (x8, x9, x55, x56)) (iteB (x47.Key == ([109, 116, 105, 109, 101] : List UInt8)) ((M_boulterref04_Parse x48.Value).bind fun (x57, x58, x59) => some (x57, x58, (0 : Int), x59)) ((M_boulterref02_Read x48.Value).bind fun x60 => iteB (!(x60 == x48.Value)) (some (x8, x9, (0 : Int), (2 : Int))) (some (x8, x9, (0 : Int), (0 : Int))))) : Option ((Int × Int × Int × Int))).bind fun (x51, x52, x53, x54) => iteB (x54 != 0) (some (.inr (x51, x52, (0 : Int), x54))) (iteB (x47.Key == ([103, 105, 100] : List UInt8)) (some (.inl (x1, x2, x3, x4, x53, x6, x7, x51, x52, x10))) (iteB (x47.Key == ([117, 105, 100] : List UInt8)) (some (.inl (x1, x2, x3, x53, x5, x6, x7, x51, x52, x10))) (iteB (x47.Key == ([115, 105, 122, 101] : List UInt8)) (some (.inl (x1, x2, x3, x4, x5, x6, x7, x51, x52, x53))) (iteB (x47.Key == ([103, 110, 97, 109, 101] : List UInt8)) (some (.inl (x1, x2, x3, x4, x5, x6, x48.Value, x51, x52, x10))) (iteB (x47.Key == ([117, 110, 97, 109, 101] : List UInt8)) (some (.inl (x1, x2, x3, x4, x5, x48.Value, x7, x51, x52, x10))) (iteB (x47.Key == ([112, 97, 116, 104] : List UInt8)) (some (.inl (x1, x48.Value, x3, x4, x5, x6, x7, x51, x52, x10))) (iteB (x47.Key == ([108, 105, 110, 107, 112, 97, 116, 104] : List UInt8)) (some (.inl (x1, x2, x48.Value, x4, x5, x6, x7, x51, x52, x10))) (some (.inl (x1, x2, x3, x4, x5, x6, x7, x51, x52, x10))))))))))) : Option (((List S_api_Pair) × (List UInt8) × (List UInt8) × Int × Int × (List UInt8) × (List UInt8) × Int × Int × Int) ⊕ (Int × Int × Int × Int))).bind fun o2 => (match o2 with | .inl (x33, x34, x35, x36, x37, x38, x39, x40, x41, x42) => some (.inl (x33, x34, x35, x36, x37, x38, x39, x40, x41, x42, IntKind.i64.wrap (x11 + 1))) | .inr (x43, x44, x45, x46) => some (.inr (.inr (x1, x2, x3, x4, x5, x6, x7, x43, x44, x45, x46))))) (some (.inr (.inl (x1, x2, x3, x4, x5, x6, x7, x8, x9, x10))))
def M_boulterref07_Apply_sRO (p0 : S_api_Head) (p1 : List S_api_Pair) : Option (S_api_Member × Int × Int) :=
 (loop (M_boulterref07_Apply_sRO_L0 p1) (([] : List S_api_Pair), p0.Name, p0.Link, p0.Uid, p0.Gid, p0.Uname, p0.Gname, p0.Time, (0 : Int), p0.Size, (0 : Int))).bind fun o1 => (match o1 with | .inl (x12, x13, x14, x15, x16, x17, x18, x19, x20, x21) => some ((⟨x13, x14, p0.Kind, p0.Mode, x15, x16, x17, x18, p0.Major, p0.Minor, (⟨x19, x20⟩ : S_api_Stamp), x12, ([] : List UInt8)⟩ : S_api_Member), x21, (0 : Int)) | .inr (x22, x23, x24, x25, x26, x27, x28, x29, x30, x31, x32) => some ((⟨([] : List UInt8), ([] : List UInt8), (0 : Int), (0 : Int), (0 : Int), (0 : Int), ([] : List UInt8), ([] : List UInt8), (0 : Int), (0 : Int), (⟨(0 : Int), (0 : Int)⟩ : S_api_Stamp), ([] : List S_api_Pair), ([] : List UInt8)⟩ : S_api_Member), x31, x32))
theorem ok_boulterref07_Apply_sRO {p0 p1 rp1 q0 q1 q2} (hm : M_boulterref07_Apply_sRO p0 p1 = some (q0, q1, q2)) (A : HH g h [.lst rp1 40 (lst e_S_api_Pair p1)] F) (hc : canL (cfg.still 9) av = [.agg (e_S_api_Head p0), rowV rp1 p1.length] := by kernel_rfl) : ∃ v h', Runs cfg g h 9 av v h' ∧ v = .tuple [.agg (e_S_api_Member q0), Ai q1, Ai q2] ∧ HH g h' [.lst rp1 40 (lst e_S_api_Pair p1)] F := by
 refine rq7 140 [.cell 4 31, .tmp 5, .tmp 6] hc ?_
 clear hc
 unfold M_boulterref07_Apply_sRO at hm
 refine bg 140 [(0, .agg (e_S_api_Head p0)), (1, rowV rp1 p1.length)] fun fr H => ?_
 refine aw_sr 4 ?_
 obtain ⟨h1, e1, A⟩ := A.pu (.cells none 2 (e_S_api_Head p0))
 refine at_ln 2 (.ptr (some (h.size, 0))) e1 H fun fr t H => ?_
 obtain ⟨h2, e2, A⟩ := A.pu (.cells none 2 [.str ([] : List UInt8), .str ([] : List UInt8), Ab 0, Ai 0, Ai 0, Ai 0, .str ([] : List UInt8), .str ([] : List UInt8), Ai 0, Ai 0, Ai 0, Ai 0, .slice none 0, .str ([] : List UInt8)])
 refine at_ln 4 (.ptr (some (h1.size, 0))) e2 H fun fr t H => ?_
 refine at_S 2 [] 3 H fun fr H => ?_
 obtain ⟨h3, e3, A⟩ := A.pu (.cells none 2 [.str ([] : List UInt8), .str ([] : List UInt8), Ab 0, Ai 0, Ai 0, Ai 0, .str ([] : List UInt8), .str ([] : List UInt8), Ai 0, Ai 0, Ai 0, Ai 0, .slice none 0, .str ([] : List UInt8)])
 refine at_gn 1 [(18, .agg [.str ([] : List UInt8), .str ([] : List UInt8), Ab (0 : Int), Ai (0 : Int), Ai (0 : Int), Ai (0 : Int), .str ([] : List UInt8), .str ([] : List UInt8), Ai (0 : Int), Ai (0 : Int), Ai (0 : Int), Ai (0 : Int), .slice none 0, .str ([] : List UInt8)])] 7 (.ptr (some (h2.size, 0))) e3 H fun fr t H => ?_
 obtain ⟨h4, hx, A1⟩ := A.st 0 rfl (o := 0) (new := [.str ([] : List UInt8), .str ([] : List UInt8), Ab 0, Ai 0, Ai 0, Ai 0, .str ([] : List UInt8), .str ([] : List UInt8), Ai 0, Ai 0, Ai 0, Ai 0, .slice none 0, .str ([] : List UInt8)]) (ds := [.str ([] : List UInt8), .str ([] : List UInt8), Ab 0, Ai 0, Ai 0, Ai 0, .str ([] : List UInt8), .str ([] : List UInt8), Ai 0, Ai 0, Ai 0, Ai 0, .slice none 0, .str ([] : List UInt8)]) (Nat.le_of_ble_eq_true rfl) rfl rfl
 replace A : HH g h4 [.obj h2.size (.cells none 2 [.str ([] : List UInt8), .str ([] : List UInt8), Ab 0, Ai 0, Ai 0, Ai 0, .str ([] : List UInt8), .str ([] : List UInt8), Ai 0, Ai 0, Ai 0, Ai 0, .slice none 0, .str ([] : List UInt8)]), .obj h1.size (.cells none 2 [.str ([] : List UInt8), .str ([] : List UInt8), Ab 0, Ai 0, Ai 0, Ai 0, .str ([] : List UInt8), .str ([] : List UInt8), Ai 0, Ai 0, Ai 0, Ai 0, .slice none 0, .str ([] : List UInt8)]), .obj h.size (.cells none 2 (e_S_api_Head p0)), _] F := A1
 refine at_lS hx H fun fr t H => ?_
 refine at_ns 23 id (at_gl 1 [] 20 2 0 A H fun fr t H => ?_)
 refine at_gl 1 [] 22 2 1 A H fun fr t H => ?_
 refine at_gl 1 [] 24 2 2 A H fun fr t H => ?_
 refine at_gl 1 [] 26 2 3 A H fun fr t H => ?_
 refine at_gl 1 [] 28 2 4 A H fun fr t H => ?_
 refine at_gl 1 [] 30 2 5 A H fun fr t H => ?_
 refine at_gl 1 [] 32 2 8 A H fun fr t H => ?_
 refine at_gl 1 [] 34 2 9 A H fun fr t H => ?_
 refine at_gl 1 [] 36 2 10 A H fun fr t H => ?_
 refine at_gl 1 [] 38 2 11 A H fun fr t H => ?_
 obtain ⟨h5, e4, A⟩ := A.pu (.cells none 2 [.str ([] : List UInt8), .str ([] : List UInt8), Ab 0, Ai 0, Ai 0, Ai 0, .str ([] : List UInt8), .str ([] : List UInt8), Ai 0, Ai 0, Ai 0, Ai 0, .slice none 0, .str ([] : List UInt8)])
 refine at_gn 1 [(39, .agg [.str p0.Name, .str p0.Link, Ab p0.Kind, Ai p0.Mode, Ai p0.Uid, Ai p0.Gid, .str p0.Uname, .str p0.Gname, Ai p0.Major, Ai p0.Minor, Ai (0 : Int), Ai (0 : Int), .slice none 0, .str ([] : List UInt8)])] 8 (.ptr (some (h4.size, 0))) e4 H fun fr t H => ?_
 obtain ⟨h6, hx, A⟩ := A.s0 0 [.str p0.Name, .str p0.Link, Ab p0.Kind, Ai p0.Mode, Ai p0.Uid, Ai p0.Gid, .str p0.Uname, .str p0.Gname, Ai p0.Major, Ai p0.Minor, Ai 0, Ai 0, .slice none 0, .str ([] : List UInt8)] [_, _, _, _, _, _, _, _, _, _, _, _, _, _]
 refine at_lS hx H fun fr t H => ?_
 refine at_ns 5 id (at_gl 1 [] 41 3 7 A H fun fr t H => ?_)
 obtain ⟨h7, hx, A⟩ := A.s0 10 [Ai p0.Time] [_, _, _, _, _, _, _, _, _, _, _, _, _, _]
 refine at_gs 2 [] hx H fun fr t H => ?_
 refine at_ns 3 id (at_gl 1 [] 45 3 6 A H fun fr t H => ?_)
 refine at_L 1 [(9, Ai p0.Size)] H fun fr H => aw_sq (aw_sr 1 (at_L 1 [(10, Ai 0)] H fun fr H => aw_block (id := 0) (by kernel_rfl) ?_))
 replace A : HH g h7 [.lst none 40 (lst e_S_api_Pair ([] : List S_api_Pair)), _, _, _, _, _] F := A.nilL 40
 obtain ⟨o1, ho, hm⟩ := bind_some hm
 refine aw_mono (Q' := fun e fr' h' => (∃ x12 x13 x14 x15 x16 x17 x18 x19 x20 x21, e = .exit 0 ∧ .inl (x12, x13, x14, x15, x16, x17, x18, x19, x20, x21) = o1 ∧ ∃ r2, Has fr' 140 [(4, .ptr (some (h1.size, 0))), (8, .ptr (some (h4.size, 0))), (9, Ai x21)] ∧ HH g h' [.lst r2 40 (lst e_S_api_Pair x12), .obj h4.size (.cells none 2 [.str x13, .str x14, Ab p0.Kind, Ai p0.Mode, Ai x15, Ai x16, .str x17, .str x18, Ai p0.Major, Ai p0.Minor, Ai x19, Ai x20, rowV r2 x12.length, .str ([] : List UInt8)]), .obj h2.size (.cells none 2 [.str ([] : List UInt8), .str ([] : List UInt8), Ab 0, Ai 0, Ai 0, Ai 0, .str ([] : List UInt8), .str ([] : List UInt8), Ai 0, Ai 0, Ai 0, Ai 0, .slice none 0, .str ([] : List UInt8)]), .obj h1.size (.cells none 2 [.str ([] : List UInt8), .str ([] : List UInt8), Ab 0, Ai 0, Ai 0, Ai 0, .str ([] : List UInt8), .str ([] : List UInt8), Ai 0, Ai 0, Ai 0, Ai 0, .slice none 0, .str ([] : List UInt8)]), .obj h.size (.cells none 2 (e_S_api_Head p0)), .lst rp1 40 (lst e_S_api_Pair p1)] F) ∨ (∃ x22 x23 x24 x25 x26 x27 x28 x29 x30 x31 x32, e = .ret ∧ .inr (x22, x23, x24, x25, x26, x27, x28, x29, x30, x31, x32) = o1 ∧ ∃ r3, Has fr' 140 [(4, .ptr (some (h1.size, 0))), (5, Ai x31), (6, Ai x32)] ∧ HH g h' [.lst r3 40 (lst e_S_api_Pair x22), .obj h4.size (.cells none 2 [.str x23, .str x24, Ab p0.Kind, Ai p0.Mode, Ai x25, Ai x26, .str x27, .str x28, Ai p0.Major, Ai p0.Minor, Ai x29, Ai x30, rowV r3 x22.length, .str ([] : List UInt8)]), .obj h2.size (.cells none 2 [.str ([] : List UInt8), .str ([] : List UInt8), Ab 0, Ai 0, Ai 0, Ai 0, .str ([] : List UInt8), .str ([] : List UInt8), Ai 0, Ai 0, Ai 0, Ai 0, .slice none 0, .str ([] : List UInt8)]), .obj h1.size (.cells none 2 [.str ([] : List UInt8), .str ([] : List UInt8), Ab 0, Ai 0, Ai 0, Ai 0, .str ([] : List UInt8), .str ([] : List UInt8), Ai 0, Ai 0, Ai 0, Ai 0, .slice none 0, .str ([] : List UInt8)]), .obj h.size (.cells none 2 (e_S_api_Head p0)), .lst rp1 40 (lst e_S_api_Pair p1)] F) ∨ False) ?_ ?_
 ·refine aw_loop (by kernel_rfl) (fun (s : (List S_api_Pair) × (List UInt8) × (List UInt8) × Int × Int × (List UInt8) × (List UInt8) × Int × Int × Int × Int) fr' h' => ∃ x1 x2 x3 x4 x5 x6 x7 x8 x9 x10 x11, (x1, x2, x3, x4, x5, x6, x7, x8, x9, x10, x11) = s ∧ ∃ r1, Has fr' 140 [(1, rowV rp1 p1.length), (4, .ptr (some (h1.size, 0))), (7, .ptr (some (h2.size, 0))), (8, .ptr (some (h4.size, 0))), (9, Ai x10), (10, Ai x11)] ∧ HH g h' [.lst r1 40 (lst e_S_api_Pair x1), .obj h4.size (.cells none 2 [.str x2, .str x3, Ab p0.Kind, Ai p0.Mode, Ai x4, Ai x5, .str x6, .str x7, Ai p0.Major, Ai p0.Minor, Ai x8, Ai x9, rowV r1 x1.length, .str ([] : List UInt8)]), .obj h2.size (.cells none 2 [.str ([] : List UInt8), .str ([] : List UInt8), Ab 0, Ai 0, Ai 0, Ai 0, .str ([] : List UInt8), .str ([] : List UInt8), Ai 0, Ai 0, Ai 0, Ai 0, .slice none 0, .str ([] : List UInt8)]), .obj h1.size (.cells none 2 [.str ([] : List UInt8), .str ([] : List UInt8), Ab 0, Ai 0, Ai 0, Ai 0, .str ([] : List UInt8), .str ([] : List UInt8), Ai 0, Ai 0, Ai 0, Ai 0, .slice none 0, .str ([] : List UInt8)]), .obj h.size (.cells none 2 (e_S_api_Head p0)), .lst rp1 40 (lst e_S_api_Pair p1)] F) ho ⟨_, _, _, _, _, _, _, _, _, _, _, rfl, none, H.ls, A⟩ ?_
  clear ho hm H A
  intro s q fr h8 hI hm
  obtain ⟨x1, x2, x3, x4, x5, x6, x7, x8, x9, x10, x11, rfl, r1, H, A⟩ := hI
  unfold M_boulterref07_Apply_sRO_L0 at hm
  refine aw_sq (aw_sr 4 (at_L 4 [(49, .bool (decide (x11 < (p1.length : Int))))] H fun fr H => aw_if 49 H hm (fun hb hm H => ?_) fun hb hm H => ?_))
  ·refine aw_kn id (aw_sq ?_)
   obtain ⟨o2, ho, hm⟩ := bind_some hm
   refine aw_mono (Q' := fun e fr' h' => (∃ x33 x34 x35 x36 x37 x38 x39 x40 x41 x42, e = .normal ∧ .inl (x33, x34, x35, x36, x37, x38, x39, x40, x41, x42) = o2 ∧ ∃ r4, Has fr' 140 [(1, rowV rp1 p1.length), (4, .ptr (some (h1.size, 0))), (7, .ptr (some (h2.size, 0))), (8, .ptr (some (h4.size, 0))), (9, Ai x42), (10, Ai x11)] ∧ HH g h' [.lst r4 40 (lst e_S_api_Pair x33), .obj h4.size (.cells none 2 [.str x34, .str x35, Ab p0.Kind, Ai p0.Mode, Ai x36, Ai x37, .str x38, .str x39, Ai p0.Major, Ai p0.Minor, Ai x40, Ai x41, rowV r4 x33.length, .str ([] : List UInt8)]), .obj h2.size (.cells none 2 [.str ([] : List UInt8), .str ([] : List UInt8), Ab 0, Ai 0, Ai 0, Ai 0, .str ([] : List UInt8), .str ([] : List UInt8), Ai 0, Ai 0, Ai 0, Ai 0, .slice none 0, .str ([] : List UInt8)]), .obj h1.size (.cells none 2 [.str ([] : List UInt8), .str ([] : List UInt8), Ab 0, Ai 0, Ai 0, Ai 0, .str ([] : List UInt8), .str ([] : List UInt8), Ai 0, Ai 0, Ai 0, Ai 0, .slice none 0, .str ([] : List UInt8)]), .obj h.size (.cells none 2 (e_S_api_Head p0)), .lst rp1 40 (lst e_S_api_Pair p1)] F) ∨ (∃ x43 x44 x45 x46, e = .ret ∧ .inr (x43, x44, x45, x46) = o2 ∧ Has fr' 140 [(4, .ptr (some (h1.size, 0))), (5, Ai x45), (6, Ai x46)] ∧ HH g h' [.lst r1 40 (lst e_S_api_Pair x1), .obj h4.size (.cells none 2 [.str x2, .str x3, Ab p0.Kind, Ai p0.Mode, Ai x4, Ai x5, .str x6, .str x7, Ai p0.Major, Ai p0.Minor, Ai x43, Ai x44, rowV r1 x1.length, .str ([] : List UInt8)]), .obj h2.size (.cells none 2 [.str ([] : List UInt8), .str ([] : List UInt8), Ab 0, Ai 0, Ai 0, Ai 0, .str ([] : List UInt8), .str ([] : List UInt8), Ai 0, Ai 0, Ai 0, Ai 0, .slice none 0, .str ([] : List UInt8)]), .obj h1.size (.cells none 2 [.str ([] : List UInt8), .str ([] : List UInt8), Ab 0, Ai 0, Ai 0, Ai 0, .str ([] : List UInt8), .str ([] : List UInt8), Ai 0, Ai 0, Ai 0, Ai 0, .slice none 0, .str ([] : List UInt8)]), .obj h.size (.cells none 2 (e_S_api_Head p0)), .lst rp1 40 (lst e_S_api_Pair p1)] F) ∨ False) ?_ ?_
   ·replace hm := ho
    clear ho
    refine aw_block (id := 1) (by kernel_rfl) ?_
    refine aw_sq (aw_dg 8 12 ?_)
    obtain ⟨x47, hx, hm⟩ := bind_some hm
    obtain ⟨i1, er1, _, hx, hq1⟩ := HH.ixO enc_S_api_Pair (by decide) A 5 (xs := p1) rfl hx
    refine at_g1 2 [] 54 (.ptr (some (i1, x11.toNat * 2))) h8 H (fun fr => .of (s_ixL (s := rowS rp1 p1.length) (by kernel_rfl) hx)) fun fr t H => ?_
    refine at_g1 1 [] 56 _ _ H (fun fr => .of (s_ld (by kernel_rfl) (row_ld1 enc_S_api_Pair (HH.row A 5 rfl er1) hq1 (o := 0) rfl))) fun fr t H => ?_
    obtain ⟨x48, hx, hm⟩ := bind_some hm
    obtain ⟨i2, er2, _, hx, hq2⟩ := HH.ixO enc_S_api_Pair (by decide) A 5 (xs := p1) rfl hx
    refine at_g1 2 [] 59 (.ptr (some (i2, x11.toNat * 2))) h8 H (fun fr => .of (s_ixL (s := rowS rp1 p1.length) (by kernel_rfl) hx)) fun fr t H => ?_
    refine at_g1 1 [] 61 _ _ H (fun fr => .of (s_ld (by kernel_rfl) (row_ld1 enc_S_api_Pair (HH.row A 5 rfl er2) hq2 (o := 1) rfl))) fun fr t H => ?_
    refine at_L 2 [(11, .str x47.Key), (12, .str x48.Value)] H fun fr H => aw_sq (aw_sr 3 ?_)
    obtain ⟨x49, hx, hm⟩ := bind_some hm
    obtain ⟨v1, h9, hr, rfl, A1⟩ := ok_boulterref07_known (av := [.str x47.Key]) hx (A.cut 0)
    replace A := A.g00 A1
    refine at_gc1 1 [] 63 hr H fun fr t H => ?_
    refine at_L 1 [(64, .bool (!x49))] H fun fr H => aw_if 64 H hm (fun hb hm H => ?_) fun hb hm H => ?_
    ·refine aw_sq (aw_dg 10 10 ?_)
     refine at_gl 1 [] 66 1 12 A H fun fr t H => ?_
     obtain ⟨x50, hx, hm⟩ := bind_some hm
     obtain ⟨i3, er3, _, hx, hq3⟩ := HH.ixO enc_S_api_Pair (by decide) A 5 (xs := p1) rfl hx
     refine at_g1 2 [] 69 (.ptr (some (i3, x11.toNat * 2))) h9 H (fun fr => .of (s_ixL (s := rowS rp1 p1.length) (by kernel_rfl) hx)) fun fr t H => ?_
     refine at_l1 70 _ _ H (fun fr => .of (s_ldA (by kernel_rfl) (row_ldA enc_S_api_Pair (HH.row A 5 rfl er3) hq3 0 2 (Nat.le_of_ble_eq_true rfl)))) fun fr t H => ?_
     obtain ⟨h10, e5, A⟩ := A.pL 40 (e_S_api_Pair x50)
     refine at_ln 71 (rowV (some h9.size) (([x50] : List S_api_Pair).length)) e5 H fun fr t H => ?_
     obtain ⟨hb, hm⟩ := need_some hm
     obtain ⟨r5, h11, hx, A1⟩ := HH.appO enc_S_api_Pair (by decide) A 1 (xs := x1) (ys := ([x50] : List S_api_Pair)) rfl (row_first A 0 rfl (n := ([x50] : List S_api_Pair).length) (z := 2) rfl (by decide)) rfl rfl hb
     replace A : HH g h11 [.lst (some h9.size) 40 ((e_S_api_Pair x50)), .lst r5 40 (lst e_S_api_Pair (x1 ++ ([x50] : List S_api_Pair))), _, _, _, _, _] F := A1
     replace A := A.k6 1 2 3 4 5 6
     refine at_l1 72 _ _ H (fun fr => .of (s_app (s := rowS r1 x1.length) (by kernel_rfl) hx)) fun fr t H => ?_
     obtain ⟨h12, hx, A1⟩ := A.st 1 rfl (o := 12) (new := [rowV r5 ((x1 ++ ([x50] : List S_api_Pair)).length)]) (ds := [.str x2, .str x3, Ab p0.Kind, Ai p0.Mode, Ai x4, Ai x5, .str x6, .str x7, Ai p0.Major, Ai p0.Minor, Ai x8, Ai x9, rowV r5 ((x1 ++ ([x50] : List S_api_Pair)).length), .str ([] : List UInt8)]) (Nat.le_of_ble_eq_true rfl) rfl rfl
     replace A : HH g h12 [_, .obj h4.size (.cells none 2 [_, _, _, _, _, _, _, _, _, _, _, _, rowV r5 ((x1 ++ ([x50] : List S_api_Pair)).length), _]), _, _, _, _] F := A1
     refine at_gs 1 [] hx H fun fr t H => ?_
     refine at_nl id (aw_exit (i := 1) (by kernel_rfl) ?_)
     exact .inl ⟨_, _, _, _, _, _, _, _, _, _, rfl, injA hm, _, H.ls, A⟩
    refine aw_ks 2 id (at_L 2 [(13, Ai 0), (14, Ai 0)] H fun fr H => aw_sq ?_)
    obtain ⟨o3, ho, hm⟩ := bind_some hm
    refine aw_mono (Q' := fun e fr' h' => (∃ x51 x52 x53 x54, e = .normal ∧ (x51, x52, x53, x54) = o3 ∧ Has fr' 140 [(1, rowV rp1 p1.length), (4, .ptr (some (h1.size, 0))), (7, .ptr (some (h2.size, 0))), (8, .ptr (some (h4.size, 0))), (9, Ai x10), (10, Ai x11), (11, .str x47.Key), (12, .str x48.Value), (13, Ai x53), (14, Ai x54)] ∧ HH g h' [.lst r1 40 (lst e_S_api_Pair x1), .obj h4.size (.cells none 2 [.str x2, .str x3, Ab p0.Kind, Ai p0.Mode, Ai x4, Ai x5, .str x6, .str x7, Ai p0.Major, Ai p0.Minor, Ai x51, Ai x52, rowV r1 x1.length, .str ([] : List UInt8)]), .obj h2.size (.cells none 2 [.str ([] : List UInt8), .str ([] : List UInt8), Ab 0, Ai 0, Ai 0, Ai 0, .str ([] : List UInt8), .str ([] : List UInt8), Ai 0, Ai 0, Ai 0, Ai 0, .slice none 0, .str ([] : List UInt8)]), .obj h1.size (.cells none 2 [.str ([] : List UInt8), .str ([] : List UInt8), Ab 0, Ai 0, Ai 0, Ai 0, .str ([] : List UInt8), .str ([] : List UInt8), Ai 0, Ai 0, Ai 0, Ai 0, .slice none 0, .str ([] : List UInt8)]), .obj h.size (.cells none 2 (e_S_api_Head p0)), .lst rp1 40 (lst e_S_api_Pair p1)] F) ∨ False) ?_ ?_
    ·replace hm := ho
     clear ho
     refine aw_sr 10 (at_sl 3 [(76, .bool (x47.Key == ([103, 105, 100] : List UInt8)))] H fun fr H => at_cl 3 (fun fr' h' => h9 = h' ∧ Has fr' 140 [(1, rowV rp1 p1.length), (4, .ptr (some (h1.size, 0))), (7, .ptr (some (h2.size, 0))), (8, .ptr (some (h4.size, 0))), (9, Ai x10), (10, Ai x11), (11, .str x47.Key), (12, .str x48.Value), (13, Ai 0), (14, Ai 0), (79, .bool ((x47.Key == ([103, 105, 100] : List UInt8)) || (x47.Key == ([117, 105, 100] : List UInt8))))]) ?_ ?_)
     ·cases hb : (x47.Key == ([103, 105, 100] : List UInt8) : Bool) with
      | true =>
       replace H := H.kn 76 hb
       exact at_sl 3 [(79, .bool true)] H fun fr H => at_zb H hb
      | false =>
       replace H := H.kn 76 hb
       exact at_sl 3 [(79, .bool (x47.Key == ([117, 105, 100] : List UInt8)))] H fun fr H => at_zb H hb
     intro t fr h' hK
     obtain ⟨e, H⟩ := hK
     subst e
     refine at_sl 1 [(80, .bool ((x47.Key == ([103, 105, 100] : List UInt8)) || (x47.Key == ([117, 105, 100] : List UInt8))))] H fun fr H => at_cl 3 (fun fr' h' => h9 = h' ∧ Has fr' 140 [(1, rowV rp1 p1.length), (4, .ptr (some (h1.size, 0))), (7, .ptr (some (h2.size, 0))), (8, .ptr (some (h4.size, 0))), (9, Ai x10), (10, Ai x11), (11, .str x47.Key), (12, .str x48.Value), (13, Ai 0), (14, Ai 0), (83, .bool (((x47.Key == ([103, 105, 100] : List UInt8)) || (x47.Key == ([117, 105, 100] : List UInt8))) || (x47.Key == ([115, 105, 122, 101] : List UInt8))))]) ?_ ?_
     ·cases hb : ((x47.Key == ([103, 105, 100] : List UInt8)) || (x47.Key == ([117, 105, 100] : List UInt8)) : Bool) with
      | true =>
       replace H := H.kn 80 hb
       exact at_sl 3 [(83, .bool true)] H fun fr H => at_zb H hb
      | false =>
       replace H := H.kn 80 hb
       exact at_sl 3 [(83, .bool (x47.Key == ([115, 105, 122, 101] : List UInt8)))] H fun fr H => at_zb H hb
     intro t fr h' hK
     obtain ⟨e, H⟩ := hK
     subst e
     refine at_nl id (aw_if 83 H hm (fun hb hm H => ?_) fun hb hm H => ?_)
     ·refine aw_rg 7 ?_
      obtain ⟨⟨x55, x56⟩, hx, hm⟩ := bind_some hm
      obtain ⟨v1, h13, hr, rfl, A1⟩ := ok_boulterref07_number (av := [.str x48.Value]) hx (A.cut 0)
      replace A := A.g00 A1
      refine at_gc1 1 [] 86 hr H fun fr t H => ?_
      refine at_se 5 [(1, rowV rp1 p1.length), (4, .ptr (some (h1.size, 0))), (7, .ptr (some (h2.size, 0))), (8, .ptr (some (h4.size, 0))), (9, Ai x10), (10, Ai x11), (11, .str x47.Key), (12, .str x48.Value), (13, Ai x55), (14, Ai x56)] H fun fr H => at_nil ?_
      exact .inl ⟨_, _, _, _, rfl, injA hm, H.ls, A⟩
     refine aw_sr 2 (at_L 2 [(90, .bool (x47.Key == ([109, 116, 105, 109, 101] : List UInt8)))] H fun fr H => aw_if 90 H hm (fun hb hm H => ?_) fun hb hm H => ?_)
     ·refine aw_sr 9 ?_
      obtain ⟨⟨x57, x58, x59⟩, hx, hm⟩ := bind_some hm
      obtain ⟨v1, h14, hr, rfl, A1⟩ := ok_boulterref04_Parse (av := [.str x48.Value]) hx (A.cut 0)
      replace A := A.g00 A1
      refine at_gc1 1 [] 93 hr H fun fr t H => ?_
      refine at_S 7 [(15, Ai x57), (16, Ai x58), (17, Ai x59)] 5 H fun fr H => ?_
      obtain ⟨h15, hx, A⟩ := A.s1 10 [Ai x57, Ai x58] [_, _, _, _, _, _, _, _, _, _, _, _, _, _]
      refine at_gS 4 [] hx H fun fr t H => ?_
      refine at_nr 2 id (at_se 2 [(1, rowV rp1 p1.length), (4, .ptr (some (h1.size, 0))), (7, .ptr (some (h2.size, 0))), (8, .ptr (some (h4.size, 0))), (9, Ai x10), (10, Ai x11), (11, .str x47.Key), (12, .str x48.Value), (13, Ai 0), (14, Ai x59)] H fun fr H => at_nil ?_)
      exact .inl ⟨_, _, _, _, rfl, injA hm, H.ls, A⟩
     refine aw_sr 4 ?_
     obtain ⟨x60, hx, hm⟩ := bind_some hm
     obtain ⟨v1, h16, hr, rfl, A1⟩ := ok_boulterref02_Read (av := [.str x48.Value]) hx (A.cut 0)
     replace A := A.g00 A1
     refine at_gc1 1 [] 103 hr H fun fr t H => ?_
     refine at_L 2 [(105, .bool (!(x60 == x48.Value)))] H fun fr H => aw_if 105 H hm (fun hb hm H => ?_) fun hb hm H => ?_
     ·refine aw_rg 1 (at_se 1 [(1, rowV rp1 p1.length), (4, .ptr (some (h1.size, 0))), (7, .ptr (some (h2.size, 0))), (8, .ptr (some (h4.size, 0))), (9, Ai x10), (10, Ai x11), (11, .str x47.Key), (12, .str x48.Value), (13, Ai 0), (14, Ai 2)] H fun fr H => at_nil ?_)
      exact .inl ⟨_, _, _, _, rfl, injA hm, H.ls, A⟩
     exact aw_sk (.inl ⟨_, _, _, _, rfl, injA hm, H.ls, A⟩)
    clear ho
    clear A
    intro e fr h17 hQ
    rcases hQ with ⟨x51, x52, x53, x54, rfl, rfl, H, A⟩ | hF
    ·show AW _ _ _ _ _ _ _
     refine aw_sq (aw_sr 2 (at_L 2 [(107, .bool (x54 != 0))] H fun fr H => aw_if 107 H hm (fun hb hm H => ?_) fun hb hm H => ?_))
     ·refine aw_sr 5 (at_l1 108 _ _ H (fun fr => .of (s_ldA (by kernel_rfl) (A.ldA 2 rfl (o := 0) (n := 14) ⟨Nat.le_of_ble_eq_true rfl, rfl⟩))) fun fr t H => ?_)
      obtain ⟨h18, hx, A⟩ := A.s3 0 [.str ([] : List UInt8), .str ([] : List UInt8), Ab 0, Ai 0, Ai 0, Ai 0, .str ([] : List UInt8), .str ([] : List UInt8), Ai 0, Ai 0, Ai 0, Ai 0, .slice none 0, .str ([] : List UInt8)] [_, _, _, _, _, _, _, _, _, _, _, _, _, _]
      refine at_gS 1 [(109, Ai x54)] hx H fun fr t H => ?_
      refine at_L 2 [(5, Ai 0), (6, Ai x54)] H fun fr H => aw_rt ?_
      exact .inr (.inl ⟨_, _, _, _, rfl, injA hm, H.ls, A⟩)
     refine aw_ks 1 id (at_L 1 [(110, .str x47.Key)] H fun fr H => aw_block (id := 2) (by kernel_rfl) ?_)
     refine aw_sr 2 (at_L 2 [(111, .bool (x47.Key == ([103, 105, 100] : List UInt8)))] H fun fr H => aw_if 111 H hm (fun hb hm H => ?_) fun hb hm H => ?_)
     ·refine aw_rg 3 ?_
      obtain ⟨h19, hx, A⟩ := A.s1 5 [Ai x53] [_, _, _, _, _, _, _, _, _, _, _, _, _, _]
      refine at_gs 2 [] hx H fun fr t H => ?_
      refine at_nil ?_
      exact .inl ⟨_, _, _, _, _, _, _, _, _, _, rfl, injA hm, _, H.ls, A⟩
     refine aw_sr 2 (at_L 2 [(115, .bool (x47.Key == ([117, 105, 100] : List UInt8)))] H fun fr H => aw_if 115 H hm (fun hb hm H => ?_) fun hb hm H => ?_)
     ·refine aw_rg 3 ?_
      obtain ⟨h20, hx, A⟩ := A.s1 4 [Ai x53] [_, _, _, _, _, _, _, _, _, _, _, _, _, _]
      refine at_gs 2 [] hx H fun fr t H => ?_
      refine at_nil ?_
      exact .inl ⟨_, _, _, _, _, _, _, _, _, _, rfl, injA hm, _, H.ls, A⟩
     refine aw_sr 2 (at_L 2 [(119, .bool (x47.Key == ([115, 105, 122, 101] : List UInt8)))] H fun fr H => aw_if 119 H hm (fun hb hm H => ?_) fun hb hm H => ?_)
     ·refine aw_rg 2 (at_se 2 [(1, rowV rp1 p1.length), (4, .ptr (some (h1.size, 0))), (7, .ptr (some (h2.size, 0))), (8, .ptr (some (h4.size, 0))), (9, Ai x53), (10, Ai x11)] H fun fr H => at_nil ?_)
      exact .inl ⟨_, _, _, _, _, _, _, _, _, _, rfl, injA hm, _, H.ls, A⟩
     refine aw_sr 2 (at_L 2 [(122, .bool (x47.Key == ([103, 110, 97, 109, 101] : List UInt8)))] H fun fr H => aw_if 122 H hm (fun hb hm H => ?_) fun hb hm H => ?_)
     ·refine aw_rg 3 ?_
      obtain ⟨h21, hx, A⟩ := A.s1 7 [.str x48.Value] [_, _, _, _, _, _, _, _, _, _, _, _, _, _]
      refine at_gs 2 [] hx H fun fr t H => ?_
      refine at_nil ?_
      exact .inl ⟨_, _, _, _, _, _, _, _, _, _, rfl, injA hm, _, H.ls, A⟩
     refine aw_sr 2 (at_L 2 [(126, .bool (x47.Key == ([117, 110, 97, 109, 101] : List UInt8)))] H fun fr H => aw_if 126 H hm (fun hb hm H => ?_) fun hb hm H => ?_)
     ·refine aw_rg 3 ?_
      obtain ⟨h22, hx, A⟩ := A.s1 6 [.str x48.Value] [_, _, _, _, _, _, _, _, _, _, _, _, _, _]
      refine at_gs 2 [] hx H fun fr t H => ?_
      refine at_nil ?_
      exact .inl ⟨_, _, _, _, _, _, _, _, _, _, rfl, injA hm, _, H.ls, A⟩
     refine aw_sr 2 (at_L 2 [(130, .bool (x47.Key == ([112, 97, 116, 104] : List UInt8)))] H fun fr H => aw_if 130 H hm (fun hb hm H => ?_) fun hb hm H => ?_)
     ·refine aw_rg 3 ?_
      obtain ⟨h23, hx, A⟩ := A.s1 0 [.str x48.Value] [_, _, _, _, _, _, _, _, _, _, _, _, _, _]
      refine at_gs 2 [] hx H fun fr t H => ?_
      refine at_nil ?_
      exact .inl ⟨_, _, _, _, _, _, _, _, _, _, rfl, injA hm, _, H.ls, A⟩
     refine aw_sr 2 (at_L 2 [(134, .bool (x47.Key == ([108, 105, 110, 107, 112, 97, 116, 104] : List UInt8)))] H fun fr H => aw_if 134 H hm (fun hb hm H => ?_) fun hb hm H => ?_)
     ·refine aw_rg 3 ?_
      obtain ⟨h24, hx, A⟩ := A.s1 1 [.str x48.Value] [_, _, _, _, _, _, _, _, _, _, _, _, _, _]
      refine at_gs 2 [] hx H fun fr t H => ?_
      refine at_nil ?_
      exact .inl ⟨_, _, _, _, _, _, _, _, _, _, rfl, injA hm, _, H.ls, A⟩
     exact aw_sk (.inl ⟨_, _, _, _, _, _, _, _, _, _, rfl, injA hm, _, H.ls, A⟩)
    exact hF.elim
   clear ho
   clear A
   intro e fr h25 hQ
   rcases hQ with ⟨x33, x34, x35, x36, x37, x38, x39, x40, x41, x42, rfl, rfl, r4, H, A⟩ | ⟨x43, x44, x45, x46, rfl, rfl, H, A⟩ | hF
   ·show AW _ _ _ _ _ _ _
    refine aw_rg 3 (at_se 3 [(1, rowV rp1 p1.length), (4, .ptr (some (h1.size, 0))), (7, .ptr (some (h2.size, 0))), (8, .ptr (some (h4.size, 0))), (9, Ai x42), (10, Ai (IntKind.i64.wrap (x11 + 1)))] H fun fr H => at_nil ?_)
    exact nx hm ⟨_, _, _, _, _, _, _, _, _, _, _, rfl, _, H.ls, A⟩
   ·exact nr hm fun e => Or.inr (.inl ⟨_, _, _, _, _, _, _, _, _, _, _, rfl, e, _, H.ls, A⟩)
   exact hF.elim
  refine aw_exit (i := 0) (by kernel_rfl) ?_
  exact nr hm fun e => .inl ⟨_, _, _, _, _, _, _, _, _, _, rfl, e, _, H.ls, A⟩
 clear ho
 clear A
 intro e fr h26 hQ
 rcases hQ with ⟨x12, x13, x14, x15, x16, x17, x18, x19, x20, x21, rfl, rfl, r2, H, A⟩ | ⟨x22, x23, x24, x25, x26, x27, x28, x29, x30, x31, x32, rfl, rfl, r3, H, A⟩ | hF
 ·show AW _ _ _ _ _ _ _
  refine aw_sr 5 (at_l1 138 _ _ H (fun fr => .of (s_ldA (by kernel_rfl) (A.ldA 1 rfl (o := 0) (n := 14) ⟨Nat.le_of_ble_eq_true rfl, rfl⟩))) fun fr t H => ?_)
  obtain ⟨h27, hx, A⟩ := A.s3 0 [.str x13, .str x14, Ab p0.Kind, Ai p0.Mode, Ai x15, Ai x16, .str x17, .str x18, Ai p0.Major, Ai p0.Minor, Ai x19, Ai x20, rowV r2 x12.length, .str ([] : List UInt8)] [_, _, _, _, _, _, _, _, _, _, _, _, _, _]
  refine at_gS 1 [(139, Ai x21)] hx H fun fr t H => ?_
  refine at_L 2 [(5, Ai x21), (6, Ai 0)] H fun fr H => aw_rt ?_
  obtain ⟨rfl, rfl, rfl⟩ := injC hm
  refine ⟨.inl rfl, .tuple [.agg [.str x13, .str x14, Ab p0.Kind, Ai p0.Mode, Ai x15, Ai x16, .str x17, .str x18, Ai p0.Major, Ai p0.Minor, Ai x19, Ai x20, rowV r2 x12.length, .str ([] : List UInt8)], Ai x21, Ai 0], resL_many (.cell (rT H) (load_ldA (by kernel_rfl) (by kernel_rfl) (A.la 3 0 14)) (.tmp (rT H) (.tmp (rT H) .nil))), ?_⟩
  obtain ⟨h28, hz0, A1⟩ := (A.front 0 rfl).frz (n := x12.length) (z := 2) (enc_S_api_Pair.lenL _) (by decide)
  replace A : HH g h28 [_, _, _, _, _] F := A1
  refine ⟨.tuple [.agg [.str x13, .str x14, Ab p0.Kind, Ai p0.Mode, Ai x15, Ai x16, .str x17, .str x18, Ai p0.Major, Ai p0.Minor, Ai x19, Ai x20, vs e_S_api_Pair x12, .str ([] : List UInt8)], Ai x21, Ai 0], h28, by first | rfl | (simp only [fz3T, fz3A, fz3B, fz3R, fz2A, fz2R, fz2V, fz2I, fz2B, fz2S, fz2N, fzL0, fzL1, fz1I, fz1B, fz1S, fz1V, fz1N, Option.map_some, hz0] <;> rfl), ?_⟩
  replace A := A.k1 4
  exact ⟨rfl, A⟩
 ·obtain ⟨rfl, rfl, rfl⟩ := injC hm
  refine ⟨.inl rfl, .tuple [.agg [.str ([] : List UInt8), .str ([] : List UInt8), Ab 0, Ai 0, Ai 0, Ai 0, .str ([] : List UInt8), .str ([] : List UInt8), Ai 0, Ai 0, Ai 0, Ai 0, .slice none 0, .str ([] : List UInt8)], Ai x31, Ai x32], resL_many (.cell (rT H) (load_ldA (by kernel_rfl) (by kernel_rfl) (A.la 3 0 14)) (.tmp (rT H) (.tmp (rT H) .nil))), ?_⟩
  refine ⟨.tuple [.agg [.str ([] : List UInt8), .str ([] : List UInt8), Ab 0, Ai 0, Ai 0, Ai 0, .str ([] : List UInt8), .str ([] : List UInt8), Ai 0, Ai 0, Ai 0, Ai 0, vs e_S_api_Pair ([] : List S_api_Pair), .str ([] : List UInt8)], Ai x31, Ai x32], h26, by first | rfl | (simp only [fz3T, fz3A, fz3B, fz3R, fz2A, fz2R, fz2V, fz2I, fz2B, fz2S, fz2N, fzL0, fzL1, fz1I, fz1B, fz1S, fz1V, fz1N, Option.map_some] <;> rfl), ?_⟩
  replace A := A.k1 5
  exact ⟨rfl, A⟩
 exact hF.elim
def M_boulterref06_Same_L0 (p0 : List S_api_Pair) (p1 : List S_api_Pair) (s : Int) : Option ((Int) ⊕ ((Unit) ⊕ (Bool))) :=
 match s with
 | x1 => iteB (decide (x1 < (p0.length : Int))) ((ixV p0 x1).bind fun x3 => (ixV p1 x1).bind fun x4 => (eqG cfg.P 40 [.str x3.Key, .str x3.Value] [.str x4.Key, .str x4.Value]).bind fun x5 => iteB (!x5) (some (.inr (.inr false))) (some (.inl (IntKind.i64.wrap (x1 + 1))))) (some (.inr (.inl ())))
def M_boulterref06_Same (p0 : List S_api_Pair) (p1 : List S_api_Pair) : Option (Bool) :=
 iteB ((p0.length : Int) != (p1.length : Int)) (some false) ((loop (M_boulterref06_Same_L0 p0 p1) (0 : Int)).bind fun o1 => (match o1 with | .inl _ => some true | .inr x2 => some x2))
theorem ok_boulterref06_Same {p0 p1 q0} (hm : M_boulterref06_Same p0 p1 = some q0) (A : HH g h [] F) (hc : canL (cfg.still 12) av = [vs e_S_api_Pair p0, vs e_S_api_Pair p1] := by kernel_rfl) : ∃ v h', Runs cfg g h 12 av v h' ∧ v = .bool q0 ∧ HH g h' [] F := by
 refine rq1 26 [.tmp 4] hc ?_
 clear hc
 unfold M_boulterref06_Same at hm
 refine bg 26 [(0, vs e_S_api_Pair p0), (1, vs e_S_api_Pair p1)] fun fr H => ?_
 refine aw_sr 1 (at_L 1 [] H fun fr H => aw_sq (aw_sr 5 (at_L 5 [(10, .bool ((p0.length : Int) != (p1.length : Int)))] H fun fr H => aw_if 10 H hm (fun hb hm H => ?_) fun hb hm H => ?_)))
 ·refine aw_sr 1 (at_L 1 [(4, .bool false)] H fun fr H => aw_rt ?_)
  obtain rfl := injA hm
  exact ⟨.inl rfl, _, rH H, rfl, A⟩
 refine aw_kn id (aw_sq (aw_sr 1 (at_L 1 [(5, Ai 0)] H fun fr H => aw_block (id := 0) (by kernel_rfl) ?_)))
 obtain ⟨o1, ho, hm⟩ := bind_some hm
 refine aw_mono (Q' := fun e fr' h' => (e = .exit 0 ∧ .inl () = o1 ∧ Has fr' 26 [] ∧ HH g h' [] F) ∨ (∃ x2, e = .ret ∧ .inr x2 = o1 ∧ Has fr' 26 [(4, .bool x2)] ∧ HH g h' [] F) ∨ False) ?_ ?_
 ·refine aw_loop (by kernel_rfl) (fun (s : Int) fr' h' => ∃ x1, x1 = s ∧ Has fr' 26 [(0, vs e_S_api_Pair p0), (1, vs e_S_api_Pair p1), (5, Ai x1)] ∧ HH g h' [] F) ho ⟨_, rfl, H.ls, A⟩ ?_
  clear ho hm H A
  intro s q fr h1 hI hm
  obtain ⟨x1, rfl, H, A⟩ := hI
  unfold M_boulterref06_Same_L0 at hm
  refine aw_sq (aw_sr 4 (at_L 4 [(14, .bool (decide (x1 < (p0.length : Int))))] H fun fr H => aw_if 14 H hm (fun hb hm H => ?_) fun hb hm H => ?_))
  ·refine aw_kn id (aw_sq (aw_block (id := 1) (by kernel_rfl) ?_))
   refine aw_sq (aw_dg 6 9 ?_)
   obtain ⟨x3, hx, hm⟩ := bind_some hm
   refine at_g1 2 [] 19 (.vptr [.str x3.Key, .str x3.Value]) h1 H (fun fr => .of (s_ixV (e := e_S_api_Pair) (x := x3) enc_S_api_Pair (by decide) (by kernel_rfl) hx)) fun fr t H => ?_
   refine at_l1 20 (.agg [.str x3.Key, .str x3.Value]) h1 H (fun fr => .of (s_lv (by kernel_rfl))) fun fr t H => ?_
   obtain ⟨x4, hx, hm⟩ := bind_some hm
   refine at_g1 2 [] 23 (.vptr [.str x4.Key, .str x4.Value]) h1 H (fun fr => .of (s_ixV (e := e_S_api_Pair) (x := x4) enc_S_api_Pair (by decide) (by kernel_rfl) hx)) fun fr t H => ?_
   refine at_l1 24 (.agg [.str x4.Key, .str x4.Value]) h1 H (fun fr => .of (s_lv (by kernel_rfl))) fun fr t H => ?_
   obtain ⟨x5, hx, hm⟩ := bind_some hm
   refine at_l1 25 (.bool (!x5)) h1 H (fun fr => .of (s_neG (by kernel_rfl) hx)) fun fr t H => ?_
   refine at_nl id (aw_if 25 H hm (fun hb hm H => ?_) fun hb hm H => ?_)
   ·refine aw_sr 1 (at_L 1 [(4, .bool false)] H fun fr H => aw_rt ?_)
    exact nr hm fun e => Or.inr (.inl ⟨_, rfl, e, H.ls, A⟩)
   refine aw_kr 3 id (at_se 3 [(0, vs e_S_api_Pair p0), (1, vs e_S_api_Pair p1), (5, Ai (IntKind.i64.wrap (x1 + 1)))] H fun fr H => at_nil ?_)
   exact nx hm ⟨_, rfl, H.ls, A⟩
  refine aw_exit (i := 0) (by kernel_rfl) ?_
  exact nr hm fun e => .inl ⟨rfl, e, H.ls, A⟩
 clear ho
 clear A
 intro e fr h2 hQ
 rcases hQ with ⟨rfl, rfl, H, A⟩ | ⟨x2, rfl, rfl, H, A⟩ | hF
 ·show AW _ _ _ _ _ _ _
  refine aw_sr 1 (at_L 1 [(4, .bool true)] H fun fr H => aw_rt ?_)
  obtain rfl := injA hm
  exact ⟨.inl rfl, _, rH H, rfl, A⟩
 ·obtain rfl := injA hm
  exact ⟨.inl rfl, _, rH H, rfl, A⟩
 exact hF.elim
end
end Go.Av.L
