/-
 A part.
-/
import Derived.Test.YtlljeoogceblmaaGreatDoorKCfg
import Derived.Test.YtlljeoogceblmaaGreatDoorK0
import Derived.Test.YtlljeoogceblmaaGreatDoorK1
namespace Go.Av.L
open Go.Av Go.Lib
set_option maxRecDepth 10000
set_option linter.unusedVariables false
set_option linter.unusedSimpArgs false
variable {g : Gd} {h : AD} {F : List Ck} {av : List AA}
noncomputable section
def DL (p0 : List UInt8) (p1_0 : AL) : Option (Int × AL) :=
 (Au p0 (0 : Int)).bind fun x1 => Ad (decide (x1 ≥ 0)) (some ((2 : Int), p1_0)) (some ((0 : Int), (⟨p1_0.Name, p1_0.AU, p1_0.Kind, p1_0.Mode, p1_0.BP, p1_0.BQ, p0, p1_0.AO, p1_0.Aa, p1_0.Ag, p1_0.Time, p1_0.Extra, p1_0.Data⟩ : AL)))
theorem IV {p0 p1_0 bp1_0 rp1_0_12 q0 u0} (hm : DL p0 p1_0 = some (q0, u0)) (A : HH g h [.obj bp1_0 (.cells none 2 (Ar p1_0 (Af rp1_0_12 p1_0.Extra.length))), .Ak rp1_0_12 117 (Ak AE p1_0.Extra)] F) (hc : BG (cfg.still 195) av = [.str p0, .AR [.ptr (some (bp1_0, 6))]] := by kernel_rfl) : ∃ v h', BH cfg g h 195 av v h' ∧ v = Ai q0 ∧ HH g h' [.obj bp1_0 (.cells none 2 (Ar u0 (Af rp1_0_12 p1_0.Extra.length))), .Ak rp1_0_12 117 (Ak AE p1_0.Extra)] F := by
 refine ES 10 [.tmp 3] hc ?_
 clear hc
 unfold DL at hm
 refine bg 10 [(0, .str p0), (1, .AR [.ptr (some (bp1_0, 6))])] fun fr H => ?_
 refine AG 1 (AK 1 [] H fun fr H => AP (AG 3 ?_))
 obtain ⟨x1, hx, hm⟩ := bind_some hm
 obtain ⟨v1, h1, hr, rfl, A1⟩ := Bo (av := [.str p0, Ab 0]) hx (A.cut 0)
 replace A := A.DN A1
 refine A6 1 [] 5 hr H fun fr t H => ?_
 refine AK 1 [(6, .bool (decide (x1 ≥ 0)))] H fun fr H => AZ 6 H hm (fun hb hm H => ?_) fun hb hm H => ?_
 ·refine AG 1 (AK 1 [(3, Ai 2)] H fun fr H => AS ?_)
  obtain ⟨rfl, rfl⟩ := BD hm
  exact ⟨.inl rfl, _, rH H, rfl, A⟩
 refine Br 4 id (Ae 7 (.ptr (some (bp1_0, 6))) h1 H (fun fr => .of (Kz (by kernel_rfl))) fun fr t H => ?_)
 obtain ⟨h2, hx, A⟩ := A.s0 6 [.str p0] [_, _, _, _, _, _, _, _, _, _, _, _, _, _]
 refine CF 2 [] hx H fun fr t H => ?_
 refine CJ 1 id (AK 1 [(3, Ai 0)] H fun fr H => AS ?_)
 obtain ⟨rfl, rfl⟩ := BD hm
 exact ⟨.inl rfl, _, rH H, rfl, A⟩
def Dd (p0 : List UInt8) (p1_0 : AL) : Option (Int × AL) :=
 (Au p0 (0 : Int)).bind fun x1 => Ad (decide (x1 ≥ 0)) (some ((2 : Int), p1_0)) (some ((0 : Int), (⟨p0, p1_0.AU, p1_0.Kind, p1_0.Mode, p1_0.BP, p1_0.BQ, p1_0.AN, p1_0.AO, p1_0.Aa, p1_0.Ag, p1_0.Time, p1_0.Extra, p1_0.Data⟩ : AL)))
theorem I2 {p0 p1_0 bp1_0 rp1_0_12 q0 u0} (hm : Dd p0 p1_0 = some (q0, u0)) (A : HH g h [.obj bp1_0 (.cells none 2 (Ar p1_0 (Af rp1_0_12 p1_0.Extra.length))), .Ak rp1_0_12 117 (Ak AE p1_0.Extra)] F) (hc : BG (cfg.still 195) av = [.str p0, .AR [.ptr (some (bp1_0, 0))]] := by kernel_rfl) : ∃ v h', BH cfg g h 195 av v h' ∧ v = Ai q0 ∧ HH g h' [.obj bp1_0 (.cells none 2 (Ar u0 (Af rp1_0_12 p1_0.Extra.length))), .Ak rp1_0_12 117 (Ak AE p1_0.Extra)] F := by
 refine ES 10 [.tmp 3] hc ?_
 clear hc
 unfold Dd at hm
 refine bg 10 [(0, .str p0), (1, .AR [.ptr (some (bp1_0, 0))])] fun fr H => ?_
 refine AG 1 (AK 1 [] H fun fr H => AP (AG 3 ?_))
 obtain ⟨x1, hx, hm⟩ := bind_some hm
 obtain ⟨v1, h1, hr, rfl, A1⟩ := Bo (av := [.str p0, Ab 0]) hx (A.cut 0)
 replace A := A.DN A1
 refine A6 1 [] 5 hr H fun fr t H => ?_
 refine AK 1 [(6, .bool (decide (x1 ≥ 0)))] H fun fr H => AZ 6 H hm (fun hb hm H => ?_) fun hb hm H => ?_
 ·refine AG 1 (AK 1 [(3, Ai 2)] H fun fr H => AS ?_)
  obtain ⟨rfl, rfl⟩ := BD hm
  exact ⟨.inl rfl, _, rH H, rfl, A⟩
 refine Br 4 id (Ae 7 (.ptr (some (bp1_0, 0))) h1 H (fun fr => .of (Kz (by kernel_rfl))) fun fr t H => ?_)
 obtain ⟨h2, hx, A⟩ := A.s0 0 [.str p0] [_, _, _, _, _, _, _, _, _, _, _, _, _, _]
 refine CF 2 [] hx H fun fr t H => ?_
 refine CJ 1 id (AK 1 [(3, Ai 0)] H fun fr H => AS ?_)
 obtain ⟨rfl, rfl⟩ := BD hm
 exact ⟨.inl rfl, _, rH H, rfl, A⟩
def DJ (p0 : List UInt8) (p1_0 : AL) : Option (Int × AL) :=
 (Au p0 (0 : Int)).bind fun x1 => Ad (decide (x1 ≥ 0)) (some ((2 : Int), p1_0)) (some ((0 : Int), (⟨p1_0.Name, p0, p1_0.Kind, p1_0.Mode, p1_0.BP, p1_0.BQ, p1_0.AN, p1_0.AO, p1_0.Aa, p1_0.Ag, p1_0.Time, p1_0.Extra, p1_0.Data⟩ : AL)))
theorem IW {p0 p1_0 bp1_0 rp1_0_12 q0 u0} (hm : DJ p0 p1_0 = some (q0, u0)) (A : HH g h [.obj bp1_0 (.cells none 2 (Ar p1_0 (Af rp1_0_12 p1_0.Extra.length))), .Ak rp1_0_12 117 (Ak AE p1_0.Extra)] F) (hc : BG (cfg.still 195) av = [.str p0, .AR [.ptr (some (bp1_0, 1))]] := by kernel_rfl) : ∃ v h', BH cfg g h 195 av v h' ∧ v = Ai q0 ∧ HH g h' [.obj bp1_0 (.cells none 2 (Ar u0 (Af rp1_0_12 p1_0.Extra.length))), .Ak rp1_0_12 117 (Ak AE p1_0.Extra)] F := by
 refine ES 10 [.tmp 3] hc ?_
 clear hc
 unfold DJ at hm
 refine bg 10 [(0, .str p0), (1, .AR [.ptr (some (bp1_0, 1))])] fun fr H => ?_
 refine AG 1 (AK 1 [] H fun fr H => AP (AG 3 ?_))
 obtain ⟨x1, hx, hm⟩ := bind_some hm
 obtain ⟨v1, h1, hr, rfl, A1⟩ := Bo (av := [.str p0, Ab 0]) hx (A.cut 0)
 replace A := A.DN A1
 refine A6 1 [] 5 hr H fun fr t H => ?_
 refine AK 1 [(6, .bool (decide (x1 ≥ 0)))] H fun fr H => AZ 6 H hm (fun hb hm H => ?_) fun hb hm H => ?_
 ·refine AG 1 (AK 1 [(3, Ai 2)] H fun fr H => AS ?_)
  obtain ⟨rfl, rfl⟩ := BD hm
  exact ⟨.inl rfl, _, rH H, rfl, A⟩
 refine Br 4 id (Ae 7 (.ptr (some (bp1_0, 1))) h1 H (fun fr => .of (Kz (by kernel_rfl))) fun fr t H => ?_)
 obtain ⟨h2, hx, A⟩ := A.s0 1 [.str p0] [_, _, _, _, _, _, _, _, _, _, _, _, _, _]
 refine CF 2 [] hx H fun fr t H => ?_
 refine CJ 1 id (AK 1 [(3, Ai 0)] H fun fr H => AS ?_)
 obtain ⟨rfl, rfl⟩ := BD hm
 exact ⟨.inl rfl, _, rH H, rfl, A⟩
def C5 (p0 : List UInt8) (p1 : List UInt8) : Option (Bool) :=
 (Ad (decide ((p0.length : Int) ≥ (p1.length : Int))) ((FF p0 none (some (p1.length : Int))).bind fun x2 => some (x2 == p1)) (some false) : Option (Bool)).bind fun x1 => some x1
theorem H4 {p0 p1 q0} (hm : C5 p0 p1 = some q0) (A : HH g h [] F) (hc : BG (cfg.still 210) av = [.str p0, .str p1] := by kernel_rfl) : ∃ v h', BH cfg g h 210 av v h' ∧ v = .bool q0 ∧ HH g h' [] F := by
 refine ES 18 [.tmp 4] hc ?_
 clear hc
 unfold C5 at hm
 refine bg 18 [(0, .str p0), (1, .str p1)] fun fr H => ?_
 refine AG 1 (Bg 1 [] 14 H fun fr H => AM 6 [(10, .bool (decide ((p0.length : Int) ≥ (p1.length : Int))))] H fun fr H => ?_)
 obtain ⟨x1, ho, hm⟩ := bind_some hm
 refine A5 7 (fun fr' h' => Has fr' 18 [(17, .bool x1)] ∧ HH g h' [] F) ?_ ?_
 ·rcases Ax ho with ⟨hb, hm⟩ | ⟨hb, hm⟩
  ·replace H := H.kn 10 hb
   obtain ⟨x2, hx, hm⟩ := bind_some hm
   refine BC 3 [] 14 (.str x2) h H (fun fr => .of (Fe (k := .i64) (k' := .i64) (lo := none) (hi := (some (p1.length : Int))) (by kernel_rfl) hx)) fun fr t H => ?_
   refine AM 3 [(17, .bool (x2 == p1))] H fun fr H => ?_
   obtain rfl := An hm
   exact at_nil ⟨H.ls, A⟩
  replace H := H.kn 10 hb
  refine AM 7 [(17, .bool false)] H fun fr H => ?_
  obtain rfl := An hm
  exact at_nil ⟨H.ls, A⟩
 clear A
 intro t fr h1 hK
 obtain ⟨H, A⟩ := hK
 refine AK 1 [(4, .bool x1)] H fun fr H => AS ?_
 obtain rfl := An hm
 exact ⟨.inl rfl, _, rH H, rfl, A⟩
def C2 (p0 : List UInt8) (p1 : List UInt8) : Option ((List UInt8) × Bool) :=
 (C5 p0 p1).bind fun x1 => Ad (!x1) (some (p0, false)) ((FF p0 (some (p1.length : Int)) none).bind fun x2 => some (x2, true))
theorem ID {p0 p1 q0 q1} (hm : C2 p0 p1 = some (q0, q1)) (A : HH g h [] F) (hc : BG (cfg.still 227) av = [.str p0, .str p1] := by kernel_rfl) : ∃ v h', BH cfg g h 227 av v h' ∧ v = .tuple [.str q0, .bool q1] ∧ HH g h' [] F := by
 refine ES 15 [.tmp 4, .tmp 5] hc ?_
 clear hc
 unfold C2 at hm
 refine bg 15 [(0, .str p0), (1, .str p1)] fun fr H => ?_
 refine AG 2 (AK 2 [] H fun fr H => AP (AG 4 ?_))
 obtain ⟨x1, hx, hm⟩ := bind_some hm
 obtain ⟨v1, h1, hr, rfl, A1⟩ := H4 (av := [.str p0, .str p1]) hx (A.cut 0)
 replace A := A.DN A1
 refine A6 2 [] 8 hr H fun fr t H => ?_
 refine AK 1 [(9, .bool (!x1))] H fun fr H => AZ 9 H hm (fun hb hm H => ?_) fun hb hm H => ?_
 ·refine AG 3 (AK 3 [(4, .str p0), (5, .bool false)] H fun fr H => AS ?_)
  obtain ⟨rfl, rfl⟩ := BD hm
  exact ⟨.inl rfl, _, rH H, rfl, A⟩
 refine Br 6 id ?_
 obtain ⟨x2, hx, hm⟩ := bind_some hm
 refine BC 3 [] 14 (.str x2) h1 H (fun fr => .of (Fe (k := .i64) (k' := .i64) (lo := (some (p1.length : Int))) (hi := none) (by kernel_rfl) hx)) fun fr t H => ?_
 refine AK 2 [(4, .str x2), (5, .bool true)] H fun fr H => AS ?_
 obtain ⟨rfl, rfl⟩ := BD hm
 exact ⟨.inl rfl, _, rH H, rfl, A⟩
def DE (p0 : List UInt8) (p1 : List UInt8) : Option ((List UInt8) × Bool) :=
 (C2 p0 p1).bind fun (x1, x2) => some (x1, x2)
theorem J0 {p0 p1 q0 q1} (hm : DE p0 p1 = some (q0, q1)) (A : HH g h [] F) (hc : BG (cfg.still 196) av = [.str p0, .str p1] := by kernel_rfl) : ∃ v h', BH cfg g h 196 av v h' ∧ v = .tuple [.str q0, .bool q1] ∧ HH g h' [] F := by
 refine ES 11 [.tmp 4, .tmp 5] hc ?_
 clear hc
 unfold DE at hm
 refine bg 11 [(0, .str p0), (1, .str p1)] fun fr H => ?_
 refine AG 2 (Bg 2 [] 7 H fun fr H => ?_)
 obtain ⟨⟨x1, x2⟩, hx, hm⟩ := bind_some hm
 obtain ⟨v1, h1, hr, rfl, A1⟩ := ID (av := [.str p0, .str p1]) hx (A.cut 0)
 replace A := A.DN A1
 refine A6 2 [] 8 hr H fun fr t H => ?_
 refine AK 4 [(4, .str x1), (5, .bool x2)] H fun fr H => AS ?_
 obtain ⟨rfl, rfl⟩ := BD hm
 exact ⟨.inl rfl, _, rH H, rfl, A⟩
def Dl (p0 : List UInt8) (s : Int × Int) : Option ((Int × Int) ⊕ ((Int) ⊕ (Int × Bool))) :=
 match s with
 | (x1, x2) => Ad (decide (x2 < (p0.length : Int))) (((LN p0 x2).bind fun x9 => (Ad (decide (x9 < 48)) (some true) ((LN p0 x2).bind fun x11 => some (decide (x11 > 57))) : Option (Bool)).bind fun x10 => Ad x10 (some (.inr ((0 : Int), false))) (Ad (decide (x2 < 16)) ((LN p0 x2).bind fun x12 => some (.inl (IntKind.i64.wrap ((IntKind.i64.wrap ((10 : Int) * x1)) + (IntKind.i64.wrap (IntKind.u8.wrap (x12 - 48))))))) (some (.inl x1))) : Option ((Int) ⊕ (Int × Bool))).bind fun o2 => (match o2 with | .inl x6 => some (.inl (x6, IntKind.i64.wrap (x2 + 1))) | .inr (x7, x8) => some (.inr (.inr (x7, x8))))) (some (.inr (.inl x1)))
def DW (p0 : List UInt8) (p1 : Int) : Option (Int × Bool) :=
 Ad (((p0.length : Int) == 0) || (decide ((p0.length : Int) > p1))) (some ((0 : Int), false)) ((loop (Dl p0) ((0 : Int), (0 : Int))).bind fun o1 => (match o1 with | .inl x3 => some (x3, true) | .inr (x4, x5) => some (x4, x5)))
theorem Gj {p0 p1 q0 q1} (hm : DW p0 p1 = some (q0, q1)) (A : HH g h [] F) (hc : BG (cfg.still 197) av = [.str p0, Ai p1] := by kernel_rfl) : ∃ v h', BH cfg g h 197 av v h' ∧ v = .tuple [Ai q0, .bool q1] ∧ HH g h' [] F := by
 refine ES 44 [.tmp 4, .tmp 5] hc ?_
 clear hc
 unfold DW at hm
 refine bg 44 [(0, .str p0), (1, Ai p1)] fun fr H => ?_
 refine AG 2 (AK 2 [] H fun fr H => AP (AG 9 (AM 4 [(11, .bool ((p0.length : Int) == 0))] H fun fr H => A5 5 (fun fr' h' => h = h' ∧ Has fr' 44 [(0, .str p0), (16, .bool (((p0.length : Int) == 0) || (decide ((p0.length : Int) > p1))))]) ?_ ?_)))
 ·cases hb : ((p0.length : Int) == 0 : Bool) with
  | true =>
   replace H := H.kn 11 hb
   exact AM 5 [(16, .bool true)] H fun fr H => Ao H hb
  | false =>
   replace H := H.kn 11 hb
   exact AM 5 [(16, .bool (decide ((p0.length : Int) > p1)))] H fun fr H => Ao H hb
 intro t fr h' hK
 obtain ⟨e, H⟩ := hK
 subst e
 refine BI id (AZ 16 H hm (fun hb hm H => ?_) fun hb hm H => ?_)
 ·refine AG 2 (AK 2 [(4, Ai 0), (5, .bool false)] H fun fr H => AS ?_)
  obtain ⟨rfl, rfl⟩ := BD hm
  exact ⟨.inl rfl, _, rH H, rfl, A⟩
 refine Br 1 id (AK 1 [(6, Ai 0)] H fun fr H => AP (AG 3 (AK 3 [(18, Ai (p0.length : Int)), (19, Ai 0)] H fun fr H => AY (id := 0) (by kernel_rfl) ?_)))
 obtain ⟨o1, ho, hm⟩ := bind_some hm
 refine BJ (Q' := fun e fr' h' => (∃ x3, e = .exit 0 ∧ .inl x3 = o1 ∧ Has fr' 44 [(6, Ai x3)] ∧ HH g h' [] F) ∨ (∃ x4 x5, e = .ret ∧ .inr (x4, x5) = o1 ∧ Has fr' 44 [(4, Ai x4), (5, .bool x5)] ∧ HH g h' [] F) ∨ False) ?_ ?_
 ·refine Ce (by kernel_rfl) (fun (s : Int × Int) fr' h' => ∃ x1 x2, (x1, x2) = s ∧ Has fr' 44 [(0, .str p0), (6, Ai x1), (18, Ai (p0.length : Int)), (19, Ai x2)] ∧ HH g h' [] F) ho ⟨_, _, rfl, H.ls, A⟩ ?_
  clear ho hm H A
  intro s q fr h1 hI hm
  obtain ⟨x1, x2, rfl, H, A⟩ := hI
  unfold Dl at hm
  refine AG 1 (AK 1 [(20, .bool (decide (x2 < (p0.length : Int))))] H fun fr H => AP (AZ 20 H hm (fun hb hm H => ?_) fun hb hm H => ?_))
  ·refine CI id (AP ?_)
   obtain ⟨o2, ho, hm⟩ := bind_some hm
   refine BJ (Q' := fun e fr' h' => (∃ x6, e = .normal ∧ .inl x6 = o2 ∧ Has fr' 44 [(0, .str p0), (6, Ai x6), (18, Ai (p0.length : Int)), (19, Ai x2)] ∧ HH g h' [] F) ∨ (∃ x7 x8, e = .ret ∧ .inr (x7, x8) = o2 ∧ Has fr' 44 [(4, Ai x7), (5, .bool x8)] ∧ HH g h' [] F) ∨ False) ?_ ?_
   ·replace hm := ho
    clear ho
    refine AY (id := 1) (by kernel_rfl) ?_
    refine AG 2 (AK 2 [(7, Ai x2)] H fun fr H => AP (AG 10 ?_))
    obtain ⟨x9, hx, hm⟩ := bind_some hm
    refine BC 2 [] 24 (Ab x9) h1 H (fun fr => .of (EW (by kernel_rfl) hx)) fun fr t H => ?_
    refine AM 2 [(26, .bool (decide (x9 < 48)))] H fun fr H => ?_
    obtain ⟨x10, ho, hm⟩ := bind_some hm
    refine A5 5 (fun fr' h' => Has fr' 44 [(0, .str p0), (6, Ai x1), (7, Ai x2), (18, Ai (p0.length : Int)), (19, Ai x2), (31, .bool x10)] ∧ HH g h' [] F) ?_ ?_
    ·rcases Ax ho with ⟨hb, hm⟩ | ⟨hb, hm⟩
     ·replace H := H.kn 26 hb
      refine AM 5 [(31, .bool true)] H fun fr H => ?_
      obtain rfl := An hm
      exact at_nil ⟨H.ls, A⟩
     replace H := H.kn 26 hb
     obtain ⟨x11, hx, hm⟩ := bind_some hm
     refine BC 2 [] 29 (Ab x11) h1 H (fun fr => .of (EW (by kernel_rfl) hx)) fun fr t H => ?_
     refine AM 2 [(31, .bool (decide (x11 > 57)))] H fun fr H => ?_
     obtain rfl := An hm
     exact at_nil ⟨H.ls, A⟩
    clear A
    intro t fr h2 hK
    obtain ⟨H, A⟩ := hK
    refine BI id (AZ 31 H hm (fun hb hm H => ?_) fun hb hm H => ?_)
    ·refine AG 2 (AK 2 [(4, Ai 0), (5, .bool false)] H fun fr H => AS ?_)
     exact .inr (.inl ⟨_, _, rfl, An hm, H.ls, A⟩)
    refine Br 2 id (AK 2 [(33, .bool (decide (x2 < 16)))] H fun fr H => AZ 33 H hm (fun hb hm H => ?_) fun hb hm H => ?_)
    ·refine CX 9 ?_
     obtain ⟨x12, hx, hm⟩ := bind_some hm
     refine BC 4 [(35, Ai (IntKind.i64.wrap ((10 : Int) * x1)))] 38 (Ab x12) h2 H (fun fr => .of (EW (by kernel_rfl) hx)) fun fr t H => ?_
     refine Bd 4 [(0, .str p0), (6, Ai (IntKind.i64.wrap ((IntKind.i64.wrap ((10 : Int) * x1)) + (IntKind.i64.wrap (IntKind.u8.wrap (x12 - 48)))))), (18, Ai (p0.length : Int)), (19, Ai x2)] H fun fr H => at_nil ?_
     exact .inl ⟨_, rfl, An hm, H.ls, A⟩
    exact D5 (.inl ⟨_, rfl, An hm, H.ls, A⟩)
   clear ho
   clear A
   intro e fr h3 hQ
   rcases hQ with ⟨x6, rfl, rfl, H, A⟩ | ⟨x7, x8, rfl, rfl, H, A⟩ | hF
   ·show AW _ _ _ _ _ _ _
    refine CX 2 (Bd 2 [(0, .str p0), (6, Ai x6), (18, Ai (p0.length : Int)), (19, Ai (IntKind.i64.wrap (x2 + 1)))] H fun fr H => at_nil ?_)
    exact nx hm ⟨_, _, rfl, H.ls, A⟩
   ·exact nr hm fun e => Or.inr (.inl ⟨_, _, rfl, e, H.ls, A⟩)
   exact hF.elim
  refine Bf (i := 0) (by kernel_rfl) ?_
  exact nr hm fun e => .inl ⟨_, rfl, e, H.ls, A⟩
 clear ho
 clear A
 intro e fr h4 hQ
 rcases hQ with ⟨x3, rfl, rfl, H, A⟩ | ⟨x4, x5, rfl, rfl, H, A⟩ | hF
 ·show AW _ _ _ _ _ _ _
  refine AG 3 (AK 3 [(4, Ai x3), (5, .bool true)] H fun fr H => AS ?_)
  obtain ⟨rfl, rfl⟩ := BD hm
  exact ⟨.inl rfl, _, rH H, rfl, A⟩
 ·obtain ⟨rfl, rfl⟩ := BD hm
  exact ⟨.inl rfl, _, rH H, rfl, A⟩
 exact hF.elim
def CC (p0 : List UInt8) : Option (Ac × Int) :=
 (DE p0 ([45] : List UInt8)).bind fun (x1, x2) => D3 (decide (x1.length ≤ 4294967280)) <| (DW ((Lib.cut x1 ([46] : List UInt8)).1) (16 : Int)).bind fun (x3, x4) => Ad (!x4) (some ((⟨(0 : Int), (0 : Int)⟩ : Ac), (2 : Int))) ((Ad ((Lib.cut x1 ([46] : List UInt8)).2.2) ((DW ((Lib.cut x1 ([46] : List UInt8)).2.1) (40 : Int)).bind fun (x7, x8) => Ad (!x8) (some (.inr (2 : Int))) (D3 (decide (((Lib.cut x1 ([46] : List UInt8)).2.1).length + ([48, 48, 48, 48, 48, 48, 48, 48] : List UInt8).length ≤ 9223372036854775807)) <| (FF (((Lib.cut x1 ([46] : List UInt8)).2.1) ++ ([48, 48, 48, 48, 48, 48, 48, 48] : List UInt8)) none (some (9 : Int))).bind fun x9 => (DW x9 (9 : Int)).bind fun (x10, x11) => some (.inl x10))) (some (.inl (0 : Int))) : Option ((Int) ⊕ (Int))).bind fun o1 => (match o1 with | .inl x5 => (Ad x2 ((Cr (⟨x3, x5⟩ : Ac)).bind fun x14 => some (x14.B6, x14.BA)) (some (x3, x5)) : Option ((Int × Int))).bind fun (x12, x13) => (Ct (⟨x12, x13⟩ : Ac)).bind fun x15 => Ad (!x15) (some ((⟨(0 : Int), (0 : Int)⟩ : Ac), (6 : Int))) (some ((⟨x12, x13⟩ : Ac), (0 : Int))) | .inr x6 => some ((⟨(0 : Int), (0 : Int)⟩ : Ac), x6)))
theorem Na {p0 q0 q1} (hm : CC p0 = some (q0, q1)) (A : HH g h [] F) (hc : BG (cfg.still 143) av = [.str p0] := by kernel_rfl) : ∃ v h', BH cfg g h 143 av v h' ∧ v = .tuple [.agg [Ai q0.B6, Ai q0.BA], Ai q1] ∧ HH g h' [] F := by
 refine ES 61 [.cell 2 23, .tmp 3] hc ?_
 clear hc
 unfold CC at hm
 refine bg 61 [(0, .str p0)] fun fr H => ?_
 refine AG 2 ?_
 obtain ⟨h1, e1, A⟩ := A.pu (.cells none 2 [Ai 0, Ai 0])
 refine BK 2 (.ptr (some (h.size, 0))) e1 H fun fr t H => ?_
 refine Bg 1 [] 7 H fun fr H => ?_
 obtain ⟨⟨x1, x2⟩, hx, hm⟩ := bind_some hm
 obtain ⟨v1, h2, hr, rfl, A1⟩ := J0 (av := [.str p0, .str ([45] : List UInt8)]) hx (A.cut 0)
 replace A : HH g h2 [.obj h.size (.cells none 2 [Ai (0 : Int), Ai (0 : Int)])] F := A.Fp (n := 0) A1
 refine A6 1 [] 17 hr H fun fr t H => ?_
 refine Bg 5 [(4, .str x1), (5, .bool x2)] 9 H fun fr H => ?_
 obtain ⟨hb, hm⟩ := A4 hm
 refine BC 1 [] 22 (.tuple [.str ((Lib.cut x1 ([46] : List UInt8)).1), .str ((Lib.cut x1 ([46] : List UInt8)).2.1), .bool ((Lib.cut x1 ([46] : List UInt8)).2.2)]) h2 H (fun fr => Steps.call (by kernel_rfl) (Tu (C := cfg) (f := 139) (a := 0) (by kernel_rfl) (l := exts) rfl (by kernel_rfl) hb)) fun fr t H => ?_
 refine Bg 7 [(6, .str ((Lib.cut x1 ([46] : List UInt8)).1)), (7, .str ((Lib.cut x1 ([46] : List UInt8)).2.1)), (8, .bool ((Lib.cut x1 ([46] : List UInt8)).2.2))] 7 H fun fr H => ?_
 obtain ⟨⟨x3, x4⟩, hx, hm⟩ := bind_some hm
 obtain ⟨v1, h3, hr, rfl, A1⟩ := Gj (av := [.str ((Lib.cut x1 ([46] : List UInt8)).1), Ai 16]) hx (A.cut 0)
 replace A := A.DN A1
 refine A6 1 [] 28 hr H fun fr t H => ?_
 refine AK 5 [(9, Ai x3), (10, .bool x4)] H fun fr H => AP (AG 2 (AK 2 [(32, .bool (!x4))] H fun fr H => AZ 32 H hm (fun hb hm H => ?_) fun hb hm H => ?_))
 ·refine AG 3 ?_
  obtain ⟨h4, hx, A⟩ := A.s0 0 [Ai 0, Ai 0] [_, _]
  refine Es 1 [] hx H fun fr t H => ?_
  refine AK 1 [(3, Ai 2)] H fun fr H => AS ?_
  obtain ⟨rfl, rfl⟩ := BD hm
  refine ⟨.inl rfl, .tuple [.agg [Ai 0, Ai 0], Ai 2], CW (.cell (rT H) (CL (by kernel_rfl) (by kernel_rfl) (A.la 0 0 2)) (.tmp (rT H) .nil)), ?_⟩
  replace A := A.d0
  exact ⟨rfl, A⟩
 refine Br 1 id (AK 1 [(11, Ai 0)] H fun fr H => AP ?_)
 obtain ⟨o1, ho, hm⟩ := bind_some hm
 refine BJ (Q' := fun e fr' h' => (∃ x5, e = .normal ∧ .inl x5 = o1 ∧ Has fr' 61 [(2, .ptr (some (h.size, 0))), (5, .bool x2), (9, Ai x3), (11, Ai x5)] ∧ HH g h' [.obj h.size (.cells none 2 [Ai 0, Ai 0])] F) ∨ (∃ x6, e = .ret ∧ .inr x6 = o1 ∧ Has fr' 61 [(2, .ptr (some (h.size, 0))), (3, Ai x6)] ∧ HH g h' [.obj h.size (.cells none 2 [Ai 0, Ai 0])] F) ∨ False) ?_ ?_
 ·replace hm := ho
  clear ho
  refine AG 1 (AK 1 [(34, .bool ((Lib.cut x1 ([46] : List UInt8)).2.2))] H fun fr H => AZ 34 H hm (fun hb hm H => ?_) fun hb hm H => ?_)
  ·refine AP (AG 7 ?_)
   obtain ⟨⟨x7, x8⟩, hx, hm⟩ := bind_some hm
   obtain ⟨v1, h5, hr, rfl, A1⟩ := Gj (av := [.str ((Lib.cut x1 ([46] : List UInt8)).2.1), Ai 40]) hx (A.cut 0)
   replace A := A.DN A1
   refine A6 1 [] 37 hr H fun fr t H => ?_
   refine Bg 5 [(13, .bool x8)] 2 H fun fr H => AK 2 [(41, .bool (!x8))] H fun fr H => AZ 41 H hm (fun hb hm H => ?_) fun hb hm H => ?_
   ·refine AG 3 ?_
    obtain ⟨h6, hx, A⟩ := A.s0 0 [Ai 0, Ai 0] [_, _]
    refine Es 1 [] hx H fun fr t H => ?_
    refine AK 1 [(3, Ai 2)] H fun fr H => AS ?_
    exact .inr (.inl ⟨_, rfl, An hm, H.ls, A⟩)
   refine DI 8 id (AM 1 [(44, .str ((Lib.cut x1 ([46] : List UInt8)).2.1))] H fun fr H => ?_)
   obtain ⟨hb, hm⟩ := A4 hm
   refine Ae 45 (.str (((Lib.cut x1 ([46] : List UInt8)).2.1) ++ ([48, 48, 48, 48, 48, 48, 48, 48] : List UInt8))) h5 H (fun fr => .of (Lq (by kernel_rfl) hb)) fun fr t H => ?_
   obtain ⟨x9, hx, hm⟩ := bind_some hm
   refine Ae 46 (.str x9) h5 H (fun fr => .of (Fe (k := .i64) (k' := .i64) (lo := none) (hi := (some (9 : Int))) (by kernel_rfl) hx)) fun fr t H => ?_
   obtain ⟨⟨x10, x11⟩, hx, hm⟩ := bind_some hm
   obtain ⟨v1, h7, hr, rfl, A1⟩ := Gj (av := [.str x9, Ai 9]) hx (A.cut 0)
   replace A := A.DN A1
   refine Aw 47 hr H fun fr t H => ?_
   refine Bd 4 [(2, .ptr (some (h.size, 0))), (5, .bool x2), (9, Ai x3), (11, Ai x10)] H fun fr H => at_nil ?_
   exact .inl ⟨_, rfl, An hm, H.ls, A⟩
  exact D5 (.inl ⟨_, rfl, An hm, H.ls, A⟩)
 clear ho
 clear A
 intro e fr h8 hQ
 rcases hQ with ⟨x5, rfl, rfl, H, A⟩ | ⟨x6, rfl, rfl, H, A⟩ | hF
 ·show AW _ _ _ _ _ _ _
  refine AG 5 ?_
  obtain ⟨h9, e2, A⟩ := A.pu (.cells none 2 [Ai 0, Ai 0])
  refine JA 3 [(52, .agg [Ai x3, Ai x5])] 14 (.ptr (some (h8.size, 0))) e2 H fun fr t H => ?_
  obtain ⟨h10, hx, A⟩ := A.s0 0 [Ai x3, Ai x5] [_, _]
  refine Ch hx H fun fr t H => ?_
  refine BI id (AP ?_)
  obtain ⟨o2, ho, hm⟩ := bind_some hm
  refine BJ (Q' := fun e fr' h' => (∃ x12 x13, e = .normal ∧ (x12, x13) = o2 ∧ Has fr' 61 [(2, .ptr (some (h.size, 0))), (14, .ptr (some (h8.size, 0)))] ∧ HH g h' [.obj h8.size (.cells none 2 [Ai x12, Ai x13]), .obj h.size (.cells none 2 [Ai 0, Ai 0])] F) ∨ False) ?_ ?_
  ·replace hm := ho
   clear ho
   refine AG 1 (AK 1 [(53, .bool x2)] H fun fr H => AZ 53 H hm (fun hb hm H => ?_) fun hb hm H => ?_)
   ·refine CX 3 (Ae 54 _ _ H (fun fr => .of (BM (by kernel_rfl) (A.Eh 0 rfl (o := 0) (n := 2) ⟨Nat.le_of_ble_eq_true rfl, rfl⟩))) fun fr t H => ?_)
    obtain ⟨x14, hx, hm⟩ := bind_some hm
    obtain ⟨v1, h11, hr, rfl, A1⟩ := Kj (av := [.agg [Ai x3, Ai x5]]) hx (A.cut 0)
    replace A := A.DN A1
    refine Aw 55 hr H fun fr t H => ?_
    obtain ⟨h12, hx, A⟩ := A.s0 0 [Ai x14.B6, Ai x14.BA] [_, _]
    refine Ch hx H fun fr t H => ?_
    refine at_nil ?_
    exact .inl ⟨_, _, rfl, An hm, H.ls, A⟩
   exact D5 (.inl ⟨_, _, rfl, An hm, H.ls, A⟩)
  clear ho
  clear A
  intro e fr h13 hQ
  rcases hQ with ⟨x12, x13, rfl, rfl, H, A⟩ | hF
  ·show AW _ _ _ _ _ _ _
   refine AP (AG 3 (Ae 56 _ _ H (fun fr => .of (BM (by kernel_rfl) (A.Eh 0 rfl (o := 0) (n := 2) ⟨Nat.le_of_ble_eq_true rfl, rfl⟩))) fun fr t H => ?_))
   obtain ⟨x15, hx, hm⟩ := bind_some hm
   obtain ⟨v1, h14, hr, rfl, A1⟩ := HG (av := [.agg [Ai x12, Ai x13]]) hx (A.cut 0)
   replace A := A.DN A1
   refine Aw 57 hr H fun fr t H => ?_
   refine AK 1 [(58, .bool (!x15))] H fun fr H => AZ 58 H hm (fun hb hm H => ?_) fun hb hm H => ?_
   ·refine AG 3 ?_
    obtain ⟨h15, hx, A⟩ := A.s1 0 [Ai 0, Ai 0] [_, _]
    refine Es 1 [] hx H fun fr t H => ?_
    refine AK 1 [(3, Ai 6)] H fun fr H => AS ?_
    obtain ⟨rfl, rfl⟩ := BD hm
    refine ⟨.inl rfl, .tuple [.agg [Ai 0, Ai 0], Ai 6], CW (.cell (rT H) (CL (by kernel_rfl) (by kernel_rfl) (A.la 1 0 2)) (.tmp (rT H) .nil)), ?_⟩
    replace A := A.d0
    exact ⟨rfl, A⟩
   refine Br 3 id (Ae 60 _ _ H (fun fr => .of (BM (by kernel_rfl) (A.Eh 0 rfl (o := 0) (n := 2) ⟨Nat.le_of_ble_eq_true rfl, rfl⟩))) fun fr t H => ?_)
   obtain ⟨h16, hx, A⟩ := A.s1 0 [Ai x12, Ai x13] [_, _]
   refine Ch hx H fun fr t H => ?_
   refine AK 1 [(3, Ai 0)] H fun fr H => AS ?_
   obtain ⟨rfl, rfl⟩ := BD hm
   refine ⟨.inl rfl, .tuple [.agg [Ai x12, Ai x13], Ai 0], CW (.cell (rT H) (CL (by kernel_rfl) (by kernel_rfl) (A.la 1 0 2)) (.tmp (rT H) .nil)), ?_⟩
   replace A := A.d0
   exact ⟨rfl, A⟩
  exact hF.elim
 ·obtain ⟨rfl, rfl⟩ := BD hm
  refine ⟨.inl rfl, .tuple [.agg [Ai 0, Ai 0], Ai x6], CW (.cell (rT H) (CL (by kernel_rfl) (by kernel_rfl) (A.la 0 0 2)) (.tmp (rT H) .nil)), ?_⟩
  replace A := A.d0
  exact ⟨rfl, A⟩
 exact hF.elim
def Dg (p0 : List UInt8) (p1_0 : AL) : Option (Int × AL) :=
 (CC p0).bind fun (x1, x2) => (Ad (x2 == 0) (some (x1.B6, x1.BA)) (some (p1_0.Time.B6, p1_0.Time.BA)) : Option ((Int × Int))).bind fun (x3, x4) => some (x2, (⟨p1_0.Name, p1_0.AU, p1_0.Kind, p1_0.Mode, p1_0.BP, p1_0.BQ, p1_0.AN, p1_0.AO, p1_0.Aa, p1_0.Ag, (⟨x3, x4⟩ : Ac), p1_0.Extra, p1_0.Data⟩ : AL))
theorem JO {p0 p1_0 bp1_0 rp1_0_12 q0 u0} (hm : Dg p0 p1_0 = some (q0, u0)) (A : HH g h [.obj bp1_0 (.cells none 2 (Ar p1_0 (Af rp1_0_12 p1_0.Extra.length))), .Ak rp1_0_12 117 (Ak AE p1_0.Extra)] F) (hc : BG (cfg.still 142) av = [.str p0, .AR [.ptr (some (bp1_0, 0))]] := by kernel_rfl) : ∃ v h', BH cfg g h 142 av v h' ∧ v = Ai q0 ∧ HH g h' [.obj bp1_0 (.cells none 2 (Ar u0 (Af rp1_0_12 p1_0.Extra.length))), .Ak rp1_0_12 117 (Ak AE p1_0.Extra)] F := by
 refine ES 18 [.tmp 3] hc ?_
 clear hc
 unfold Dg at hm
 refine bg 18 [(0, .str p0), (1, .AR [.ptr (some (bp1_0, 0))])] fun fr H => ?_
 refine AG 1 (Bg 1 [] 8 H fun fr H => ?_)
 obtain ⟨⟨x1, x2⟩, hx, hm⟩ := bind_some hm
 obtain ⟨v1, h1, hr, rfl, A1⟩ := Na (av := [.str p0]) hx (A.cut 0)
 replace A := A.DN A1
 refine A6 1 [] 8 hr H fun fr t H => ?_
 obtain ⟨h2, e1, A⟩ := A.pu (.cells none 2 [Ai 0, Ai 0])
 refine JA 3 [(9, .agg [Ai x1.B6, Ai x1.BA]), (10, Ai x2)] 4 (.ptr (some (h1.size, 0))) e1 H fun fr t H => ?_
 obtain ⟨h3, hx, A⟩ := A.s0 0 [Ai x1.B6, Ai x1.BA] [_, _]
 refine Ch hx H fun fr t H => ?_
 refine AK 1 [(5, Ai x2)] H fun fr H => AP ?_
 obtain ⟨o1, ho, hm⟩ := bind_some hm
 refine BJ (Q' := fun e fr' h' => (∃ x3 x4, e = .normal ∧ (x3, x4) = o1 ∧ Has fr' 18 [(5, Ai x2)] ∧ HH g h' [.obj h1.size (.cells none 2 [Ai x1.B6, Ai x1.BA]), .obj bp1_0 (.cells none 2 [.str p1_0.Name, .str p1_0.AU, Ab p1_0.Kind, Ai p1_0.Mode, Ai p1_0.BP, Ai p1_0.BQ, .str p1_0.AN, .str p1_0.AO, Ai p1_0.Aa, Ai p1_0.Ag, Ai x3, Ai x4, Af rp1_0_12 p1_0.Extra.length, .str p1_0.Data]), .Ak rp1_0_12 117 (Ak AE p1_0.Extra)] F) ∨ False) ?_ ?_
 ·replace hm := ho
  clear ho
  refine AG 2 (AK 2 [(12, .bool (x2 == 0))] H fun fr H => AZ 12 H hm (fun hb hm H => ?_) fun hb hm H => ?_)
  ·refine CX 5 (Ae 13 (.ptr (some (bp1_0, 0))) h3 H (fun fr => .of (Kz (by kernel_rfl))) fun fr t H => ?_)
   refine Ae 14 _ _ H (fun fr => .of (BM (by kernel_rfl) (A.Eh 0 rfl (o := 0) (n := 2) ⟨Nat.le_of_ble_eq_true rfl, rfl⟩))) fun fr t H => ?_
   obtain ⟨h4, hx, A⟩ := A.s1 10 [Ai x1.B6, Ai x1.BA] [_, _, _, _, _, _, _, _, _, _, _, _, _, _]
   refine Es 2 [] hx H fun fr t H => ?_
   refine at_nil ?_
   exact .inl ⟨_, _, rfl, An hm, H.ls, A⟩
  exact D5 (.inl ⟨_, _, rfl, An hm, H.ls, A⟩)
 clear ho
 clear A
 intro e fr h5 hQ
 rcases hQ with ⟨x3, x4, rfl, rfl, H, A⟩ | hF
 ·show AW _ _ _ _ _ _ _
  refine AG 2 (AK 2 [(3, Ai x2)] H fun fr H => AS ?_)
  obtain ⟨rfl, rfl⟩ := BD hm
  refine ⟨.inl rfl, Ai x2, rH H, ?_⟩
  replace A := A.k2 1 2
  exact ⟨rfl, A⟩
 exact hF.elim
def Bv (p0 : List AB) (p1 : List AB) (s : Int) : Option ((Int) ⊕ ((Unit) ⊕ (Bool))) :=
 match s with
 | x1 => Ad (decide (x1 < (p0.length : Int))) ((IG p0 x1).bind fun x3 => (IG p1 x1).bind fun x4 => (Wf cfg.P 117 [.str x3.Key, .str x3.Value] [.str x4.Key, .str x4.Value]).bind fun x5 => Ad (!x5) (some (.inr (.inr false))) (some (.inl (IntKind.i64.wrap (x1 + 1))))) (some (.inr (.inl ())))
def DH (p0 : List AB) (p1 : List AB) : Option (Bool) :=
 Ad ((p0.length : Int) != (p1.length : Int)) (some false) ((loop (Bv p0 p1) (0 : Int)).bind fun o1 => (match o1 with | .inl _ => some true | .inr x2 => some x2))
theorem JU {p0 p1 q0} (hm : DH p0 p1 = some q0) (A : HH g h [] F) (hc : BG (cfg.still 85) av = [vs AE p0, vs AE p1] := by kernel_rfl) : ∃ v h', BH cfg g h 85 av v h' ∧ v = .bool q0 ∧ HH g h' [] F := by
 refine ES 26 [.tmp 4] hc ?_
 clear hc
 unfold DH at hm
 refine bg 26 [(0, vs AE p0), (1, vs AE p1)] fun fr H => ?_
 refine AG 1 (AK 1 [] H fun fr H => AP (AG 5 (AK 5 [(10, .bool ((p0.length : Int) != (p1.length : Int)))] H fun fr H => AZ 10 H hm (fun hb hm H => ?_) fun hb hm H => ?_)))
 ·refine AG 1 (AK 1 [(4, .bool false)] H fun fr H => AS ?_)
  obtain rfl := An hm
  exact ⟨.inl rfl, _, rH H, rfl, A⟩
 refine CI id (AP (AG 1 (AK 1 [(5, Ai 0)] H fun fr H => AY (id := 0) (by kernel_rfl) ?_)))
 obtain ⟨o1, ho, hm⟩ := bind_some hm
 refine BJ (Q' := fun e fr' h' => (e = .exit 0 ∧ .inl () = o1 ∧ Has fr' 26 [] ∧ HH g h' [] F) ∨ (∃ x2, e = .ret ∧ .inr x2 = o1 ∧ Has fr' 26 [(4, .bool x2)] ∧ HH g h' [] F) ∨ False) ?_ ?_
 ·refine Ce (by kernel_rfl) (fun (s : Int) fr' h' => ∃ x1, x1 = s ∧ Has fr' 26 [(0, vs AE p0), (1, vs AE p1), (5, Ai x1)] ∧ HH g h' [] F) ho ⟨_, rfl, H.ls, A⟩ ?_
  clear ho hm H A
  intro s q fr h1 hI hm
  obtain ⟨x1, rfl, H, A⟩ := hI
  unfold Bv at hm
  refine AP (AG 4 (AK 4 [(14, .bool (decide (x1 < (p0.length : Int))))] H fun fr H => AZ 14 H hm (fun hb hm H => ?_) fun hb hm H => ?_))
  ·refine CI id (AP (AY (id := 1) (by kernel_rfl) ?_))
   refine AP (JF 6 9 ?_)
   obtain ⟨x3, hx, hm⟩ := bind_some hm
   refine BC 2 [] 19 (.AR [.str x3.Key, .str x3.Value]) h1 H (fun fr => .of (OC (e := AE) (x := x3) Am (by decide) (by kernel_rfl) hx)) fun fr t H => ?_
   refine Ae 20 (.agg [.str x3.Key, .str x3.Value]) h1 H (fun fr => .of (Kz (by kernel_rfl))) fun fr t H => ?_
   obtain ⟨x4, hx, hm⟩ := bind_some hm
   refine BC 2 [] 23 (.AR [.str x4.Key, .str x4.Value]) h1 H (fun fr => .of (OC (e := AE) (x := x4) Am (by decide) (by kernel_rfl) hx)) fun fr t H => ?_
   refine Ae 24 (.agg [.str x4.Key, .str x4.Value]) h1 H (fun fr => .of (Kz (by kernel_rfl))) fun fr t H => ?_
   obtain ⟨x5, hx, hm⟩ := bind_some hm
   refine Ae 25 (.bool (!x5)) h1 H (fun fr => .of (Zw (by kernel_rfl) hx)) fun fr t H => ?_
   refine BI id (AZ 25 H hm (fun hb hm H => ?_) fun hb hm H => ?_)
   ·refine AG 1 (AK 1 [(4, .bool false)] H fun fr H => AS ?_)
    exact nr hm fun e => Or.inr (.inl ⟨_, rfl, e, H.ls, A⟩)
   refine DI 3 id (Bd 3 [(0, vs AE p0), (1, vs AE p1), (5, Ai (IntKind.i64.wrap (x1 + 1)))] H fun fr H => at_nil ?_)
   exact nx hm ⟨_, rfl, H.ls, A⟩
  refine Bf (i := 0) (by kernel_rfl) ?_
  exact nr hm fun e => .inl ⟨rfl, e, H.ls, A⟩
 clear ho
 clear A
 intro e fr h2 hQ
 rcases hQ with ⟨rfl, rfl, H, A⟩ | ⟨x2, rfl, rfl, H, A⟩ | hF
 ·show AW _ _ _ _ _ _ _
  refine AG 1 (AK 1 [(4, .bool true)] H fun fr H => AS ?_)
  obtain rfl := An hm
  exact ⟨.inl rfl, _, rH H, rfl, A⟩
 ·obtain rfl := An hm
  exact ⟨.inl rfl, _, rH H, rfl, A⟩
 exact hF.elim
def DD (p0 : AL) (p1 : AL) : Option (Bool) :=
 (Ad ((((((((((p0.Name == p1.Name) && (p0.AU == p1.AU)) && (p0.Kind == p1.Kind)) && (p0.Mode == p1.Mode)) && (p0.BP == p1.BP)) && (p0.BQ == p1.BQ)) && (p0.AN == p1.AN)) && (p0.AO == p1.AO)) && (p0.Aa == p1.Aa)) && (p0.Ag == p1.Ag)) ((Wf cfg.P 23 [Ai p0.Time.B6, Ai p0.Time.BA] [Ai p1.Time.B6, Ai p1.Time.BA]).bind fun x2 => some x2) (some false) : Option (Bool)).bind fun x1 => (Ad x1 ((DH p0.Extra p1.Extra).bind fun x4 => some x4) (some false) : Option (Bool)).bind fun x3 => some (x3 && (p0.Data == p1.Data))
theorem JX {p0 p1 q0} (hm : DD p0 p1 = some q0) (A : HH g h [] F) (hc : BG (cfg.still 32) av = [.agg (AI p0), .agg (AI p1)] := by kernel_rfl) : ∃ v h', BH cfg g h 32 av v h' ∧ v = .bool q0 ∧ HH g h' [] F := by
 refine ES 94 [.tmp 4] hc ?_
 clear hc
 unfold DD at hm
 refine bg 94 [(0, .agg (AI p0)), (1, .agg (AI p1))] fun fr H => ?_
 refine AG 3 ?_
 obtain ⟨h1, e1, A⟩ := A.pu (.cells none 2 (AI p0))
 refine BK 2 (.ptr (some (h.size, 0))) e1 H fun fr t H => ?_
 obtain ⟨h2, e2, A⟩ := A.pu (.cells none 2 (AI p1))
 refine BK 3 (.ptr (some (h1.size, 0))) e2 H fun fr t H => ?_
 refine Bg 1 [] 90 H fun fr H => AV 1 [] 6 1 0 A H fun fr t H => ?_
 refine AV 1 [] 8 0 0 A H fun fr t H => ?_
 refine AM 2 [(10, .bool (p0.Name == p1.Name))] H fun fr H => A5 6 (fun fr' h' => h2 = h' ∧ Has fr' 94 [(2, .ptr (some (h.size, 0))), (3, .ptr (some (h1.size, 0))), (16, .bool ((p0.Name == p1.Name) && (p0.AU == p1.AU)))]) ?_ ?_
 ·cases hb : (p0.Name == p1.Name : Bool) with
  | true =>
   replace H := H.kn 10 hb
   refine AV 1 [] 12 1 1 A H fun fr t H => ?_
   refine AV 1 [] 14 0 1 A H fun fr t H => ?_
   exact AM 2 [(16, .bool (p0.AU == p1.AU))] H fun fr H => Ao H hb
  | false =>
   replace H := H.kn 10 hb
   exact AM 6 [(16, .bool false)] H fun fr H => Ao H hb
 intro t fr h' hK
 obtain ⟨e, H⟩ := hK
 subst e
 refine AM 1 [(17, .bool ((p0.Name == p1.Name) && (p0.AU == p1.AU)))] H fun fr H => A5 6 (fun fr' h' => h2 = h' ∧ Has fr' 94 [(2, .ptr (some (h.size, 0))), (3, .ptr (some (h1.size, 0))), (23, .bool (((p0.Name == p1.Name) && (p0.AU == p1.AU)) && (p0.Kind == p1.Kind)))]) ?_ ?_
 ·cases hb : ((p0.Name == p1.Name) && (p0.AU == p1.AU) : Bool) with
  | true =>
   replace H := H.kn 17 hb
   refine AV 1 [] 19 1 2 A H fun fr t H => ?_
   refine AV 1 [] 21 0 2 A H fun fr t H => ?_
   exact AM 2 [(23, .bool (p0.Kind == p1.Kind))] H fun fr H => Ao H hb
  | false =>
   replace H := H.kn 17 hb
   exact AM 6 [(23, .bool false)] H fun fr H => Ao H hb
 intro t fr h' hK
 obtain ⟨e, H⟩ := hK
 subst e
 refine AM 1 [(24, .bool (((p0.Name == p1.Name) && (p0.AU == p1.AU)) && (p0.Kind == p1.Kind)))] H fun fr H => A5 6 (fun fr' h' => h2 = h' ∧ Has fr' 94 [(2, .ptr (some (h.size, 0))), (3, .ptr (some (h1.size, 0))), (30, .bool ((((p0.Name == p1.Name) && (p0.AU == p1.AU)) && (p0.Kind == p1.Kind)) && (p0.Mode == p1.Mode)))]) ?_ ?_
 ·cases hb : (((p0.Name == p1.Name) && (p0.AU == p1.AU)) && (p0.Kind == p1.Kind) : Bool) with
  | true =>
   replace H := H.kn 24 hb
   refine AV 1 [] 26 1 3 A H fun fr t H => ?_
   refine AV 1 [] 28 0 3 A H fun fr t H => ?_
   exact AM 2 [(30, .bool (p0.Mode == p1.Mode))] H fun fr H => Ao H hb
  | false =>
   replace H := H.kn 24 hb
   exact AM 6 [(30, .bool false)] H fun fr H => Ao H hb
 intro t fr h' hK
 obtain ⟨e, H⟩ := hK
 subst e
 refine AM 1 [(31, .bool ((((p0.Name == p1.Name) && (p0.AU == p1.AU)) && (p0.Kind == p1.Kind)) && (p0.Mode == p1.Mode)))] H fun fr H => A5 6 (fun fr' h' => h2 = h' ∧ Has fr' 94 [(2, .ptr (some (h.size, 0))), (3, .ptr (some (h1.size, 0))), (37, .bool (((((p0.Name == p1.Name) && (p0.AU == p1.AU)) && (p0.Kind == p1.Kind)) && (p0.Mode == p1.Mode)) && (p0.BP == p1.BP)))]) ?_ ?_
 ·cases hb : ((((p0.Name == p1.Name) && (p0.AU == p1.AU)) && (p0.Kind == p1.Kind)) && (p0.Mode == p1.Mode) : Bool) with
  | true =>
   replace H := H.kn 31 hb
   refine AV 1 [] 33 1 4 A H fun fr t H => ?_
   refine AV 1 [] 35 0 4 A H fun fr t H => ?_
   exact AM 2 [(37, .bool (p0.BP == p1.BP))] H fun fr H => Ao H hb
  | false =>
   replace H := H.kn 31 hb
   exact AM 6 [(37, .bool false)] H fun fr H => Ao H hb
 intro t fr h' hK
 obtain ⟨e, H⟩ := hK
 subst e
 refine AM 1 [(38, .bool (((((p0.Name == p1.Name) && (p0.AU == p1.AU)) && (p0.Kind == p1.Kind)) && (p0.Mode == p1.Mode)) && (p0.BP == p1.BP)))] H fun fr H => A5 6 (fun fr' h' => h2 = h' ∧ Has fr' 94 [(2, .ptr (some (h.size, 0))), (3, .ptr (some (h1.size, 0))), (44, .bool ((((((p0.Name == p1.Name) && (p0.AU == p1.AU)) && (p0.Kind == p1.Kind)) && (p0.Mode == p1.Mode)) && (p0.BP == p1.BP)) && (p0.BQ == p1.BQ)))]) ?_ ?_
 ·cases hb : (((((p0.Name == p1.Name) && (p0.AU == p1.AU)) && (p0.Kind == p1.Kind)) && (p0.Mode == p1.Mode)) && (p0.BP == p1.BP) : Bool) with
  | true =>
   replace H := H.kn 38 hb
   refine AV 1 [] 40 1 5 A H fun fr t H => ?_
   refine AV 1 [] 42 0 5 A H fun fr t H => ?_
   exact AM 2 [(44, .bool (p0.BQ == p1.BQ))] H fun fr H => Ao H hb
  | false =>
   replace H := H.kn 38 hb
   exact AM 6 [(44, .bool false)] H fun fr H => Ao H hb
 intro t fr h' hK
 obtain ⟨e, H⟩ := hK
 subst e
 refine AM 1 [(45, .bool ((((((p0.Name == p1.Name) && (p0.AU == p1.AU)) && (p0.Kind == p1.Kind)) && (p0.Mode == p1.Mode)) && (p0.BP == p1.BP)) && (p0.BQ == p1.BQ)))] H fun fr H => A5 6 (fun fr' h' => h2 = h' ∧ Has fr' 94 [(2, .ptr (some (h.size, 0))), (3, .ptr (some (h1.size, 0))), (51, .bool (((((((p0.Name == p1.Name) && (p0.AU == p1.AU)) && (p0.Kind == p1.Kind)) && (p0.Mode == p1.Mode)) && (p0.BP == p1.BP)) && (p0.BQ == p1.BQ)) && (p0.AN == p1.AN)))]) ?_ ?_
 ·cases hb : ((((((p0.Name == p1.Name) && (p0.AU == p1.AU)) && (p0.Kind == p1.Kind)) && (p0.Mode == p1.Mode)) && (p0.BP == p1.BP)) && (p0.BQ == p1.BQ) : Bool) with
  | true =>
   replace H := H.kn 45 hb
   refine AV 1 [] 47 1 6 A H fun fr t H => ?_
   refine AV 1 [] 49 0 6 A H fun fr t H => ?_
   exact AM 2 [(51, .bool (p0.AN == p1.AN))] H fun fr H => Ao H hb
  | false =>
   replace H := H.kn 45 hb
   exact AM 6 [(51, .bool false)] H fun fr H => Ao H hb
 intro t fr h' hK
 obtain ⟨e, H⟩ := hK
 subst e
 refine AM 1 [(52, .bool (((((((p0.Name == p1.Name) && (p0.AU == p1.AU)) && (p0.Kind == p1.Kind)) && (p0.Mode == p1.Mode)) && (p0.BP == p1.BP)) && (p0.BQ == p1.BQ)) && (p0.AN == p1.AN)))] H fun fr H => A5 6 (fun fr' h' => h2 = h' ∧ Has fr' 94 [(2, .ptr (some (h.size, 0))), (3, .ptr (some (h1.size, 0))), (58, .bool ((((((((p0.Name == p1.Name) && (p0.AU == p1.AU)) && (p0.Kind == p1.Kind)) && (p0.Mode == p1.Mode)) && (p0.BP == p1.BP)) && (p0.BQ == p1.BQ)) && (p0.AN == p1.AN)) && (p0.AO == p1.AO)))]) ?_ ?_
 ·cases hb : (((((((p0.Name == p1.Name) && (p0.AU == p1.AU)) && (p0.Kind == p1.Kind)) && (p0.Mode == p1.Mode)) && (p0.BP == p1.BP)) && (p0.BQ == p1.BQ)) && (p0.AN == p1.AN) : Bool) with
  | true =>
   replace H := H.kn 52 hb
   refine AV 1 [] 54 1 7 A H fun fr t H => ?_
   refine AV 1 [] 56 0 7 A H fun fr t H => ?_
   exact AM 2 [(58, .bool (p0.AO == p1.AO))] H fun fr H => Ao H hb
  | false =>
   replace H := H.kn 52 hb
   exact AM 6 [(58, .bool false)] H fun fr H => Ao H hb
 intro t fr h' hK
 obtain ⟨e, H⟩ := hK
 subst e
 refine AM 1 [(59, .bool ((((((((p0.Name == p1.Name) && (p0.AU == p1.AU)) && (p0.Kind == p1.Kind)) && (p0.Mode == p1.Mode)) && (p0.BP == p1.BP)) && (p0.BQ == p1.BQ)) && (p0.AN == p1.AN)) && (p0.AO == p1.AO)))] H fun fr H => A5 6 (fun fr' h' => h2 = h' ∧ Has fr' 94 [(2, .ptr (some (h.size, 0))), (3, .ptr (some (h1.size, 0))), (65, .bool (((((((((p0.Name == p1.Name) && (p0.AU == p1.AU)) && (p0.Kind == p1.Kind)) && (p0.Mode == p1.Mode)) && (p0.BP == p1.BP)) && (p0.BQ == p1.BQ)) && (p0.AN == p1.AN)) && (p0.AO == p1.AO)) && (p0.Aa == p1.Aa)))]) ?_ ?_
 ·cases hb : ((((((((p0.Name == p1.Name) && (p0.AU == p1.AU)) && (p0.Kind == p1.Kind)) && (p0.Mode == p1.Mode)) && (p0.BP == p1.BP)) && (p0.BQ == p1.BQ)) && (p0.AN == p1.AN)) && (p0.AO == p1.AO) : Bool) with
  | true =>
   replace H := H.kn 59 hb
   refine AV 1 [] 61 1 8 A H fun fr t H => ?_
   refine AV 1 [] 63 0 8 A H fun fr t H => ?_
   exact AM 2 [(65, .bool (p0.Aa == p1.Aa))] H fun fr H => Ao H hb
  | false =>
   replace H := H.kn 59 hb
   exact AM 6 [(65, .bool false)] H fun fr H => Ao H hb
 intro t fr h' hK
 obtain ⟨e, H⟩ := hK
 subst e
 refine AM 1 [(66, .bool (((((((((p0.Name == p1.Name) && (p0.AU == p1.AU)) && (p0.Kind == p1.Kind)) && (p0.Mode == p1.Mode)) && (p0.BP == p1.BP)) && (p0.BQ == p1.BQ)) && (p0.AN == p1.AN)) && (p0.AO == p1.AO)) && (p0.Aa == p1.Aa)))] H fun fr H => A5 6 (fun fr' h' => h2 = h' ∧ Has fr' 94 [(2, .ptr (some (h.size, 0))), (3, .ptr (some (h1.size, 0))), (72, .bool ((((((((((p0.Name == p1.Name) && (p0.AU == p1.AU)) && (p0.Kind == p1.Kind)) && (p0.Mode == p1.Mode)) && (p0.BP == p1.BP)) && (p0.BQ == p1.BQ)) && (p0.AN == p1.AN)) && (p0.AO == p1.AO)) && (p0.Aa == p1.Aa)) && (p0.Ag == p1.Ag)))]) ?_ ?_
 ·cases hb : (((((((((p0.Name == p1.Name) && (p0.AU == p1.AU)) && (p0.Kind == p1.Kind)) && (p0.Mode == p1.Mode)) && (p0.BP == p1.BP)) && (p0.BQ == p1.BQ)) && (p0.AN == p1.AN)) && (p0.AO == p1.AO)) && (p0.Aa == p1.Aa) : Bool) with
  | true =>
   replace H := H.kn 66 hb
   refine AV 1 [] 68 1 9 A H fun fr t H => ?_
   refine AV 1 [] 70 0 9 A H fun fr t H => ?_
   exact AM 2 [(72, .bool (p0.Ag == p1.Ag))] H fun fr H => Ao H hb
  | false =>
   replace H := H.kn 66 hb
   exact AM 6 [(72, .bool false)] H fun fr H => Ao H hb
 intro t fr h' hK
 obtain ⟨e, H⟩ := hK
 subst e
 refine AM 1 [(73, .bool ((((((((((p0.Name == p1.Name) && (p0.AU == p1.AU)) && (p0.Kind == p1.Kind)) && (p0.Mode == p1.Mode)) && (p0.BP == p1.BP)) && (p0.BQ == p1.BQ)) && (p0.AN == p1.AN)) && (p0.AO == p1.AO)) && (p0.Aa == p1.Aa)) && (p0.Ag == p1.Ag)))] H fun fr H => ?_
 obtain ⟨x1, ho, hm⟩ := bind_some hm
 refine A5 6 (fun fr' h' => Has fr' 94 [(2, .ptr (some (h.size, 0))), (3, .ptr (some (h1.size, 0))), (79, .bool x1)] ∧ HH g h' [.obj h1.size (.cells none 2 (AI p1)), .obj h.size (.cells none 2 (AI p0))] F) ?_ ?_
 ·rcases Ax ho with ⟨hb, hm⟩ | ⟨hb, hm⟩
  ·replace H := H.kn 73 hb
   refine BC 1 [] 75 _ _ H (fun fr => .of (BM (by kernel_rfl) (A.Eh 1 rfl (o := 10) (n := 2) ⟨Nat.le_of_ble_eq_true rfl, rfl⟩))) fun fr t H => ?_
   refine BC 1 [] 77 _ _ H (fun fr => .of (BM (by kernel_rfl) (A.Eh 0 rfl (o := 10) (n := 2) ⟨Nat.le_of_ble_eq_true rfl, rfl⟩))) fun fr t H => ?_
   obtain ⟨x2, hx, hm⟩ := bind_some hm
   refine Ae 78 (.bool x2) h2 H (fun fr => .of (X8 (by kernel_rfl) hx)) fun fr t H => ?_
   refine AM 1 [(79, .bool x2)] H fun fr H => ?_
   obtain rfl := An hm
   exact at_nil ⟨H.ls, A⟩
  replace H := H.kn 73 hb
  refine AM 6 [(79, .bool false)] H fun fr H => ?_
  obtain rfl := An hm
  exact at_nil ⟨H.ls, A⟩
 clear A
 intro t fr h3 hK
 obtain ⟨H, A⟩ := hK
 refine AM 1 [(80, .bool x1)] H fun fr H => ?_
 obtain ⟨x3, ho, hm⟩ := bind_some hm
 refine A5 6 (fun fr' h' => Has fr' 94 [(2, .ptr (some (h.size, 0))), (3, .ptr (some (h1.size, 0))), (86, .bool x3)] ∧ HH g h' [.obj h1.size (.cells none 2 (AI p1)), .obj h.size (.cells none 2 (AI p0))] F) ?_ ?_
 ·rcases Ax ho with ⟨hb, hm⟩ | ⟨hb, hm⟩
  ·replace H := H.kn 80 hb
   refine AV 1 [] 82 1 12 A H fun fr t H => ?_
   refine AV 1 [] 84 0 12 A H fun fr t H => ?_
   obtain ⟨x4, hx, hm⟩ := bind_some hm
   obtain ⟨v1, h5, hr, rfl, A1⟩ := JU (av := [vs AE p0.Extra, vs AE p1.Extra]) hx (A.cut 0)
   replace A := A.DN A1
   refine Aw 85 hr H fun fr t H => ?_
   refine AM 1 [(86, .bool x4)] H fun fr H => ?_
   obtain rfl := An hm
   exact at_nil ⟨H.ls, A⟩
  replace H := H.kn 80 hb
  refine AM 6 [(86, .bool false)] H fun fr H => ?_
  obtain rfl := An hm
  exact at_nil ⟨H.ls, A⟩
 clear A
 intro t fr h4 hK
 obtain ⟨H, A⟩ := hK
 refine AM 1 [(87, .bool x3)] H fun fr H => A5 6 (fun fr' h' => h4 = h' ∧ Has fr' 94 [(93, .bool (x3 && (p0.Data == p1.Data)))]) ?_ ?_
 ·cases hb : (x3 : Bool) with
  | true =>
   replace H := H.kn 87 hb
   refine AV 1 [] 89 1 13 A H fun fr t H => ?_
   refine AV 1 [] 91 0 13 A H fun fr t H => ?_
   exact AM 2 [(93, .bool (p0.Data == p1.Data))] H fun fr H => Ao H hb
  | false =>
   replace H := H.kn 87 hb
   exact AM 6 [(93, .bool false)] H fun fr H => Ao H hb
 intro t fr h' hK
 obtain ⟨e, H⟩ := hK
 subst e
 refine AK 1 [(4, .bool (x3 && (p0.Data == p1.Data)))] H fun fr H => AS ?_
 obtain rfl := An hm
 refine ⟨.inl rfl, .bool (x3 && (p0.Data == p1.Data)), rH H, ?_⟩
 replace A := A.d0
 exact ⟨rfl, A⟩
end
end Go.Av.L
