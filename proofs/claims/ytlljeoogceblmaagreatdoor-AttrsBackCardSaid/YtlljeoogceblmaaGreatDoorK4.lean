/-
 A part.
-/
import Derived.Test.YtlljeoogceblmaaGreatDoorKCfg
import Derived.Test.YtlljeoogceblmaaGreatDoorK2
import Derived.Test.YtlljeoogceblmaaGreatDoorK3
namespace Go.Av.L
open Go.Av Go.Lib
set_option maxRecDepth 10000
set_option linter.unusedVariables false
set_option linter.unusedSimpArgs false
variable {g : Gd} {h : AD} {F : List Ck} {av : List AA}
noncomputable section
def D1 (p0 : List UInt8) (p2_0 : AJ) : Option (Int × AJ) :=
 (Al p0 (1 : Int)).bind fun x1 => (BF x1).bind fun (x2, x3) => Ad (x3 != 0) (some (x3, p2_0)) (Ad ((decide (x2 < 0)) || false) (some ((6 : Int), p2_0)) ((Al p0 (2 : Int)).bind fun x4 => (BF x4).bind fun (x5, x6) => Ad (x6 != 0) (some (x6, (⟨p2_0.Name, p2_0.AU, p2_0.Kind, x2, p2_0.BP, p2_0.BQ, p2_0.BU, p2_0.Time, p2_0.AN, p2_0.AO, p2_0.Aa, p2_0.Ag, p2_0.Form⟩ : AJ))) (Ad ((decide (x5 < 0)) || false) (some ((6 : Int), (⟨p2_0.Name, p2_0.AU, p2_0.Kind, x2, p2_0.BP, p2_0.BQ, p2_0.BU, p2_0.Time, p2_0.AN, p2_0.AO, p2_0.Aa, p2_0.Ag, p2_0.Form⟩ : AJ))) ((Al p0 (3 : Int)).bind fun x7 => (BF x7).bind fun (x8, x9) => Ad (x9 != 0) (some (x9, (⟨p2_0.Name, p2_0.AU, p2_0.Kind, x2, x5, p2_0.BQ, p2_0.BU, p2_0.Time, p2_0.AN, p2_0.AO, p2_0.Aa, p2_0.Ag, p2_0.Form⟩ : AJ))) (Ad ((decide (x8 < 0)) || false) (some ((6 : Int), (⟨p2_0.Name, p2_0.AU, p2_0.Kind, x2, x5, p2_0.BQ, p2_0.BU, p2_0.Time, p2_0.AN, p2_0.AO, p2_0.Aa, p2_0.Ag, p2_0.Form⟩ : AJ))) ((Al p0 (4 : Int)).bind fun x10 => (BF x10).bind fun (x11, x12) => Ad (x12 != 0) (some (x12, (⟨p2_0.Name, p2_0.AU, p2_0.Kind, x2, x5, x8, p2_0.BU, p2_0.Time, p2_0.AN, p2_0.AO, p2_0.Aa, p2_0.Ag, p2_0.Form⟩ : AJ))) (Ad ((decide (x11 < 0)) || false) (some ((6 : Int), (⟨p2_0.Name, p2_0.AU, p2_0.Kind, x2, x5, x8, p2_0.BU, p2_0.Time, p2_0.AN, p2_0.AO, p2_0.Aa, p2_0.Ag, p2_0.Form⟩ : AJ))) ((Al p0 (5 : Int)).bind fun x13 => (BF x13).bind fun (x14, x15) => Ad (x15 != 0) (some (x15, (⟨p2_0.Name, p2_0.AU, p2_0.Kind, x2, x5, x8, x11, p2_0.Time, p2_0.AN, p2_0.AO, p2_0.Aa, p2_0.Ag, p2_0.Form⟩ : AJ))) (Ad ((decide (x14 < 0)) && false) (some ((6 : Int), (⟨p2_0.Name, p2_0.AU, p2_0.Kind, x2, x5, x8, x11, p2_0.Time, p2_0.AN, p2_0.AO, p2_0.Aa, p2_0.Ag, p2_0.Form⟩ : AJ))) (some ((0 : Int), (⟨p2_0.Name, p2_0.AU, p2_0.Kind, x2, x5, x8, x11, x14, p2_0.AN, p2_0.AO, p2_0.Aa, p2_0.Ag, p2_0.Form⟩ : AJ))))))))))))
theorem H5 {p0 p2_0 bp1 bp2 bp2_0 q0 u2} (hm : D1 p0 p2_0 = some (q0, u2)) (A : HH g h [.obj bp1 (.cells (some 3) 2 [Ai (1 : Int), Ai (2 : Int), Ai (3 : Int), Ai (4 : Int), Ai (5 : Int)]), .obj bp2 (.cells (some 135) 2 [.ptr (some (bp2_0, 3)), .ptr (some (bp2_0, 4)), .ptr (some (bp2_0, 5)), .ptr (some (bp2_0, 6)), .ptr (some (bp2_0, 7))]), .obj bp2_0 (.cells none 2 (AF p2_0))] F) (hc : BG (cfg.still 80) av = [.str p0, .slice (some (bp1, 0)) 5, .slice (some (bp2, 0)) 5] := by kernel_rfl) : ∃ v h', BH cfg g h 80 av v h' ∧ v = Ai q0 ∧ HH g h' [.obj bp1 (.cells (some 3) 2 [Ai (1 : Int), Ai (2 : Int), Ai (3 : Int), Ai (4 : Int), Ai (5 : Int)]), .obj bp2 (.cells (some 135) 2 [.ptr (some (bp2_0, 3)), .ptr (some (bp2_0, 4)), .ptr (some (bp2_0, 5)), .ptr (some (bp2_0, 6)), .ptr (some (bp2_0, 7))]), .obj bp2_0 (.cells none 2 (AF u2))] F := by
 refine ES 43 [.tmp 6] hc ?_
 clear hc
 unfold D1 at hm
 refine bg 43 [(0, .str p0), (1, .slice (some (bp1, 0)) 5), (2, .slice (some (bp2, 0)) 5)] fun fr H => ?_
 refine AG 1 (AK 1 [] H fun fr H => AP (AG 3 (AK 3 [(11, .slice (some (bp1, 0)) 5), (12, Ai 5), (13, Ai 0)] H fun fr H => AY (id := 0) (by kernel_rfl) ?_)))
 refine C4 (by kernel_rfl) ?_
 refine AG 1 (AK 1 [(14, .bool true)] H fun fr H => AP (Cf (x := .tmp 14) (by kernel_rfl) H (fun fr => by kernel_rfl) ?_))
 refine CI id (AP (AY (id := 1) (by kernel_rfl) ?_))
 refine AG 5 (AV 2 [(15, Ai (0 : Int))] 17 0 0 A H fun fr t H => ?_)
 refine Bg 2 [(7, Ai 0), (8, Ai 1)] 9 H fun fr H => ?_
 obtain ⟨x1, hx, hm⟩ := bind_some hm
 obtain ⟨v1, h1, hr, rfl, A1⟩ := A7 (av := [.str p0, Ai 1]) hx (A.cut 0)
 replace A := A.DN A1
 refine A6 2 [] 21 hr H fun fr t H => ?_
 obtain ⟨⟨x2, x3⟩, hx, hm⟩ := bind_some hm
 obtain ⟨v1, h2, hr, rfl, A1⟩ := Bc (av := [.str x1]) hx (A.cut 0)
 replace A := A.DN A1
 refine Aw 22 hr H fun fr t H => ?_
 refine AK 5 [(9, Ai x2), (10, Ai x3)] H fun fr H => AP (AY (id := 2) (by kernel_rfl) ?_)
 refine AG 3 (AK 3 [(25, .bool (x3 != 0))] H fun fr H => AZ 25 H hm (fun hb hm H => ?_) fun hb hm H => ?_)
 ·refine AG 2 (AK 2 [(6, Ai x3)] H fun fr H => AS ?_)
  obtain ⟨rfl, rfl⟩ := BD hm
  exact ⟨.inl rfl, _, rH H, rfl, A⟩
 refine AG 7 (AM 3 [(32, .bool (decide (x2 < 0)))] H fun fr H => A5 3 (fun fr' h' => h2 = h' ∧ Has fr' 43 [(0, .str p0), (2, .slice (some (bp2, 0)) 5), (7, Ai 0), (9, Ai x2), (11, .slice (some (bp1, 0)) 5), (12, Ai 5), (13, Ai 0), (35, .bool ((decide (x2 < 0)) || false))]) ?_ ?_)
 ·cases hb : (decide (x2 < 0) : Bool) with
  | true =>
   replace H := H.kn 32 hb
   exact AM 3 [(35, .bool true)] H fun fr H => Ao H hb
  | false =>
   replace H := H.kn 32 hb
   exact AM 3 [(35, .bool false)] H fun fr H => Ao H hb
 intro t fr h' hK
 obtain ⟨e, H⟩ := hK
 subst e
 refine AK 1 [(29, .bool ((decide (x2 < 0)) || false))] H fun fr H => AZ 29 H hm (fun hb hm H => ?_) fun hb hm H => ?_
 ·refine AG 1 (AK 1 [(6, Ai 6)] H fun fr H => AS ?_)
  obtain ⟨rfl, rfl⟩ := BD hm
  exact ⟨.inl rfl, _, rH H, rfl, A⟩
 refine DI 7 id (AV 3 [] 39 1 0 A H fun fr t H => ?_)
 obtain ⟨h3, hx, A⟩ := A.s2 3 [Ai x2] [_, _, _, _, _, _, _, _, _, _, _, _, _]
 refine CF 2 [] hx H fun fr t H => ?_
 refine Ep 2 id (Bd 2 [(0, .str p0), (2, .slice (some (bp2, 0)) 5), (11, .slice (some (bp1, 0)) 5), (12, Ai 5), (13, Ai 1)] H fun fr H => BI id (C4 (by kernel_rfl) ?_))
 refine AG 1 (AK 1 [(14, .bool true)] H fun fr H => AP (Cf (x := .tmp 14) (by kernel_rfl) H (fun fr => by kernel_rfl) ?_))
 refine CI id (AP (AY (id := 1) (by kernel_rfl) ?_))
 refine AG 5 (AV 2 [(15, Ai (1 : Int))] 17 0 1 A H fun fr t H => ?_)
 refine Bg 2 [(7, Ai 1), (8, Ai 2)] 9 H fun fr H => ?_
 obtain ⟨x4, hx, hm⟩ := bind_some hm
 obtain ⟨v1, h4, hr, rfl, A1⟩ := A7 (av := [.str p0, Ai 2]) hx (A.cut 0)
 replace A := A.DN A1
 refine A6 2 [] 21 hr H fun fr t H => ?_
 obtain ⟨⟨x5, x6⟩, hx, hm⟩ := bind_some hm
 obtain ⟨v1, h5, hr, rfl, A1⟩ := Bc (av := [.str x4]) hx (A.cut 0)
 replace A := A.DN A1
 refine Aw 22 hr H fun fr t H => ?_
 refine AK 5 [(9, Ai x5), (10, Ai x6)] H fun fr H => AP (AY (id := 2) (by kernel_rfl) ?_)
 refine AG 3 (AK 3 [(25, .bool (x6 != 0))] H fun fr H => AZ 25 H hm (fun hb hm H => ?_) fun hb hm H => ?_)
 ·refine AG 2 (AK 2 [(6, Ai x6)] H fun fr H => AS ?_)
  obtain ⟨rfl, rfl⟩ := BD hm
  exact ⟨.inl rfl, _, rH H, rfl, A⟩
 refine AG 7 (AM 3 [(32, .bool (decide (x5 < 0)))] H fun fr H => A5 3 (fun fr' h' => h5 = h' ∧ Has fr' 43 [(0, .str p0), (2, .slice (some (bp2, 0)) 5), (7, Ai 1), (9, Ai x5), (11, .slice (some (bp1, 0)) 5), (12, Ai 5), (13, Ai 1), (35, .bool ((decide (x5 < 0)) || false))]) ?_ ?_)
 ·cases hb : (decide (x5 < 0) : Bool) with
  | true =>
   replace H := H.kn 32 hb
   exact AM 3 [(35, .bool true)] H fun fr H => Ao H hb
  | false =>
   replace H := H.kn 32 hb
   exact AM 3 [(35, .bool false)] H fun fr H => Ao H hb
 intro t fr h' hK
 obtain ⟨e, H⟩ := hK
 subst e
 refine AK 1 [(29, .bool ((decide (x5 < 0)) || false))] H fun fr H => AZ 29 H hm (fun hb hm H => ?_) fun hb hm H => ?_
 ·refine AG 1 (AK 1 [(6, Ai 6)] H fun fr H => AS ?_)
  obtain ⟨rfl, rfl⟩ := BD hm
  exact ⟨.inl rfl, _, rH H, rfl, A⟩
 refine DI 7 id (AV 3 [] 39 1 1 A H fun fr t H => ?_)
 obtain ⟨h6, hx, A⟩ := A.s2 4 [Ai x5] [_, _, _, _, _, _, _, _, _, _, _, _, _]
 refine CF 2 [] hx H fun fr t H => ?_
 refine Ep 2 id (Bd 2 [(0, .str p0), (2, .slice (some (bp2, 0)) 5), (11, .slice (some (bp1, 0)) 5), (12, Ai 5), (13, Ai 2)] H fun fr H => BI id (C4 (by kernel_rfl) ?_))
 refine AG 1 (AK 1 [(14, .bool true)] H fun fr H => AP (Cf (x := .tmp 14) (by kernel_rfl) H (fun fr => by kernel_rfl) ?_))
 refine CI id (AP (AY (id := 1) (by kernel_rfl) ?_))
 refine AG 5 (AV 2 [(15, Ai (2 : Int))] 17 0 2 A H fun fr t H => ?_)
 refine Bg 2 [(7, Ai 2), (8, Ai 3)] 9 H fun fr H => ?_
 obtain ⟨x7, hx, hm⟩ := bind_some hm
 obtain ⟨v1, h7, hr, rfl, A1⟩ := A7 (av := [.str p0, Ai 3]) hx (A.cut 0)
 replace A := A.DN A1
 refine A6 2 [] 21 hr H fun fr t H => ?_
 obtain ⟨⟨x8, x9⟩, hx, hm⟩ := bind_some hm
 obtain ⟨v1, h8, hr, rfl, A1⟩ := Bc (av := [.str x7]) hx (A.cut 0)
 replace A := A.DN A1
 refine Aw 22 hr H fun fr t H => ?_
 refine AK 5 [(9, Ai x8), (10, Ai x9)] H fun fr H => AP (AY (id := 2) (by kernel_rfl) ?_)
 refine AG 3 (AK 3 [(25, .bool (x9 != 0))] H fun fr H => AZ 25 H hm (fun hb hm H => ?_) fun hb hm H => ?_)
 ·refine AG 2 (AK 2 [(6, Ai x9)] H fun fr H => AS ?_)
  obtain ⟨rfl, rfl⟩ := BD hm
  exact ⟨.inl rfl, _, rH H, rfl, A⟩
 refine AG 7 (AM 3 [(32, .bool (decide (x8 < 0)))] H fun fr H => A5 3 (fun fr' h' => h8 = h' ∧ Has fr' 43 [(0, .str p0), (2, .slice (some (bp2, 0)) 5), (7, Ai 2), (9, Ai x8), (11, .slice (some (bp1, 0)) 5), (12, Ai 5), (13, Ai 2), (35, .bool ((decide (x8 < 0)) || false))]) ?_ ?_)
 ·cases hb : (decide (x8 < 0) : Bool) with
  | true =>
   replace H := H.kn 32 hb
   exact AM 3 [(35, .bool true)] H fun fr H => Ao H hb
  | false =>
   replace H := H.kn 32 hb
   exact AM 3 [(35, .bool false)] H fun fr H => Ao H hb
 intro t fr h' hK
 obtain ⟨e, H⟩ := hK
 subst e
 refine AK 1 [(29, .bool ((decide (x8 < 0)) || false))] H fun fr H => AZ 29 H hm (fun hb hm H => ?_) fun hb hm H => ?_
 ·refine AG 1 (AK 1 [(6, Ai 6)] H fun fr H => AS ?_)
  obtain ⟨rfl, rfl⟩ := BD hm
  exact ⟨.inl rfl, _, rH H, rfl, A⟩
 refine DI 7 id (AV 3 [] 39 1 2 A H fun fr t H => ?_)
 obtain ⟨h9, hx, A⟩ := A.s2 5 [Ai x8] [_, _, _, _, _, _, _, _, _, _, _, _, _]
 refine CF 2 [] hx H fun fr t H => ?_
 refine Ep 2 id (Bd 2 [(0, .str p0), (2, .slice (some (bp2, 0)) 5), (11, .slice (some (bp1, 0)) 5), (12, Ai 5), (13, Ai 3)] H fun fr H => BI id (C4 (by kernel_rfl) ?_))
 refine AG 1 (AK 1 [(14, .bool true)] H fun fr H => AP (Cf (x := .tmp 14) (by kernel_rfl) H (fun fr => by kernel_rfl) ?_))
 refine CI id (AP (AY (id := 1) (by kernel_rfl) ?_))
 refine AG 5 (AV 2 [(15, Ai (3 : Int))] 17 0 3 A H fun fr t H => ?_)
 refine Bg 2 [(7, Ai 3), (8, Ai 4)] 9 H fun fr H => ?_
 obtain ⟨x10, hx, hm⟩ := bind_some hm
 obtain ⟨v1, h10, hr, rfl, A1⟩ := A7 (av := [.str p0, Ai 4]) hx (A.cut 0)
 replace A := A.DN A1
 refine A6 2 [] 21 hr H fun fr t H => ?_
 obtain ⟨⟨x11, x12⟩, hx, hm⟩ := bind_some hm
 obtain ⟨v1, h11, hr, rfl, A1⟩ := Bc (av := [.str x10]) hx (A.cut 0)
 replace A := A.DN A1
 refine Aw 22 hr H fun fr t H => ?_
 refine AK 5 [(9, Ai x11), (10, Ai x12)] H fun fr H => AP (AY (id := 2) (by kernel_rfl) ?_)
 refine AG 3 (AK 3 [(25, .bool (x12 != 0))] H fun fr H => AZ 25 H hm (fun hb hm H => ?_) fun hb hm H => ?_)
 ·refine AG 2 (AK 2 [(6, Ai x12)] H fun fr H => AS ?_)
  obtain ⟨rfl, rfl⟩ := BD hm
  exact ⟨.inl rfl, _, rH H, rfl, A⟩
 refine AG 7 (AM 3 [(32, .bool (decide (x11 < 0)))] H fun fr H => A5 3 (fun fr' h' => h11 = h' ∧ Has fr' 43 [(0, .str p0), (2, .slice (some (bp2, 0)) 5), (7, Ai 3), (9, Ai x11), (11, .slice (some (bp1, 0)) 5), (12, Ai 5), (13, Ai 3), (35, .bool ((decide (x11 < 0)) || false))]) ?_ ?_)
 ·cases hb : (decide (x11 < 0) : Bool) with
  | true =>
   replace H := H.kn 32 hb
   exact AM 3 [(35, .bool true)] H fun fr H => Ao H hb
  | false =>
   replace H := H.kn 32 hb
   exact AM 3 [(35, .bool false)] H fun fr H => Ao H hb
 intro t fr h' hK
 obtain ⟨e, H⟩ := hK
 subst e
 refine AK 1 [(29, .bool ((decide (x11 < 0)) || false))] H fun fr H => AZ 29 H hm (fun hb hm H => ?_) fun hb hm H => ?_
 ·refine AG 1 (AK 1 [(6, Ai 6)] H fun fr H => AS ?_)
  obtain ⟨rfl, rfl⟩ := BD hm
  exact ⟨.inl rfl, _, rH H, rfl, A⟩
 refine DI 7 id (AV 3 [] 39 1 3 A H fun fr t H => ?_)
 obtain ⟨h12, hx, A⟩ := A.s2 6 [Ai x11] [_, _, _, _, _, _, _, _, _, _, _, _, _]
 refine CF 2 [] hx H fun fr t H => ?_
 refine Ep 2 id (Bd 2 [(0, .str p0), (2, .slice (some (bp2, 0)) 5), (11, .slice (some (bp1, 0)) 5), (12, Ai 5), (13, Ai 4)] H fun fr H => BI id (C4 (by kernel_rfl) ?_))
 refine AG 1 (AK 1 [(14, .bool true)] H fun fr H => AP (Cf (x := .tmp 14) (by kernel_rfl) H (fun fr => by kernel_rfl) ?_))
 refine CI id (AP (AY (id := 1) (by kernel_rfl) ?_))
 refine AG 5 (AV 2 [(15, Ai (4 : Int))] 17 0 4 A H fun fr t H => ?_)
 refine Bg 2 [(7, Ai 4), (8, Ai 5)] 9 H fun fr H => ?_
 obtain ⟨x13, hx, hm⟩ := bind_some hm
 obtain ⟨v1, h13, hr, rfl, A1⟩ := A7 (av := [.str p0, Ai 5]) hx (A.cut 0)
 replace A := A.DN A1
 refine A6 2 [] 21 hr H fun fr t H => ?_
 obtain ⟨⟨x14, x15⟩, hx, hm⟩ := bind_some hm
 obtain ⟨v1, h14, hr, rfl, A1⟩ := Bc (av := [.str x13]) hx (A.cut 0)
 replace A := A.DN A1
 refine Aw 22 hr H fun fr t H => ?_
 refine AK 5 [(9, Ai x14), (10, Ai x15)] H fun fr H => AP (AY (id := 2) (by kernel_rfl) ?_)
 refine AG 3 (AK 3 [(25, .bool (x15 != 0))] H fun fr H => AZ 25 H hm (fun hb hm H => ?_) fun hb hm H => ?_)
 ·refine AG 2 (AK 2 [(6, Ai x15)] H fun fr H => AS ?_)
  obtain ⟨rfl, rfl⟩ := BD hm
  exact ⟨.inl rfl, _, rH H, rfl, A⟩
 refine AG 7 (AM 3 [(32, .bool (decide (x14 < 0)))] H fun fr H => A5 3 (fun fr' h' => h14 = h' ∧ Has fr' 43 [(0, .str p0), (2, .slice (some (bp2, 0)) 5), (7, Ai 4), (9, Ai x14), (11, .slice (some (bp1, 0)) 5), (12, Ai 5), (13, Ai 4), (35, .bool ((decide (x14 < 0)) && false))]) ?_ ?_)
 ·cases hb : (decide (x14 < 0) : Bool) with
  | true =>
   replace H := H.kn 32 hb
   exact AM 3 [(35, .bool false)] H fun fr H => Ao H hb
  | false =>
   replace H := H.kn 32 hb
   exact AM 3 [(35, .bool false)] H fun fr H => Ao H hb
 intro t fr h' hK
 obtain ⟨e, H⟩ := hK
 subst e
 refine AK 1 [(29, .bool ((decide (x14 < 0)) && false))] H fun fr H => AZ 29 H hm (fun hb hm H => ?_) fun hb hm H => ?_
 ·refine AG 1 (AK 1 [(6, Ai 6)] H fun fr H => AS ?_)
  obtain ⟨rfl, rfl⟩ := BD hm
  exact ⟨.inl rfl, _, rH H, rfl, A⟩
 refine DI 7 id (AV 3 [] 39 1 4 A H fun fr t H => ?_)
 obtain ⟨h15, hx, A⟩ := A.s2 7 [Ai x14] [_, _, _, _, _, _, _, _, _, _, _, _, _]
 refine CF 2 [] hx H fun fr t H => ?_
 refine Ep 2 id (Bd 2 [(0, .str p0), (2, .slice (some (bp2, 0)) 5), (11, .slice (some (bp1, 0)) 5), (12, Ai 5), (13, Ai 5)] H fun fr H => BI id (C4 (by kernel_rfl) ?_))
 refine AG 1 (AK 1 [(14, .bool false)] H fun fr H => AP (E8 (x := .tmp 14) (by kernel_rfl) H (fun fr => by kernel_rfl) ?_))
 refine Bf (i := 0) (by kernel_rfl) ?_
 show AW _ _ _ _ _ _ _
 refine AG 1 (AK 1 [(6, Ai 0)] H fun fr H => AS ?_)
 obtain ⟨rfl, rfl⟩ := BD hm
 exact ⟨.inl rfl, _, rH H, rfl, A⟩
def Eb (p0 : List UInt8) : Option (AJ × Int) :=
 Ad ((p0.length : Int) != 512) (some ((⟨([] : List UInt8), ([] : List UInt8), (0 : Int), (0 : Int), (0 : Int), (0 : Int), (0 : Int), (0 : Int), ([] : List UInt8), ([] : List UInt8), (0 : Int), (0 : Int), (0 : Int)⟩ : AJ), (1 : Int))) ((Fl p0).bind fun x1 => Ad (!x1) (some ((⟨([] : List UInt8), ([] : List UInt8), (0 : Int), (0 : Int), (0 : Int), (0 : Int), (0 : Int), (0 : Int), ([] : List UInt8), ([] : List UInt8), (0 : Int), (0 : Int), (0 : Int)⟩ : AJ), (4 : Int))) ((FF p0 (some (257 : Int)) (some (265 : Int))).bind fun x2 => (GL x2).bind fun x3 => Ad (x3 == 0) (some ((⟨([] : List UInt8), ([] : List UInt8), (0 : Int), (0 : Int), (0 : Int), (0 : Int), (0 : Int), (0 : Int), ([] : List UInt8), ([] : List UInt8), (0 : Int), (0 : Int), (0 : Int)⟩ : AJ), (2 : Int))) (Ad (x3 != 1) ((Al p0 (7 : Int)).bind fun x4 => (Ca x4).bind fun x5 => (Al p0 (8 : Int)).bind fun x6 => (Ca x6).bind fun x7 => (C9 p0 (⟨([] : List UInt8), ([] : List UInt8), (0 : Int), (0 : Int), (0 : Int), (0 : Int), (0 : Int), (0 : Int), x5, x7, (0 : Int), (0 : Int), x3⟩ : AJ)).bind fun (x8, x9) => Ad (x8 != 0) (some ((⟨([] : List UInt8), ([] : List UInt8), (0 : Int), (0 : Int), (0 : Int), (0 : Int), (0 : Int), (0 : Int), ([] : List UInt8), ([] : List UInt8), (0 : Int), (0 : Int), (0 : Int)⟩ : AJ), x8)) ((Al p0 (0 : Int)).bind fun x10 => (Ca x10).bind fun x11 => (Al p0 (6 : Int)).bind fun x12 => (Ca x12).bind fun x13 => (Ad (x9.Form == 2) ((Al p0 (11 : Int)).bind fun x15 => (Ca x15).bind fun x16 => (FT x16 x11).bind fun x17 => some x17) (some x11) : Option (((List UInt8)))).bind fun x14 => ((LN p0 (156 : Int)).bind fun x19 => Ad (x19 == 0) (some (48 : Int)) (some x19) : Option ((Int))).bind fun x18 => some ((⟨x14, x13, x18, x9.Mode, x9.BP, x9.BQ, x9.BU, x9.Time, x9.AN, x9.AO, x9.Aa, x9.Ag, x9.Form⟩ : AJ), (0 : Int)))) ((D1 p0 (⟨([] : List UInt8), ([] : List UInt8), (0 : Int), (0 : Int), (0 : Int), (0 : Int), (0 : Int), (0 : Int), ([] : List UInt8), ([] : List UInt8), (0 : Int), (0 : Int), x3⟩ : AJ)).bind fun (x20, x21) => Ad (x20 != 0) (some ((⟨([] : List UInt8), ([] : List UInt8), (0 : Int), (0 : Int), (0 : Int), (0 : Int), (0 : Int), (0 : Int), ([] : List UInt8), ([] : List UInt8), (0 : Int), (0 : Int), (0 : Int)⟩ : AJ), x20)) ((Al p0 (0 : Int)).bind fun x22 => (Ca x22).bind fun x23 => (Al p0 (6 : Int)).bind fun x24 => (Ca x24).bind fun x25 => (Ad (x21.Form == 2) ((Al p0 (11 : Int)).bind fun x27 => (Ca x27).bind fun x28 => (FT x28 x23).bind fun x29 => some x29) (some x23) : Option (((List UInt8)))).bind fun x26 => ((LN p0 (156 : Int)).bind fun x31 => Ad (x31 == 0) (some (48 : Int)) (some x31) : Option ((Int))).bind fun x30 => some ((⟨x26, x25, x30, x21.Mode, x21.BP, x21.BQ, x21.BU, x21.Time, x21.AN, x21.AO, x21.Aa, x21.Ag, x21.Form⟩ : AJ), (0 : Int)))))))
theorem M0 {p0 q0 q1} (hm : Eb p0 = some (q0, q1)) (A : HH g h [] F) (hc : BG (cfg.still 29) av = [.str p0] := by kernel_rfl) : ∃ v h', BH cfg g h 29 av v h' ∧ v = .tuple [.agg (AF q0), Ai q1] ∧ HH g h' [] F := by
 refine ES 86 [.cell 2 35, .tmp 3] hc ?_
 clear hc
 unfold Eb at hm
 refine bg 86 [(0, .str p0)] fun fr H => ?_
 refine AG 2 ?_
 obtain ⟨h1, e1, A⟩ := A.pu (.cells none 2 [.str ([] : List UInt8), .str ([] : List UInt8), Ab 0, Ai 0, Ai 0, Ai 0, Ai 0, Ai 0, .str ([] : List UInt8), .str ([] : List UInt8), Ai 0, Ai 0, Ai 0])
 refine BK 2 (.ptr (some (h.size, 0))) e1 H fun fr t H => ?_
 refine AK 1 [] H fun fr H => AP (AY (id := 0) (by kernel_rfl) ?_)
 refine AG 4 (AK 4 [(8, .bool ((p0.length : Int) != 512))] H fun fr H => AZ 8 H hm (fun hb hm H => ?_) fun hb hm H => ?_)
 ·refine AG 3 ?_
  obtain ⟨h2, hx, A⟩ := A.s0 0 [.str ([] : List UInt8), .str ([] : List UInt8), Ab 0, Ai 0, Ai 0, Ai 0, Ai 0, Ai 0, .str ([] : List UInt8), .str ([] : List UInt8), Ai 0, Ai 0, Ai 0] [_, _, _, _, _, _, _, _, _, _, _, _, _]
  refine Es 1 [] hx H fun fr t H => ?_
  refine AK 1 [(3, Ai 1)] H fun fr H => AS ?_
  obtain ⟨rfl, rfl⟩ := BD hm
  refine ⟨.inl rfl, .tuple [.agg [.str ([] : List UInt8), .str ([] : List UInt8), Ab 0, Ai 0, Ai 0, Ai 0, Ai 0, Ai 0, .str ([] : List UInt8), .str ([] : List UInt8), Ai 0, Ai 0, Ai 0], Ai 1], CW (.cell (rT H) (CL (by kernel_rfl) (by kernel_rfl) (A.la 0 0 13)) (.tmp (rT H) .nil)), ?_⟩
  replace A := A.d0
  exact ⟨rfl, A⟩
 refine AG 4 ?_
 obtain ⟨x1, hx, hm⟩ := bind_some hm
 obtain ⟨v1, h3, hr, rfl, A1⟩ := Om (av := [.str p0]) hx (A.cut 0)
 replace A : HH g h3 [.obj h.size (.cells none 2 [.str ([] : List UInt8), .str ([] : List UInt8), Ab (0 : Int), Ai (0 : Int), Ai (0 : Int), Ai (0 : Int), Ai (0 : Int), Ai (0 : Int), .str ([] : List UInt8), .str ([] : List UInt8), Ai (0 : Int), Ai (0 : Int), Ai (0 : Int)])] F := A.Fp (n := 0) A1
 refine A6 1 [] 15 hr H fun fr t H => ?_
 refine AK 2 [(13, .bool (!x1))] H fun fr H => AZ 13 H hm (fun hb hm H => ?_) fun hb hm H => ?_
 ·refine AG 3 ?_
  obtain ⟨h4, hx, A⟩ := A.s0 0 [.str ([] : List UInt8), .str ([] : List UInt8), Ab 0, Ai 0, Ai 0, Ai 0, Ai 0, Ai 0, .str ([] : List UInt8), .str ([] : List UInt8), Ai 0, Ai 0, Ai 0] [_, _, _, _, _, _, _, _, _, _, _, _, _]
  refine Es 1 [] hx H fun fr t H => ?_
  refine AK 1 [(3, Ai 4)] H fun fr H => AS ?_
  obtain ⟨rfl, rfl⟩ := BD hm
  refine ⟨.inl rfl, .tuple [.agg [.str ([] : List UInt8), .str ([] : List UInt8), Ab 0, Ai 0, Ai 0, Ai 0, Ai 0, Ai 0, .str ([] : List UInt8), .str ([] : List UInt8), Ai 0, Ai 0, Ai 0], Ai 4], CW (.cell (rT H) (CL (by kernel_rfl) (by kernel_rfl) (A.la 0 0 13)) (.tmp (rT H) .nil)), ?_⟩
  replace A := A.d0
  exact ⟨rfl, A⟩
 refine Br 6 id ?_
 obtain ⟨x2, hx, hm⟩ := bind_some hm
 refine BC 1 [] 19 (.str x2) h3 H (fun fr => .of (Fe (k := .i64) (k' := .i64) (lo := (some (257 : Int))) (hi := (some (265 : Int))) (by kernel_rfl) hx)) fun fr t H => ?_
 obtain ⟨x3, hx, hm⟩ := bind_some hm
 obtain ⟨v1, h5, hr, rfl, A1⟩ := OB (av := [.str x2]) hx (A.cut 0)
 replace A := A.DN A1
 refine Aw 20 hr H fun fr t H => ?_
 obtain ⟨h6, e2, A⟩ := A.pu (.cells none 2 [.str ([] : List UInt8), .str ([] : List UInt8), Ab 0, Ai 0, Ai 0, Ai 0, Ai 0, Ai 0, .str ([] : List UInt8), .str ([] : List UInt8), Ai 0, Ai 0, Ai 0])
 refine JA 1 [(21, .agg [.str ([] : List UInt8), .str ([] : List UInt8), Ab (0 : Int), Ai (0 : Int), Ai (0 : Int), Ai (0 : Int), Ai (0 : Int), Ai (0 : Int), .str ([] : List UInt8), .str ([] : List UInt8), Ai (0 : Int), Ai (0 : Int), Ai x3])] 4 (.ptr (some (h5.size, 0))) e2 H fun fr t H => ?_
 obtain ⟨h7, hx, A⟩ := A.s0 0 [.str ([] : List UInt8), .str ([] : List UInt8), Ab 0, Ai 0, Ai 0, Ai 0, Ai 0, Ai 0, .str ([] : List UInt8), .str ([] : List UInt8), Ai 0, Ai 0, Ai x3] [_, _, _, _, _, _, _, _, _, _, _, _, _]
 refine Ch hx H fun fr t H => ?_
 refine BI id (AP (AG 3 (AV 1 [] 23 0 12 A H fun fr t H => ?_)))
 refine AK 1 [(24, .bool (x3 == 0))] H fun fr H => AZ 24 H hm (fun hb hm H => ?_) fun hb hm H => ?_
 ·refine AG 3 ?_
  obtain ⟨h8, hx, A⟩ := A.s1 0 [.str ([] : List UInt8), .str ([] : List UInt8), Ab 0, Ai 0, Ai 0, Ai 0, Ai 0, Ai 0, .str ([] : List UInt8), .str ([] : List UInt8), Ai 0, Ai 0, Ai 0] [_, _, _, _, _, _, _, _, _, _, _, _, _]
  refine Es 1 [] hx H fun fr t H => ?_
  refine AK 1 [(3, Ai 2)] H fun fr H => AS ?_
  obtain ⟨rfl, rfl⟩ := BD hm
  refine ⟨.inl rfl, .tuple [.agg [.str ([] : List UInt8), .str ([] : List UInt8), Ab 0, Ai 0, Ai 0, Ai 0, Ai 0, Ai 0, .str ([] : List UInt8), .str ([] : List UInt8), Ai 0, Ai 0, Ai 0], Ai 2], CW (.cell (rT H) (CL (by kernel_rfl) (by kernel_rfl) (A.la 1 0 13)) (.tmp (rT H) .nil)), ?_⟩
  replace A := A.d0
  exact ⟨rfl, A⟩
 refine Br 9 id ?_
 obtain ⟨h9, e3⟩ : ∃ x, x = h7.push (.cells (some 3) 2 [Ai 1, Ai 2, Ai 3, Ai 4, Ai 5]) := ⟨_, rfl⟩
 replace A : HH g h9 [.obj h7.size (.cells (some 3) 2 [Ai 1, Ai 2, Ai 3, Ai 4, Ai 5]), _, _] F := (A.push _).to e3
 refine BK 26 (.slice (some (h7.size, 0)) 5) e3 H fun fr t H => ?_
 refine AM 5 [(27, .ptr (some (h5.size, 3))), (28, .ptr (some (h5.size, 4))), (29, .ptr (some (h5.size, 5))), (30, .ptr (some (h5.size, 6))), (31, .ptr (some (h5.size, 7)))] H fun fr H => ?_
 obtain ⟨h10, e4⟩ : ∃ x, x = h9.push (.cells (some 135) 2 [.ptr (some (h5.size, 3)), .ptr (some (h5.size, 4)), .ptr (some (h5.size, 5)), .ptr (some (h5.size, 6)), .ptr (some (h5.size, 7))]) := ⟨_, rfl⟩
 replace A : HH g h10 [.obj h9.size (.cells (some 135) 2 [.ptr (some (h5.size, 3)), .ptr (some (h5.size, 4)), .ptr (some (h5.size, 5)), .ptr (some (h5.size, 6)), .ptr (some (h5.size, 7))]), _, _, _] F := (A.push _).to e4
 refine BK 32 (.slice (some (h9.size, 0)) 5) e4 H fun fr t H => ?_
 refine AK 2 [(5, .slice (some (h7.size, 0)) 5), (6, .slice (some (h9.size, 0)) 5)] H fun fr H => AP (AG 3 (AV 1 [] 34 2 12 A H fun fr t H => ?_))
 refine AK 1 [(35, .bool (x3 != 1))] H fun fr H => AZ 35 H hm (fun hb hm H => ?_) fun hb hm H => ?_
 ·refine AG 10 (AM 1 [(36, .slice (some (h7.size, 0)) 5)] H fun fr H => ?_)
  obtain ⟨h11, e5⟩ : ∃ x, x = h10.push (.cells (some 3) 2 [Ai 9, Ai 10]) := ⟨_, rfl⟩
  replace A : HH g h11 [.obj h10.size (.cells (some 3) 2 [Ai 9, Ai 10]), _, _, _, _] F := (A.push _).to e5
  refine BK 37 (.slice (some (h10.size, 0)) 2) e5 H fun fr t H => ?_
  obtain ⟨i1, h12, hx, A1⟩ := HH.X6 A 2 0 (n := 5) (m := 2) (bytes := 8) rfl rfl rfl rfl (by decide) rfl (by kernel_rfl) rfl rfl
  replace A : HH g h12 [_, _, .obj i1 (.cells (some 3) 2 [Ai 1, Ai 2, Ai 3, Ai 4, Ai 5, Ai 9, Ai 10]), _, _] F := A1
  refine Ae 38 _ _ H (fun fr => .of (IT (s := ⟨some (h7.size, 0), 5⟩) (t := ⟨some (i1, 0), 7⟩) (by kernel_rfl) hx)) fun fr t H => ?_
  refine AM 3 [(39, .slice (some (h9.size, 0)) 5), (40, .ptr (some (h5.size, 10))), (41, .ptr (some (h5.size, 11)))] H fun fr H => ?_
  obtain ⟨h13, e6⟩ : ∃ x, x = h12.push (.cells (some 135) 2 [.ptr (some (h5.size, 10)), .ptr (some (h5.size, 11))]) := ⟨_, rfl⟩
  replace A : HH g h13 [.obj h12.size (.cells (some 135) 2 [.ptr (some (h5.size, 10)), .ptr (some (h5.size, 11))]), _, _, _, _, _] F := (A.push _).to e6
  refine BK 42 (.slice (some (h12.size, 0)) 2) e6 H fun fr t H => ?_
  obtain ⟨i2, h14, hx, A1⟩ := HH.X6 A 2 0 (n := 5) (m := 2) (bytes := 8) rfl rfl rfl rfl (by decide) rfl (by kernel_rfl) rfl rfl
  replace A : HH g h14 [_, _, .obj i2 (.cells (some 135) 2 [.ptr (some (h5.size, 3)), .ptr (some (h5.size, 4)), .ptr (some (h5.size, 5)), .ptr (some (h5.size, 6)), .ptr (some (h5.size, 7)), .ptr (some (h5.size, 10)), .ptr (some (h5.size, 11))]), _, _, _] F := A1
  refine Ae 43 _ _ H (fun fr => .of (IT (s := ⟨some (h9.size, 0), 5⟩) (t := ⟨some (i2, 0), 7⟩) (by kernel_rfl) hx)) fun fr t H => ?_
  refine Bd 2 [(0, .str p0), (2, .ptr (some (h.size, 0))), (4, .ptr (some (h5.size, 0))), (5, .slice (some (i1, 0)) 7), (6, .slice (some (i2, 0)) 7)] H fun fr H => Ep 10 id ?_
  obtain ⟨x4, hx, hm⟩ := bind_some hm
  obtain ⟨v1, h15, hr, rfl, A1⟩ := A7 (av := [.str p0, Ai 7]) hx (A.cut 0)
  replace A := A.DN A1
  refine A6 1 [] 45 hr H fun fr t H => ?_
  obtain ⟨x5, hx, hm⟩ := bind_some hm
  obtain ⟨v1, h16, hr, rfl, A1⟩ := Dk (av := [.str x4]) hx (A.cut 0)
  replace A := A.DN A1
  refine Aw 46 hr H fun fr t H => ?_
  obtain ⟨x6, hx, hm⟩ := bind_some hm
  obtain ⟨v1, h17, hr, rfl, A1⟩ := A7 (av := [.str p0, Ai 8]) hx (A.cut 0)
  replace A := A.DN A1
  refine A6 1 [] 48 hr H fun fr t H => ?_
  obtain ⟨x7, hx, hm⟩ := bind_some hm
  obtain ⟨v1, h18, hr, rfl, A1⟩ := Dk (av := [.str x6]) hx (A.cut 0)
  replace A := A.DN A1
  refine Aw 49 hr H fun fr t H => ?_
  obtain ⟨h19, hx, A⟩ := A.s4 8 [.str x5] [_, _, _, _, _, _, _, _, _, _, _, _, _]
  refine CF 1 [] hx H fun fr t H => ?_
  obtain ⟨h20, hx, A⟩ := A.s4 9 [.str x7] [_, _, _, _, _, _, _, _, _, _, _, _, _]
  refine CF 1 [] hx H fun fr t H => ?_
  refine BI id (AP (AG 5 ?_))
  replace A := A.k6 3 2 4 0 1 5
  obtain ⟨⟨x8, x9⟩, hx, hm⟩ := bind_some hm
  obtain ⟨v1, h21, hr, rfl, A1⟩ := Hy (av := [.str p0, .slice (some (i1, 0)) 7, .slice (some (i2, 0)) 7]) hx (A.cut 3)
  replace A := A.bV A1
  refine A6 3 [] 55 hr H fun fr t H => ?_
  refine Bg 1 [(7, Ai x8)] 2 H fun fr H => AK 2 [(57, .bool (x8 != 0))] H fun fr H => AZ 57 H hm (fun hb hm H => ?_) fun hb hm H => ?_
  ·refine AG 4 ?_
   obtain ⟨h22, hx, A⟩ := A.s5 0 [.str ([] : List UInt8), .str ([] : List UInt8), Ab 0, Ai 0, Ai 0, Ai 0, Ai 0, Ai 0, .str ([] : List UInt8), .str ([] : List UInt8), Ai 0, Ai 0, Ai 0] [_, _, _, _, _, _, _, _, _, _, _, _, _]
   refine Es 2 [(59, Ai x8)] hx H fun fr t H => ?_
   refine AK 1 [(3, Ai x8)] H fun fr H => AS ?_
   obtain ⟨rfl, rfl⟩ := BD hm
   refine ⟨.inl rfl, .tuple [.agg [.str ([] : List UInt8), .str ([] : List UInt8), Ab 0, Ai 0, Ai 0, Ai 0, Ai 0, Ai 0, .str ([] : List UInt8), .str ([] : List UInt8), Ai 0, Ai 0, Ai 0], Ai x8], CW (.cell (rT H) (CL (by kernel_rfl) (by kernel_rfl) (A.la 5 0 13)) (.tmp (rT H) .nil)), ?_⟩
   replace A := A.d0
   exact ⟨rfl, A⟩
  refine Br 10 id ?_
  obtain ⟨x10, hx, hm⟩ := bind_some hm
  obtain ⟨v1, h23, hr, rfl, A1⟩ := A7 (av := [.str p0, Ai 0]) hx (A.cut 0)
  replace A := A.DN A1
  refine A6 1 [] 61 hr H fun fr t H => ?_
  obtain ⟨x11, hx, hm⟩ := bind_some hm
  obtain ⟨v1, h24, hr, rfl, A1⟩ := Dk (av := [.str x10]) hx (A.cut 0)
  replace A := A.DN A1
  refine Aw 62 hr H fun fr t H => ?_
  obtain ⟨x12, hx, hm⟩ := bind_some hm
  obtain ⟨v1, h25, hr, rfl, A1⟩ := A7 (av := [.str p0, Ai 6]) hx (A.cut 0)
  replace A := A.DN A1
  refine A6 1 [] 64 hr H fun fr t H => ?_
  obtain ⟨x13, hx, hm⟩ := bind_some hm
  obtain ⟨v1, h26, hr, rfl, A1⟩ := Dk (av := [.str x12]) hx (A.cut 0)
  replace A := A.DN A1
  refine Aw 65 hr H fun fr t H => ?_
  obtain ⟨h27, hx, A⟩ := A.s2 0 [.str x11] [_, _, _, _, _, _, _, _, _, _, _, _, _]
  refine CF 1 [] hx H fun fr t H => ?_
  obtain ⟨h28, hx, A⟩ := A.s2 1 [.str x13] [_, _, _, _, _, _, _, _, _, _, _, _, _]
  refine CF 1 [] hx H fun fr t H => ?_
  refine BI id (AP ?_)
  obtain ⟨o1, ho, hm⟩ := bind_some hm
  refine BJ (Q' := fun e fr' h' => (∃ x14, e = .normal ∧ x14 = o1 ∧ Has fr' 86 [(0, .str p0), (2, .ptr (some (h.size, 0))), (4, .ptr (some (h5.size, 0)))] ∧ HH g h' [.obj i1 (.cells (some 3) 2 [Ai 1, Ai 2, Ai 3, Ai 4, Ai 5, Ai 9, Ai 10]), .obj i2 (.cells (some 135) 2 [.ptr (some (h5.size, 3)), .ptr (some (h5.size, 4)), .ptr (some (h5.size, 5)), .ptr (some (h5.size, 6)), .ptr (some (h5.size, 7)), .ptr (some (h5.size, 10)), .ptr (some (h5.size, 11))]), .obj h5.size (.cells none 2 (Jh x9 (.str x14) (.str x13))), .obj h12.size (.cells (some 135) 2 [.ptr (some (h5.size, 10)), .ptr (some (h5.size, 11))]), .obj h10.size (.cells (some 3) 2 [Ai 9, Ai 10]), .obj h.size (.cells none 2 [.str ([] : List UInt8), .str ([] : List UInt8), Ab 0, Ai 0, Ai 0, Ai 0, Ai 0, Ai 0, .str ([] : List UInt8), .str ([] : List UInt8), Ai 0, Ai 0, Ai 0])] F) ∨ False) ?_ ?_
  ·replace hm := ho
   clear ho
   refine AG 3 (AV 1 [] 69 2 12 A H fun fr t H => ?_)
   refine AK 1 [(70, .bool (x9.Form == 2))] H fun fr H => AZ 70 H hm (fun hb hm H => ?_) fun hb hm H => ?_
   ·refine RD 17 8 [(0, []), (3, []), (4, []), (1, [4]), (2, [4]), (5, []), (6, []), (7, [])] ?_
    refine AM 2 [(71, .str p0), (74, .ptr (some (h5.size, 0)))] H fun fr H => Gq 75 (.str x11) h28 [(4, h5.size)] (g.Cl) H (fun fr => .of (O0 (by kernel_rfl) (A.l1 2 0))) (fun fr H => ?_)
    have A1 := A.Lk 0 (pr := [h5.size]) (.cons 2 rfl (by simp [Ck.ids]) .nil)
    obtain ⟨x15, hx, hm⟩ := bind_some hm
    obtain ⟨v1, h29, hr, rfl, A1⟩ := A7 (av := [.str p0, Ai 11]) hx A1
    replace A := A.aM A1
    refine Gq 72 (.str x15) h29 [(4, h5.size)] (h5.size :: g.Cl) H (fun fr => Steps.call (by kernel_rfl) hr) (fun fr H => ?_)
    have A1 := A.Lk 0 (pr := [h5.size]) (.cons 2 rfl (by simp [Ck.ids]) .nil)
    obtain ⟨x16, hx, hm⟩ := bind_some hm
    obtain ⟨v1, h30, hr, rfl, A1⟩ := Dk (av := [.str x15]) hx A1
    replace A := A.aM A1
    refine Gq 73 (.str x16) h30 [(4, h5.size)] (h5.size :: g.Cl) H (fun fr => Steps.call (by kernel_rfl) hr) (fun fr H => ?_)
    obtain ⟨x17, hx, hm⟩ := bind_some hm
    obtain ⟨v1, h31, hr, rfl, A1⟩ := LI (av := [.str x16, .str x11]) hx (A.cut 0)
    replace A := A.DN A1
    refine Gq 76 (.str x17) h31 [(4, h5.size)] (g.Cl) H (fun fr => Steps.call (by kernel_rfl) hr) (fun fr H => ?_)
    refine AM 1 [(77, .ptr (some (h5.size, 0)))] H fun fr H => ?_
    obtain ⟨h32, hx, A⟩ := A.s2 0 [.str x17] [_, _, _, _, _, _, _, _, _, _, _, _, _]
    refine Rv (.tuple []) h32 [(4, h5.size)] (g.Cl) H (fun fr => .of (Wq (by kernel_rfl) rfl hx)) (fun fr H => ?_)
    refine at_nil ?_
    exact .inl ⟨_, rfl, An hm, H.ls, A⟩
   exact D5 (.inl ⟨_, rfl, An hm, H.ls, A⟩)
  clear ho
  clear A
  intro e fr h33 hQ
  rcases hQ with ⟨x14, rfl, rfl, H, A⟩ | hF
  ·show AW _ _ _ _ _ _ _
   refine AP ?_
   obtain ⟨o2, ho, hm⟩ := bind_some hm
   refine BJ (Q' := fun e fr' h' => (∃ x18, e = .normal ∧ x18 = o2 ∧ Has fr' 86 [(2, .ptr (some (h.size, 0))), (4, .ptr (some (h5.size, 0)))] ∧ HH g h' [.obj i1 (.cells (some 3) 2 [Ai 1, Ai 2, Ai 3, Ai 4, Ai 5, Ai 9, Ai 10]), .obj i2 (.cells (some 135) 2 [.ptr (some (h5.size, 3)), .ptr (some (h5.size, 4)), .ptr (some (h5.size, 5)), .ptr (some (h5.size, 6)), .ptr (some (h5.size, 7)), .ptr (some (h5.size, 10)), .ptr (some (h5.size, 11))]), .obj h5.size (.cells none 2 [.str x14, .str x13, Ab x18, Ai x9.Mode, Ai x9.BP, Ai x9.BQ, Ai x9.BU, Ai x9.Time, .str x9.AN, .str x9.AO, Ai x9.Aa, Ai x9.Ag, Ai x9.Form]), .obj h12.size (.cells (some 135) 2 [.ptr (some (h5.size, 10)), .ptr (some (h5.size, 11))]), .obj h10.size (.cells (some 3) 2 [Ai 9, Ai 10]), .obj h.size (.cells none 2 [.str ([] : List UInt8), .str ([] : List UInt8), Ab 0, Ai 0, Ai 0, Ai 0, Ai 0, Ai 0, .str ([] : List UInt8), .str ([] : List UInt8), Ai 0, Ai 0, Ai 0])] F) ∨ False) ?_ ?_
   ·replace hm := ho
    clear ho
    refine AG 4 ?_
    obtain ⟨x19, hx, hm⟩ := bind_some hm
    refine BC 1 [] 79 (Ab x19) h33 H (fun fr => .of (EW (by kernel_rfl) hx)) fun fr t H => ?_
    obtain ⟨h34, hx, A⟩ := A.s2 2 [Ab x19] [_, _, _, _, _, _, _, _, _, _, _, _, _]
    refine CF 1 [] hx H fun fr t H => ?_
    refine CJ 3 id (AV 1 [] 82 2 2 A H fun fr t H => ?_)
    refine AK 1 [(83, .bool (x19 == 0))] H fun fr H => AZ 83 H hm (fun hb hm H => ?_) fun hb hm H => ?_
    ·refine CX 2 ?_
     obtain ⟨h35, hx, A⟩ := A.s2 2 [Ab 48] [_, _, _, _, _, _, _, _, _, _, _, _, _]
     refine CF 1 [] hx H fun fr t H => ?_
     refine at_nil ?_
     exact .inl ⟨_, rfl, An hm, H.ls, A⟩
    exact D5 (.inl ⟨_, rfl, An hm, H.ls, A⟩)
   clear ho
   clear A
   intro e fr h36 hQ
   rcases hQ with ⟨x18, rfl, rfl, H, A⟩ | hF
   ·show AW _ _ _ _ _ _ _
    refine AG 3 (Ae 85 _ _ H (fun fr => .of (BM (by kernel_rfl) (A.Eh 2 rfl (o := 0) (n := 13) ⟨Nat.le_of_ble_eq_true rfl, rfl⟩))) fun fr t H => ?_)
    obtain ⟨h37, hx, A⟩ := A.s5 0 [.str x14, .str x13, Ab x18, Ai x9.Mode, Ai x9.BP, Ai x9.BQ, Ai x9.BU, Ai x9.Time, .str x9.AN, .str x9.AO, Ai x9.Aa, Ai x9.Ag, Ai x9.Form] [_, _, _, _, _, _, _, _, _, _, _, _, _]
    refine Ch hx H fun fr t H => ?_
    refine AK 1 [(3, Ai 0)] H fun fr H => AS ?_
    obtain ⟨rfl, rfl⟩ := BD hm
    refine ⟨.inl rfl, .tuple [.agg [.str x14, .str x13, Ab x18, Ai x9.Mode, Ai x9.BP, Ai x9.BQ, Ai x9.BU, Ai x9.Time, .str x9.AN, .str x9.AO, Ai x9.Aa, Ai x9.Ag, Ai x9.Form], Ai 0], CW (.cell (rT H) (CL (by kernel_rfl) (by kernel_rfl) (A.la 5 0 13)) (.tmp (rT H) .nil)), ?_⟩
    replace A := A.d0
    exact ⟨rfl, A⟩
   exact hF.elim
  exact hF.elim
 refine CI id (AP (AG 5 ?_))
 replace A := A.k4 1 0 2 3
 obtain ⟨⟨x20, x21⟩, hx, hm⟩ := bind_some hm
 obtain ⟨v1, h38, hr, rfl, A1⟩ := H5 (av := [.str p0, .slice (some (h7.size, 0)) 5, .slice (some (h9.size, 0)) 5]) hx (A.cut 3)
 replace A := A.bV A1
 refine A6 3 [] 55 hr H fun fr t H => ?_
 refine Bg 1 [(7, Ai x20)] 2 H fun fr H => AK 2 [(57, .bool (x20 != 0))] H fun fr H => AZ 57 H hm (fun hb hm H => ?_) fun hb hm H => ?_
 ·refine AG 4 ?_
  obtain ⟨h39, hx, A⟩ := A.s3 0 [.str ([] : List UInt8), .str ([] : List UInt8), Ab 0, Ai 0, Ai 0, Ai 0, Ai 0, Ai 0, .str ([] : List UInt8), .str ([] : List UInt8), Ai 0, Ai 0, Ai 0] [_, _, _, _, _, _, _, _, _, _, _, _, _]
  refine Es 2 [(59, Ai x20)] hx H fun fr t H => ?_
  refine AK 1 [(3, Ai x20)] H fun fr H => AS ?_
  obtain ⟨rfl, rfl⟩ := BD hm
  refine ⟨.inl rfl, .tuple [.agg [.str ([] : List UInt8), .str ([] : List UInt8), Ab 0, Ai 0, Ai 0, Ai 0, Ai 0, Ai 0, .str ([] : List UInt8), .str ([] : List UInt8), Ai 0, Ai 0, Ai 0], Ai x20], CW (.cell (rT H) (CL (by kernel_rfl) (by kernel_rfl) (A.la 3 0 13)) (.tmp (rT H) .nil)), ?_⟩
  replace A := A.d0
  exact ⟨rfl, A⟩
 refine Br 10 id ?_
 obtain ⟨x22, hx, hm⟩ := bind_some hm
 obtain ⟨v1, h40, hr, rfl, A1⟩ := A7 (av := [.str p0, Ai 0]) hx (A.cut 0)
 replace A := A.DN A1
 refine A6 1 [] 61 hr H fun fr t H => ?_
 obtain ⟨x23, hx, hm⟩ := bind_some hm
 obtain ⟨v1, h41, hr, rfl, A1⟩ := Dk (av := [.str x22]) hx (A.cut 0)
 replace A := A.DN A1
 refine Aw 62 hr H fun fr t H => ?_
 obtain ⟨x24, hx, hm⟩ := bind_some hm
 obtain ⟨v1, h42, hr, rfl, A1⟩ := A7 (av := [.str p0, Ai 6]) hx (A.cut 0)
 replace A := A.DN A1
 refine A6 1 [] 64 hr H fun fr t H => ?_
 obtain ⟨x25, hx, hm⟩ := bind_some hm
 obtain ⟨v1, h43, hr, rfl, A1⟩ := Dk (av := [.str x24]) hx (A.cut 0)
 replace A := A.DN A1
 refine Aw 65 hr H fun fr t H => ?_
 obtain ⟨h44, hx, A⟩ := A.s2 0 [.str x23] [_, _, _, _, _, _, _, _, _, _, _, _, _]
 refine CF 1 [] hx H fun fr t H => ?_
 obtain ⟨h45, hx, A⟩ := A.s2 1 [.str x25] [_, _, _, _, _, _, _, _, _, _, _, _, _]
 refine CF 1 [] hx H fun fr t H => ?_
 refine BI id (AP ?_)
 obtain ⟨o3, ho, hm⟩ := bind_some hm
 refine BJ (Q' := fun e fr' h' => (∃ x26, e = .normal ∧ x26 = o3 ∧ Has fr' 86 [(0, .str p0), (2, .ptr (some (h.size, 0))), (4, .ptr (some (h5.size, 0)))] ∧ HH g h' [.obj h7.size (.cells (some 3) 2 [Ai 1, Ai 2, Ai 3, Ai 4, Ai 5]), .obj h9.size (.cells (some 135) 2 [.ptr (some (h5.size, 3)), .ptr (some (h5.size, 4)), .ptr (some (h5.size, 5)), .ptr (some (h5.size, 6)), .ptr (some (h5.size, 7))]), .obj h5.size (.cells none 2 (Jh x21 (.str x26) (.str x25))), .obj h.size (.cells none 2 [.str ([] : List UInt8), .str ([] : List UInt8), Ab 0, Ai 0, Ai 0, Ai 0, Ai 0, Ai 0, .str ([] : List UInt8), .str ([] : List UInt8), Ai 0, Ai 0, Ai 0])] F) ∨ False) ?_ ?_
 ·replace hm := ho
  clear ho
  refine AG 3 (AV 1 [] 69 2 12 A H fun fr t H => ?_)
  refine AK 1 [(70, .bool (x21.Form == 2))] H fun fr H => AZ 70 H hm (fun hb hm H => ?_) fun hb hm H => ?_
  ·refine RD 17 8 [(0, []), (3, []), (4, []), (1, [4]), (2, [4]), (5, []), (6, []), (7, [])] ?_
   refine AM 2 [(71, .str p0), (74, .ptr (some (h5.size, 0)))] H fun fr H => Gq 75 (.str x23) h45 [(4, h5.size)] (g.Cl) H (fun fr => .of (O0 (by kernel_rfl) (A.l1 2 0))) (fun fr H => ?_)
   have A1 := A.Lk 0 (pr := [h5.size]) (.cons 2 rfl (by simp [Ck.ids]) .nil)
   obtain ⟨x27, hx, hm⟩ := bind_some hm
   obtain ⟨v1, h46, hr, rfl, A1⟩ := A7 (av := [.str p0, Ai 11]) hx A1
   replace A := A.aM A1
   refine Gq 72 (.str x27) h46 [(4, h5.size)] (h5.size :: g.Cl) H (fun fr => Steps.call (by kernel_rfl) hr) (fun fr H => ?_)
   have A1 := A.Lk 0 (pr := [h5.size]) (.cons 2 rfl (by simp [Ck.ids]) .nil)
   obtain ⟨x28, hx, hm⟩ := bind_some hm
   obtain ⟨v1, h47, hr, rfl, A1⟩ := Dk (av := [.str x27]) hx A1
   replace A := A.aM A1
   refine Gq 73 (.str x28) h47 [(4, h5.size)] (h5.size :: g.Cl) H (fun fr => Steps.call (by kernel_rfl) hr) (fun fr H => ?_)
   obtain ⟨x29, hx, hm⟩ := bind_some hm
   obtain ⟨v1, h48, hr, rfl, A1⟩ := LI (av := [.str x28, .str x23]) hx (A.cut 0)
   replace A := A.DN A1
   refine Gq 76 (.str x29) h48 [(4, h5.size)] (g.Cl) H (fun fr => Steps.call (by kernel_rfl) hr) (fun fr H => ?_)
   refine AM 1 [(77, .ptr (some (h5.size, 0)))] H fun fr H => ?_
   obtain ⟨h49, hx, A⟩ := A.s2 0 [.str x29] [_, _, _, _, _, _, _, _, _, _, _, _, _]
   refine Rv (.tuple []) h49 [(4, h5.size)] (g.Cl) H (fun fr => .of (Wq (by kernel_rfl) rfl hx)) (fun fr H => ?_)
   refine at_nil ?_
   exact .inl ⟨_, rfl, An hm, H.ls, A⟩
  exact D5 (.inl ⟨_, rfl, An hm, H.ls, A⟩)
 clear ho
 clear A
 intro e fr h50 hQ
 rcases hQ with ⟨x26, rfl, rfl, H, A⟩ | hF
 ·show AW _ _ _ _ _ _ _
  refine AP ?_
  obtain ⟨o4, ho, hm⟩ := bind_some hm
  refine BJ (Q' := fun e fr' h' => (∃ x30, e = .normal ∧ x30 = o4 ∧ Has fr' 86 [(2, .ptr (some (h.size, 0))), (4, .ptr (some (h5.size, 0)))] ∧ HH g h' [.obj h7.size (.cells (some 3) 2 [Ai 1, Ai 2, Ai 3, Ai 4, Ai 5]), .obj h9.size (.cells (some 135) 2 [.ptr (some (h5.size, 3)), .ptr (some (h5.size, 4)), .ptr (some (h5.size, 5)), .ptr (some (h5.size, 6)), .ptr (some (h5.size, 7))]), .obj h5.size (.cells none 2 [.str x26, .str x25, Ab x30, Ai x21.Mode, Ai x21.BP, Ai x21.BQ, Ai x21.BU, Ai x21.Time, .str x21.AN, .str x21.AO, Ai x21.Aa, Ai x21.Ag, Ai x21.Form]), .obj h.size (.cells none 2 [.str ([] : List UInt8), .str ([] : List UInt8), Ab 0, Ai 0, Ai 0, Ai 0, Ai 0, Ai 0, .str ([] : List UInt8), .str ([] : List UInt8), Ai 0, Ai 0, Ai 0])] F) ∨ False) ?_ ?_
  ·replace hm := ho
   clear ho
   refine AG 4 ?_
   obtain ⟨x31, hx, hm⟩ := bind_some hm
   refine BC 1 [] 79 (Ab x31) h50 H (fun fr => .of (EW (by kernel_rfl) hx)) fun fr t H => ?_
   obtain ⟨h51, hx, A⟩ := A.s2 2 [Ab x31] [_, _, _, _, _, _, _, _, _, _, _, _, _]
   refine CF 1 [] hx H fun fr t H => ?_
   refine CJ 3 id (AV 1 [] 82 2 2 A H fun fr t H => ?_)
   refine AK 1 [(83, .bool (x31 == 0))] H fun fr H => AZ 83 H hm (fun hb hm H => ?_) fun hb hm H => ?_
   ·refine CX 2 ?_
    obtain ⟨h52, hx, A⟩ := A.s2 2 [Ab 48] [_, _, _, _, _, _, _, _, _, _, _, _, _]
    refine CF 1 [] hx H fun fr t H => ?_
    refine at_nil ?_
    exact .inl ⟨_, rfl, An hm, H.ls, A⟩
   exact D5 (.inl ⟨_, rfl, An hm, H.ls, A⟩)
  clear ho
  clear A
  intro e fr h53 hQ
  rcases hQ with ⟨x30, rfl, rfl, H, A⟩ | hF
  ·show AW _ _ _ _ _ _ _
   refine AG 3 (Ae 85 _ _ H (fun fr => .of (BM (by kernel_rfl) (A.Eh 2 rfl (o := 0) (n := 13) ⟨Nat.le_of_ble_eq_true rfl, rfl⟩))) fun fr t H => ?_)
   obtain ⟨h54, hx, A⟩ := A.s3 0 [.str x26, .str x25, Ab x30, Ai x21.Mode, Ai x21.BP, Ai x21.BQ, Ai x21.BU, Ai x21.Time, .str x21.AN, .str x21.AO, Ai x21.Aa, Ai x21.Ag, Ai x21.Form] [_, _, _, _, _, _, _, _, _, _, _, _, _]
   refine Ch hx H fun fr t H => ?_
   refine AK 1 [(3, Ai 0)] H fun fr H => AS ?_
   obtain ⟨rfl, rfl⟩ := BD hm
   refine ⟨.inl rfl, .tuple [.agg [.str x26, .str x25, Ab x30, Ai x21.Mode, Ai x21.BP, Ai x21.BQ, Ai x21.BU, Ai x21.Time, .str x21.AN, .str x21.AO, Ai x21.Aa, Ai x21.Ag, Ai x21.Form], Ai 0], CW (.cell (rT H) (CL (by kernel_rfl) (by kernel_rfl) (A.la 3 0 13)) (.tmp (rT H) .nil)), ?_⟩
   replace A := A.d0
   exact ⟨rfl, A⟩
  exact hF.elim
 exact hF.elim
def BS (p0 : List UInt8) (s : Int × Int) : Option ((Int × Int) ⊕ ((Int) ⊕ (Int))) :=
 match s with
 | (x1, x2) => Ad (decide (x2 < (p0.length : Int))) ((LN p0 x2).bind fun x5 => (Ad (decide (x5 < 48)) (some true) ((LN p0 x2).bind fun x7 => some (decide (x7 > 57))) : Option (Bool)).bind fun x6 => Ad x6 (some (.inr (.inr (2 : Int)))) ((LN p0 x2).bind fun x8 => some (.inl (IntKind.i64.wrap ((IntKind.i64.wrap ((10 : Int) * x1)) + (IntKind.i64.wrap (IntKind.u8.wrap (x8 - 48)))), IntKind.i64.wrap (x2 + 1))))) (some (.inr (.inl x1)))
def C8 (p0 : List UInt8) (p1_0 : AL) : Option (Int × AL) :=
 Ad (((p0.length : Int) == 0) || (decide ((p0.length : Int) > 16))) (some ((2 : Int), p1_0)) ((loop (BS p0) ((0 : Int), (0 : Int))).bind fun o1 => (match o1 with | .inl x3 => Ad (decide (x3 > 9007199254740991)) (some ((6 : Int), p1_0)) (some ((0 : Int), (⟨p1_0.Name, p1_0.AU, p1_0.Kind, p1_0.Mode, p1_0.BP, x3, p1_0.AN, p1_0.AO, p1_0.Aa, p1_0.Ag, p1_0.Time, p1_0.Extra, p1_0.Data⟩ : AL))) | .inr x4 => some (x4, p1_0)))
theorem IC {p0 p1_0 bp1_0 rp1_0_12 q0 u0} (hm : C8 p0 p1_0 = some (q0, u0)) (A : HH g h [.obj bp1_0 (.cells none 2 (Ar p1_0 (Af rp1_0_12 p1_0.Extra.length))), .Ak rp1_0_12 117 (Ak AE p1_0.Extra)] F) (hc : BG (cfg.still 194) av = [.str p0, .AR [.ptr (some (bp1_0, 5))]] := by kernel_rfl) : ∃ v h', BH cfg g h 194 av v h' ∧ v = Ai q0 ∧ HH g h' [.obj bp1_0 (.cells none 2 (Ar u0 (Af rp1_0_12 p1_0.Extra.length))), .Ak rp1_0_12 117 (Ak AE p1_0.Extra)] F := by
 refine ES 43 [.tmp 3] hc ?_
 clear hc
 unfold C8 at hm
 refine bg 43 [(0, .str p0), (1, .AR [.ptr (some (bp1_0, 5))])] fun fr H => ?_
 refine AG 1 (AK 1 [] H fun fr H => AP (AG 8 (AM 4 [(9, .bool ((p0.length : Int) == 0))] H fun fr H => A5 4 (fun fr' h' => h = h' ∧ Has fr' 43 [(0, .str p0), (1, .AR [.ptr (some (bp1_0, 5))]), (13, .bool (((p0.length : Int) == 0) || (decide ((p0.length : Int) > 16))))]) ?_ ?_)))
 ·cases hb : ((p0.length : Int) == 0 : Bool) with
  | true =>
   replace H := H.kn 9 hb
   exact AM 4 [(13, .bool true)] H fun fr H => Ao H hb
  | false =>
   replace H := H.kn 9 hb
   exact AM 4 [(13, .bool (decide ((p0.length : Int) > 16)))] H fun fr H => Ao H hb
 intro t fr h' hK
 obtain ⟨e, H⟩ := hK
 subst e
 refine BI id (AZ 13 H hm (fun hb hm H => ?_) fun hb hm H => ?_)
 ·refine AG 1 (AK 1 [(3, Ai 2)] H fun fr H => AS ?_)
  obtain ⟨rfl, rfl⟩ := BD hm
  exact ⟨.inl rfl, _, rH H, rfl, A⟩
 refine Br 1 id (AK 1 [(4, Ai 0)] H fun fr H => AP (AG 3 (AK 3 [(15, Ai (p0.length : Int)), (16, Ai 0)] H fun fr H => AY (id := 0) (by kernel_rfl) ?_)))
 obtain ⟨o1, ho, hm⟩ := bind_some hm
 refine BJ (Q' := fun e fr' h' => (∃ x3, e = .exit 0 ∧ .inl x3 = o1 ∧ Has fr' 43 [(1, .AR [.ptr (some (bp1_0, 5))]), (4, Ai x3)] ∧ HH g h' [.obj bp1_0 (.cells none 2 (Ar p1_0 (Af rp1_0_12 p1_0.Extra.length))), .Ak rp1_0_12 117 (Ak AE p1_0.Extra)] F) ∨ (∃ x4, e = .ret ∧ .inr x4 = o1 ∧ Has fr' 43 [(3, Ai x4)] ∧ HH g h' [.obj bp1_0 (.cells none 2 (Ar p1_0 (Af rp1_0_12 p1_0.Extra.length))), .Ak rp1_0_12 117 (Ak AE p1_0.Extra)] F) ∨ False) ?_ ?_
 ·refine Ce (by kernel_rfl) (fun (s : Int × Int) fr' h' => ∃ x1 x2, (x1, x2) = s ∧ Has fr' 43 [(0, .str p0), (1, .AR [.ptr (some (bp1_0, 5))]), (4, Ai x1), (15, Ai (p0.length : Int)), (16, Ai x2)] ∧ HH g h' [.obj bp1_0 (.cells none 2 (Ar p1_0 (Af rp1_0_12 p1_0.Extra.length))), .Ak rp1_0_12 117 (Ak AE p1_0.Extra)] F) ho ⟨_, _, rfl, H.ls, A⟩ ?_
  clear ho hm H A
  intro s q fr h1 hI hm
  obtain ⟨x1, x2, rfl, H, A⟩ := hI
  unfold BS at hm
  refine AG 1 (AK 1 [(17, .bool (decide (x2 < (p0.length : Int))))] H fun fr H => AP (AZ 17 H hm (fun hb hm H => ?_) fun hb hm H => ?_))
  ·refine CI id (AP (AY (id := 1) (by kernel_rfl) ?_))
   refine AG 2 (AK 2 [(5, Ai x2)] H fun fr H => AP (AG 10 ?_))
   obtain ⟨x5, hx, hm⟩ := bind_some hm
   refine BC 2 [] 21 (Ab x5) h1 H (fun fr => .of (EW (by kernel_rfl) hx)) fun fr t H => ?_
   refine AM 2 [(23, .bool (decide (x5 < 48)))] H fun fr H => ?_
   obtain ⟨x6, ho, hm⟩ := bind_some hm
   refine A5 5 (fun fr' h' => Has fr' 43 [(0, .str p0), (1, .AR [.ptr (some (bp1_0, 5))]), (4, Ai x1), (5, Ai x2), (15, Ai (p0.length : Int)), (16, Ai x2), (28, .bool x6)] ∧ HH g h' [.obj bp1_0 (.cells none 2 (Ar p1_0 (Af rp1_0_12 p1_0.Extra.length))), .Ak rp1_0_12 117 (Ak AE p1_0.Extra)] F) ?_ ?_
   ·rcases Ax ho with ⟨hb, hm⟩ | ⟨hb, hm⟩
    ·replace H := H.kn 23 hb
     refine AM 5 [(28, .bool true)] H fun fr H => ?_
     obtain rfl := An hm
     exact at_nil ⟨H.ls, A⟩
    replace H := H.kn 23 hb
    obtain ⟨x7, hx, hm⟩ := bind_some hm
    refine BC 2 [] 26 (Ab x7) h1 H (fun fr => .of (EW (by kernel_rfl) hx)) fun fr t H => ?_
    refine AM 2 [(28, .bool (decide (x7 > 57)))] H fun fr H => ?_
    obtain rfl := An hm
    exact at_nil ⟨H.ls, A⟩
   clear A
   intro t fr h2 hK
   obtain ⟨H, A⟩ := hK
   refine BI id (AZ 28 H hm (fun hb hm H => ?_) fun hb hm H => ?_)
   ·refine AG 1 (AK 1 [(3, Ai 2)] H fun fr H => AS ?_)
    exact nr hm fun e => Or.inr (.inl ⟨_, rfl, e, H.ls, A⟩)
   refine DI 9 id ?_
   obtain ⟨x8, hx, hm⟩ := bind_some hm
   refine BC 4 [(30, Ai (IntKind.i64.wrap ((10 : Int) * x1)))] 33 (Ab x8) h2 H (fun fr => .of (EW (by kernel_rfl) hx)) fun fr t H => ?_
   refine Bd 4 [(0, .str p0), (1, .AR [.ptr (some (bp1_0, 5))]), (4, Ai (IntKind.i64.wrap ((IntKind.i64.wrap ((10 : Int) * x1)) + (IntKind.i64.wrap (IntKind.u8.wrap (x8 - 48)))))), (15, Ai (p0.length : Int)), (16, Ai x2)] H fun fr H => Ep 2 id (Bd 2 [(0, .str p0), (1, .AR [.ptr (some (bp1_0, 5))]), (4, Ai (IntKind.i64.wrap ((IntKind.i64.wrap ((10 : Int) * x1)) + (IntKind.i64.wrap (IntKind.u8.wrap (x8 - 48)))))), (15, Ai (p0.length : Int)), (16, Ai (IntKind.i64.wrap (x2 + 1)))] H fun fr H => at_nil ?_)
   exact nx hm ⟨_, _, rfl, H.ls, A⟩
  refine Bf (i := 0) (by kernel_rfl) ?_
  exact nr hm fun e => .inl ⟨_, rfl, e, H.ls, A⟩
 clear ho
 clear A
 intro e fr h3 hQ
 rcases hQ with ⟨x3, rfl, rfl, H, A⟩ | ⟨x4, rfl, rfl, H, A⟩ | hF
 ·show AW _ _ _ _ _ _ _
  refine AP (AG 2 (AK 2 [(39, .bool (decide (x3 > 9007199254740991)))] H fun fr H => AZ 39 H hm (fun hb hm H => ?_) fun hb hm H => ?_))
  ·refine AG 1 (AK 1 [(3, Ai 6)] H fun fr H => AS ?_)
   obtain ⟨rfl, rfl⟩ := BD hm
   exact ⟨.inl rfl, _, rH H, rfl, A⟩
  refine Br 4 id (Ae 40 (.ptr (some (bp1_0, 5))) h3 H (fun fr => .of (Kz (by kernel_rfl))) fun fr t H => ?_)
  obtain ⟨h4, hx, A⟩ := A.s0 5 [Ai x3] [_, _, _, _, _, _, _, _, _, _, _, _, _, _]
  refine CF 2 [] hx H fun fr t H => ?_
  refine CJ 1 id (AK 1 [(3, Ai 0)] H fun fr H => AS ?_)
  obtain ⟨rfl, rfl⟩ := BD hm
  exact ⟨.inl rfl, _, rH H, rfl, A⟩
 ·obtain ⟨rfl, rfl⟩ := BD hm
  exact ⟨.inl rfl, _, rH H, rfl, A⟩
 exact hF.elim
def Ed (p0 : List UInt8) (s : Int × Int) : Option ((Int × Int) ⊕ ((Int) ⊕ (Int))) :=
 match s with
 | (x1, x2) => Ad (decide (x2 < (p0.length : Int))) ((LN p0 x2).bind fun x5 => (Ad (decide (x5 < 48)) (some true) ((LN p0 x2).bind fun x7 => some (decide (x7 > 57))) : Option (Bool)).bind fun x6 => Ad x6 (some (.inr (.inr (2 : Int)))) ((LN p0 x2).bind fun x8 => some (.inl (IntKind.i64.wrap ((IntKind.i64.wrap ((10 : Int) * x1)) + (IntKind.i64.wrap (IntKind.u8.wrap (x8 - 48)))), IntKind.i64.wrap (x2 + 1))))) (some (.inr (.inl x1)))
def C7 (p0 : List UInt8) (p1_0 : AL) : Option (Int × AL) :=
 Ad (((p0.length : Int) == 0) || (decide ((p0.length : Int) > 16))) (some ((2 : Int), p1_0)) ((loop (Ed p0) ((0 : Int), (0 : Int))).bind fun o1 => (match o1 with | .inl x3 => Ad (decide (x3 > 9007199254740991)) (some ((6 : Int), p1_0)) (some ((0 : Int), (⟨p1_0.Name, p1_0.AU, p1_0.Kind, p1_0.Mode, x3, p1_0.BQ, p1_0.AN, p1_0.AO, p1_0.Aa, p1_0.Ag, p1_0.Time, p1_0.Extra, p1_0.Data⟩ : AL))) | .inr x4 => some (x4, p1_0)))
theorem H0 {p0 p1_0 bp1_0 rp1_0_12 q0 u0} (hm : C7 p0 p1_0 = some (q0, u0)) (A : HH g h [.obj bp1_0 (.cells none 2 (Ar p1_0 (Af rp1_0_12 p1_0.Extra.length))), .Ak rp1_0_12 117 (Ak AE p1_0.Extra)] F) (hc : BG (cfg.still 194) av = [.str p0, .AR [.ptr (some (bp1_0, 4))]] := by kernel_rfl) : ∃ v h', BH cfg g h 194 av v h' ∧ v = Ai q0 ∧ HH g h' [.obj bp1_0 (.cells none 2 (Ar u0 (Af rp1_0_12 p1_0.Extra.length))), .Ak rp1_0_12 117 (Ak AE p1_0.Extra)] F := by
 refine ES 43 [.tmp 3] hc ?_
 clear hc
 unfold C7 at hm
 refine bg 43 [(0, .str p0), (1, .AR [.ptr (some (bp1_0, 4))])] fun fr H => ?_
 refine AG 1 (AK 1 [] H fun fr H => AP (AG 8 (AM 4 [(9, .bool ((p0.length : Int) == 0))] H fun fr H => A5 4 (fun fr' h' => h = h' ∧ Has fr' 43 [(0, .str p0), (1, .AR [.ptr (some (bp1_0, 4))]), (13, .bool (((p0.length : Int) == 0) || (decide ((p0.length : Int) > 16))))]) ?_ ?_)))
 ·cases hb : ((p0.length : Int) == 0 : Bool) with
  | true =>
   replace H := H.kn 9 hb
   exact AM 4 [(13, .bool true)] H fun fr H => Ao H hb
  | false =>
   replace H := H.kn 9 hb
   exact AM 4 [(13, .bool (decide ((p0.length : Int) > 16)))] H fun fr H => Ao H hb
 intro t fr h' hK
 obtain ⟨e, H⟩ := hK
 subst e
 refine BI id (AZ 13 H hm (fun hb hm H => ?_) fun hb hm H => ?_)
 ·refine AG 1 (AK 1 [(3, Ai 2)] H fun fr H => AS ?_)
  obtain ⟨rfl, rfl⟩ := BD hm
  exact ⟨.inl rfl, _, rH H, rfl, A⟩
 refine Br 1 id (AK 1 [(4, Ai 0)] H fun fr H => AP (AG 3 (AK 3 [(15, Ai (p0.length : Int)), (16, Ai 0)] H fun fr H => AY (id := 0) (by kernel_rfl) ?_)))
 obtain ⟨o1, ho, hm⟩ := bind_some hm
 refine BJ (Q' := fun e fr' h' => (∃ x3, e = .exit 0 ∧ .inl x3 = o1 ∧ Has fr' 43 [(1, .AR [.ptr (some (bp1_0, 4))]), (4, Ai x3)] ∧ HH g h' [.obj bp1_0 (.cells none 2 (Ar p1_0 (Af rp1_0_12 p1_0.Extra.length))), .Ak rp1_0_12 117 (Ak AE p1_0.Extra)] F) ∨ (∃ x4, e = .ret ∧ .inr x4 = o1 ∧ Has fr' 43 [(3, Ai x4)] ∧ HH g h' [.obj bp1_0 (.cells none 2 (Ar p1_0 (Af rp1_0_12 p1_0.Extra.length))), .Ak rp1_0_12 117 (Ak AE p1_0.Extra)] F) ∨ False) ?_ ?_
 ·refine Ce (by kernel_rfl) (fun (s : Int × Int) fr' h' => ∃ x1 x2, (x1, x2) = s ∧ Has fr' 43 [(0, .str p0), (1, .AR [.ptr (some (bp1_0, 4))]), (4, Ai x1), (15, Ai (p0.length : Int)), (16, Ai x2)] ∧ HH g h' [.obj bp1_0 (.cells none 2 (Ar p1_0 (Af rp1_0_12 p1_0.Extra.length))), .Ak rp1_0_12 117 (Ak AE p1_0.Extra)] F) ho ⟨_, _, rfl, H.ls, A⟩ ?_
  clear ho hm H A
  intro s q fr h1 hI hm
  obtain ⟨x1, x2, rfl, H, A⟩ := hI
  unfold Ed at hm
  refine AG 1 (AK 1 [(17, .bool (decide (x2 < (p0.length : Int))))] H fun fr H => AP (AZ 17 H hm (fun hb hm H => ?_) fun hb hm H => ?_))
  ·refine CI id (AP (AY (id := 1) (by kernel_rfl) ?_))
   refine AG 2 (AK 2 [(5, Ai x2)] H fun fr H => AP (AG 10 ?_))
   obtain ⟨x5, hx, hm⟩ := bind_some hm
   refine BC 2 [] 21 (Ab x5) h1 H (fun fr => .of (EW (by kernel_rfl) hx)) fun fr t H => ?_
   refine AM 2 [(23, .bool (decide (x5 < 48)))] H fun fr H => ?_
   obtain ⟨x6, ho, hm⟩ := bind_some hm
   refine A5 5 (fun fr' h' => Has fr' 43 [(0, .str p0), (1, .AR [.ptr (some (bp1_0, 4))]), (4, Ai x1), (5, Ai x2), (15, Ai (p0.length : Int)), (16, Ai x2), (28, .bool x6)] ∧ HH g h' [.obj bp1_0 (.cells none 2 (Ar p1_0 (Af rp1_0_12 p1_0.Extra.length))), .Ak rp1_0_12 117 (Ak AE p1_0.Extra)] F) ?_ ?_
   ·rcases Ax ho with ⟨hb, hm⟩ | ⟨hb, hm⟩
    ·replace H := H.kn 23 hb
     refine AM 5 [(28, .bool true)] H fun fr H => ?_
     obtain rfl := An hm
     exact at_nil ⟨H.ls, A⟩
    replace H := H.kn 23 hb
    obtain ⟨x7, hx, hm⟩ := bind_some hm
    refine BC 2 [] 26 (Ab x7) h1 H (fun fr => .of (EW (by kernel_rfl) hx)) fun fr t H => ?_
    refine AM 2 [(28, .bool (decide (x7 > 57)))] H fun fr H => ?_
    obtain rfl := An hm
    exact at_nil ⟨H.ls, A⟩
   clear A
   intro t fr h2 hK
   obtain ⟨H, A⟩ := hK
   refine BI id (AZ 28 H hm (fun hb hm H => ?_) fun hb hm H => ?_)
   ·refine AG 1 (AK 1 [(3, Ai 2)] H fun fr H => AS ?_)
    exact nr hm fun e => Or.inr (.inl ⟨_, rfl, e, H.ls, A⟩)
   refine DI 9 id ?_
   obtain ⟨x8, hx, hm⟩ := bind_some hm
   refine BC 4 [(30, Ai (IntKind.i64.wrap ((10 : Int) * x1)))] 33 (Ab x8) h2 H (fun fr => .of (EW (by kernel_rfl) hx)) fun fr t H => ?_
   refine Bd 4 [(0, .str p0), (1, .AR [.ptr (some (bp1_0, 4))]), (4, Ai (IntKind.i64.wrap ((IntKind.i64.wrap ((10 : Int) * x1)) + (IntKind.i64.wrap (IntKind.u8.wrap (x8 - 48)))))), (15, Ai (p0.length : Int)), (16, Ai x2)] H fun fr H => Ep 2 id (Bd 2 [(0, .str p0), (1, .AR [.ptr (some (bp1_0, 4))]), (4, Ai (IntKind.i64.wrap ((IntKind.i64.wrap ((10 : Int) * x1)) + (IntKind.i64.wrap (IntKind.u8.wrap (x8 - 48)))))), (15, Ai (p0.length : Int)), (16, Ai (IntKind.i64.wrap (x2 + 1)))] H fun fr H => at_nil ?_)
   exact nx hm ⟨_, _, rfl, H.ls, A⟩
  refine Bf (i := 0) (by kernel_rfl) ?_
  exact nr hm fun e => .inl ⟨_, rfl, e, H.ls, A⟩
 clear ho
 clear A
 intro e fr h3 hQ
 rcases hQ with ⟨x3, rfl, rfl, H, A⟩ | ⟨x4, rfl, rfl, H, A⟩ | hF
 ·show AW _ _ _ _ _ _ _
  refine AP (AG 2 (AK 2 [(39, .bool (decide (x3 > 9007199254740991)))] H fun fr H => AZ 39 H hm (fun hb hm H => ?_) fun hb hm H => ?_))
  ·refine AG 1 (AK 1 [(3, Ai 6)] H fun fr H => AS ?_)
   obtain ⟨rfl, rfl⟩ := BD hm
   exact ⟨.inl rfl, _, rH H, rfl, A⟩
  refine Br 4 id (Ae 40 (.ptr (some (bp1_0, 4))) h3 H (fun fr => .of (Kz (by kernel_rfl))) fun fr t H => ?_)
  obtain ⟨h4, hx, A⟩ := A.s0 4 [Ai x3] [_, _, _, _, _, _, _, _, _, _, _, _, _, _]
  refine CF 2 [] hx H fun fr t H => ?_
  refine CJ 1 id (AK 1 [(3, Ai 0)] H fun fr H => AS ?_)
  obtain ⟨rfl, rfl⟩ := BD hm
  exact ⟨.inl rfl, _, rH H, rfl, A⟩
 ·obtain ⟨rfl, rfl⟩ := BD hm
  exact ⟨.inl rfl, _, rH H, rfl, A⟩
 exact hF.elim
def E4 (p0 : List UInt8) (s : Int × Int) : Option ((Int × Int) ⊕ ((Int) ⊕ (Int))) :=
 match s with
 | (x1, x2) => Ad (decide (x2 < (p0.length : Int))) ((LN p0 x2).bind fun x5 => (Ad (decide (x5 < 48)) (some true) ((LN p0 x2).bind fun x7 => some (decide (x7 > 57))) : Option (Bool)).bind fun x6 => Ad x6 (some (.inr (.inr (2 : Int)))) ((LN p0 x2).bind fun x8 => some (.inl (IntKind.i64.wrap ((IntKind.i64.wrap ((10 : Int) * x1)) + (IntKind.i64.wrap (IntKind.u8.wrap (x8 - 48)))), IntKind.i64.wrap (x2 + 1))))) (some (.inr (.inl x1)))
def Dc (p0 : List UInt8) (p1_0 : Int) : Option (Int × Int) :=
 Ad (((p0.length : Int) == 0) || (decide ((p0.length : Int) > 16))) (some ((2 : Int), p1_0)) ((loop (E4 p0) ((0 : Int), (0 : Int))).bind fun o1 => (match o1 with | .inl x3 => Ad (decide (x3 > 9007199254740991)) (some ((6 : Int), p1_0)) (some ((0 : Int), x3)) | .inr x4 => some (x4, p1_0)))
theorem I8 {p0 p1_0 bp1_0 q0 u0} (hm : Dc p0 p1_0 = some (q0, u0)) (A : HH g h [.obj bp1_0 (.cells none 2 [Ai p1_0])] F) (hc : BG (cfg.still 194) av = [.str p0, .AR [.ptr (some (bp1_0, 0))]] := by kernel_rfl) : ∃ v h', BH cfg g h 194 av v h' ∧ v = Ai q0 ∧ HH g h' [.obj bp1_0 (.cells none 2 [Ai u0])] F := by
 refine ES 43 [.tmp 3] hc ?_
 clear hc
 unfold Dc at hm
 refine bg 43 [(0, .str p0), (1, .AR [.ptr (some (bp1_0, 0))])] fun fr H => ?_
 refine AG 1 (AK 1 [] H fun fr H => AP (AG 8 (AM 4 [(9, .bool ((p0.length : Int) == 0))] H fun fr H => A5 4 (fun fr' h' => h = h' ∧ Has fr' 43 [(0, .str p0), (1, .AR [.ptr (some (bp1_0, 0))]), (13, .bool (((p0.length : Int) == 0) || (decide ((p0.length : Int) > 16))))]) ?_ ?_)))
 ·cases hb : ((p0.length : Int) == 0 : Bool) with
  | true =>
   replace H := H.kn 9 hb
   exact AM 4 [(13, .bool true)] H fun fr H => Ao H hb
  | false =>
   replace H := H.kn 9 hb
   exact AM 4 [(13, .bool (decide ((p0.length : Int) > 16)))] H fun fr H => Ao H hb
 intro t fr h' hK
 obtain ⟨e, H⟩ := hK
 subst e
 refine BI id (AZ 13 H hm (fun hb hm H => ?_) fun hb hm H => ?_)
 ·refine AG 1 (AK 1 [(3, Ai 2)] H fun fr H => AS ?_)
  obtain ⟨rfl, rfl⟩ := BD hm
  exact ⟨.inl rfl, _, rH H, rfl, A⟩
 refine Br 1 id (AK 1 [(4, Ai 0)] H fun fr H => AP (AG 3 (AK 3 [(15, Ai (p0.length : Int)), (16, Ai 0)] H fun fr H => AY (id := 0) (by kernel_rfl) ?_)))
 obtain ⟨o1, ho, hm⟩ := bind_some hm
 refine BJ (Q' := fun e fr' h' => (∃ x3, e = .exit 0 ∧ .inl x3 = o1 ∧ Has fr' 43 [(1, .AR [.ptr (some (bp1_0, 0))]), (4, Ai x3)] ∧ HH g h' [.obj bp1_0 (.cells none 2 [Ai p1_0])] F) ∨ (∃ x4, e = .ret ∧ .inr x4 = o1 ∧ Has fr' 43 [(3, Ai x4)] ∧ HH g h' [.obj bp1_0 (.cells none 2 [Ai p1_0])] F) ∨ False) ?_ ?_
 ·refine Ce (by kernel_rfl) (fun (s : Int × Int) fr' h' => ∃ x1 x2, (x1, x2) = s ∧ Has fr' 43 [(0, .str p0), (1, .AR [.ptr (some (bp1_0, 0))]), (4, Ai x1), (15, Ai (p0.length : Int)), (16, Ai x2)] ∧ HH g h' [.obj bp1_0 (.cells none 2 [Ai p1_0])] F) ho ⟨_, _, rfl, H.ls, A⟩ ?_
  clear ho hm H A
  intro s q fr h1 hI hm
  obtain ⟨x1, x2, rfl, H, A⟩ := hI
  unfold E4 at hm
  refine AG 1 (AK 1 [(17, .bool (decide (x2 < (p0.length : Int))))] H fun fr H => AP (AZ 17 H hm (fun hb hm H => ?_) fun hb hm H => ?_))
  ·refine CI id (AP (AY (id := 1) (by kernel_rfl) ?_))
   refine AG 2 (AK 2 [(5, Ai x2)] H fun fr H => AP (AG 10 ?_))
   obtain ⟨x5, hx, hm⟩ := bind_some hm
   refine BC 2 [] 21 (Ab x5) h1 H (fun fr => .of (EW (by kernel_rfl) hx)) fun fr t H => ?_
   refine AM 2 [(23, .bool (decide (x5 < 48)))] H fun fr H => ?_
   obtain ⟨x6, ho, hm⟩ := bind_some hm
   refine A5 5 (fun fr' h' => Has fr' 43 [(0, .str p0), (1, .AR [.ptr (some (bp1_0, 0))]), (4, Ai x1), (5, Ai x2), (15, Ai (p0.length : Int)), (16, Ai x2), (28, .bool x6)] ∧ HH g h' [.obj bp1_0 (.cells none 2 [Ai p1_0])] F) ?_ ?_
   ·rcases Ax ho with ⟨hb, hm⟩ | ⟨hb, hm⟩
    ·replace H := H.kn 23 hb
     refine AM 5 [(28, .bool true)] H fun fr H => ?_
     obtain rfl := An hm
     exact at_nil ⟨H.ls, A⟩
    replace H := H.kn 23 hb
    obtain ⟨x7, hx, hm⟩ := bind_some hm
    refine BC 2 [] 26 (Ab x7) h1 H (fun fr => .of (EW (by kernel_rfl) hx)) fun fr t H => ?_
    refine AM 2 [(28, .bool (decide (x7 > 57)))] H fun fr H => ?_
    obtain rfl := An hm
    exact at_nil ⟨H.ls, A⟩
   clear A
   intro t fr h2 hK
   obtain ⟨H, A⟩ := hK
   refine BI id (AZ 28 H hm (fun hb hm H => ?_) fun hb hm H => ?_)
   ·refine AG 1 (AK 1 [(3, Ai 2)] H fun fr H => AS ?_)
    exact nr hm fun e => Or.inr (.inl ⟨_, rfl, e, H.ls, A⟩)
   refine DI 9 id ?_
   obtain ⟨x8, hx, hm⟩ := bind_some hm
   refine BC 4 [(30, Ai (IntKind.i64.wrap ((10 : Int) * x1)))] 33 (Ab x8) h2 H (fun fr => .of (EW (by kernel_rfl) hx)) fun fr t H => ?_
   refine Bd 4 [(0, .str p0), (1, .AR [.ptr (some (bp1_0, 0))]), (4, Ai (IntKind.i64.wrap ((IntKind.i64.wrap ((10 : Int) * x1)) + (IntKind.i64.wrap (IntKind.u8.wrap (x8 - 48)))))), (15, Ai (p0.length : Int)), (16, Ai x2)] H fun fr H => Ep 2 id (Bd 2 [(0, .str p0), (1, .AR [.ptr (some (bp1_0, 0))]), (4, Ai (IntKind.i64.wrap ((IntKind.i64.wrap ((10 : Int) * x1)) + (IntKind.i64.wrap (IntKind.u8.wrap (x8 - 48)))))), (15, Ai (p0.length : Int)), (16, Ai (IntKind.i64.wrap (x2 + 1)))] H fun fr H => at_nil ?_)
   exact nx hm ⟨_, _, rfl, H.ls, A⟩
  refine Bf (i := 0) (by kernel_rfl) ?_
  exact nr hm fun e => .inl ⟨_, rfl, e, H.ls, A⟩
 clear ho
 clear A
 intro e fr h3 hQ
 rcases hQ with ⟨x3, rfl, rfl, H, A⟩ | ⟨x4, rfl, rfl, H, A⟩ | hF
 ·show AW _ _ _ _ _ _ _
  refine AP (AG 2 (AK 2 [(39, .bool (decide (x3 > 9007199254740991)))] H fun fr H => AZ 39 H hm (fun hb hm H => ?_) fun hb hm H => ?_))
  ·refine AG 1 (AK 1 [(3, Ai 6)] H fun fr H => AS ?_)
   obtain ⟨rfl, rfl⟩ := BD hm
   exact ⟨.inl rfl, _, rH H, rfl, A⟩
  refine Br 4 id (Ae 40 (.ptr (some (bp1_0, 0))) h3 H (fun fr => .of (Kz (by kernel_rfl))) fun fr t H => ?_)
  obtain ⟨h4, hx, A⟩ := A.s0 0 [Ai x3] [_]
  refine CF 2 [] hx H fun fr t H => ?_
  refine CJ 1 id (AK 1 [(3, Ai 0)] H fun fr H => AS ?_)
  obtain ⟨rfl, rfl⟩ := BD hm
  exact ⟨.inl rfl, _, rH H, rfl, A⟩
 ·obtain ⟨rfl, rfl⟩ := BD hm
  exact ⟨.inl rfl, _, rH H, rfl, A⟩
 exact hF.elim
end
end Go.Av.L
