/-
 A part.
-/
import Derived.Test.YtlljeoogceblmaaGreatDoorKCfg
namespace Go.Av.L
open Go.Av Go.Lib
set_option maxRecDepth 10000
set_option linter.unusedVariables false
set_option linter.unusedSimpArgs false
variable {g : Gd} {h : AD} {F : List Ck} {av : List AA}
noncomputable section
def Bw (p0 : List AB) (s : Int) : Option ((Int) ⊕ ((Unit) ⊕ (Bool))) :=
 match s with
 | x1 => Ad (decide (x1 < (p0.length : Int))) ((IG p0 x1).bind fun x3 => (Ad (decide ((x3.Key.length : Int) > 300)) (some true) ((IG p0 x1).bind fun x5 => some (decide ((x5.Value.length : Int) > 300))) : Option (Bool)).bind fun x4 => Ad x4 (some (.inr (.inr true))) (some (.inl (IntKind.i64.wrap (x1 + 1))))) (some (.inr (.inl ())))
def B4 (p0 : List AB) : Option (Bool) :=
 Ad (decide ((p0.length : Int) > 12)) (some true) ((loop (Bw p0) (0 : Int)).bind fun o1 => (match o1 with | .inl _ => some false | .inr x2 => some x2))
theorem Jg {p0 q0} (hm : B4 p0 = some q0) (A : HH g h [] F) (hc : BG (cfg.still 44) av = [vs AE p0] := by kernel_rfl) : ∃ v h', BH cfg g h 44 av v h' ∧ v = .bool q0 ∧ HH g h' [] F := by
 refine ES 29 [.tmp 2] hc ?_
 clear hc
 unfold B4 at hm
 refine bg 29 [(0, vs AE p0)] fun fr H => ?_
 refine AG 1 (AK 1 [] H fun fr H => AP (AG 3 (AK 3 [(6, .bool (decide ((p0.length : Int) > 12)))] H fun fr H => AZ 6 H hm (fun hb hm H => ?_) fun hb hm H => ?_)))
 ·refine AG 1 (AK 1 [(2, .bool true)] H fun fr H => AS ?_)
  obtain rfl := An hm
  exact ⟨.inl rfl, _, rH H, rfl, A⟩
 refine CI id (AP (AG 1 (AK 1 [(3, Ai 0)] H fun fr H => AY (id := 0) (by kernel_rfl) ?_)))
 obtain ⟨o1, ho, hm⟩ := bind_some hm
 refine BJ (Q' := fun e fr' h' => (e = .exit 0 ∧ .inl () = o1 ∧ Has fr' 29 [] ∧ HH g h' [] F) ∨ (∃ x2, e = .ret ∧ .inr x2 = o1 ∧ Has fr' 29 [(2, .bool x2)] ∧ HH g h' [] F) ∨ False) ?_ ?_
 ·refine Ce (by kernel_rfl) (fun (s : Int) fr' h' => ∃ x1, x1 = s ∧ Has fr' 29 [(0, vs AE p0), (3, Ai x1)] ∧ HH g h' [] F) ho ⟨_, rfl, H.ls, A⟩ ?_
  clear ho hm H A
  intro s q fr h1 hI hm
  obtain ⟨x1, rfl, H, A⟩ := hI
  unfold Bw at hm
  refine AP (AG 4 (AK 4 [(10, .bool (decide (x1 < (p0.length : Int))))] H fun fr H => AZ 10 H hm (fun hb hm H => ?_) fun hb hm H => ?_))
  ·refine CI id (AP (AY (id := 1) (by kernel_rfl) ?_))
   refine AG 16 ?_
   obtain ⟨x3, hx, hm⟩ := bind_some hm
   refine BC 2 [] 15 (.AR [.str x3.Key, .str x3.Value]) h1 H (fun fr => .of (OC (e := AE) (x := x3) Am (by decide) (by kernel_rfl) hx)) fun fr t H => ?_
   refine BC 1 [] 17 (.str x3.Key) h1 H (fun fr => .of (Kz (by kernel_rfl))) fun fr t H => ?_
   refine AM 3 [(20, .bool (decide ((x3.Key.length : Int) > 300)))] H fun fr H => ?_
   obtain ⟨x4, ho, hm⟩ := bind_some hm
   refine A5 8 (fun fr' h' => Has fr' 29 [(0, vs AE p0), (3, Ai x1), (28, .bool x4)] ∧ HH g h' [] F) ?_ ?_
   ·rcases Ax ho with ⟨hb, hm⟩ | ⟨hb, hm⟩
    ·replace H := H.kn 20 hb
     refine AM 8 [(28, .bool true)] H fun fr H => ?_
     obtain rfl := An hm
     exact at_nil ⟨H.ls, A⟩
    replace H := H.kn 20 hb
    obtain ⟨x5, hx, hm⟩ := bind_some hm
    refine BC 2 [] 23 (.AR [.str x5.Key, .str x5.Value]) h1 H (fun fr => .of (OC (e := AE) (x := x5) Am (by decide) (by kernel_rfl) hx)) fun fr t H => ?_
    refine BC 1 [] 25 (.str x5.Value) h1 H (fun fr => .of (Kz (by kernel_rfl))) fun fr t H => ?_
    refine AM 3 [(28, .bool (decide ((x5.Value.length : Int) > 300)))] H fun fr H => ?_
    obtain rfl := An hm
    exact at_nil ⟨H.ls, A⟩
   clear A
   intro t fr h2 hK
   obtain ⟨H, A⟩ := hK
   refine BI id (AZ 28 H hm (fun hb hm H => ?_) fun hb hm H => ?_)
   ·refine AG 1 (AK 1 [(2, .bool true)] H fun fr H => AS ?_)
    exact nr hm fun e => Or.inr (.inl ⟨_, rfl, e, H.ls, A⟩)
   refine DI 3 id (Bd 3 [(0, vs AE p0), (3, Ai (IntKind.i64.wrap (x1 + 1)))] H fun fr H => at_nil ?_)
   exact nx hm ⟨_, rfl, H.ls, A⟩
  refine Bf (i := 0) (by kernel_rfl) ?_
  exact nr hm fun e => .inl ⟨rfl, e, H.ls, A⟩
 clear ho
 clear A
 intro e fr h3 hQ
 rcases hQ with ⟨rfl, rfl, H, A⟩ | ⟨x2, rfl, rfl, H, A⟩ | hF
 ·show AW _ _ _ _ _ _ _
  refine AG 1 (AK 1 [(2, .bool false)] H fun fr H => AS ?_)
  obtain rfl := An hm
  exact ⟨.inl rfl, _, rH H, rfl, A⟩
 ·obtain rfl := An hm
  exact ⟨.inl rfl, _, rH H, rfl, A⟩
 exact hF.elim
def DG (p0 : AL) : Option (Bool) :=
 (B4 p0.Extra).bind fun x1 => some (((((x1 || (decide ((p0.Name.length : Int) > 600))) || (decide ((p0.AU.length : Int) > 600))) || (decide ((p0.AN.length : Int) > 100))) || (decide ((p0.AO.length : Int) > 100))) || (decide ((p0.Data.length : Int) > 2000)))
theorem Jo {p0 q0} (hm : DG p0 = some q0) (A : HH g h [] F) (hc : BG (cfg.still 11) av = [.agg (AI p0)] := by kernel_rfl) : ∃ v h', BH cfg g h 11 av v h' ∧ v = .bool q0 ∧ HH g h' [] F := by
 refine ES 36 [.tmp 2] hc ?_
 clear hc
 unfold DG at hm
 refine bg 36 [(0, .agg (AI p0))] fun fr H => ?_
 refine AG 2 ?_
 obtain ⟨h1, e1, A⟩ := A.pu (.cells none 2 (AI p0))
 refine BK 1 (.ptr (some (h.size, 0))) e1 H fun fr t H => ?_
 refine Bg 1 [] 34 H fun fr H => AV 1 [] 4 0 12 A H fun fr t H => ?_
 obtain ⟨x1, hx, hm⟩ := bind_some hm
 obtain ⟨v1, h2, hr, rfl, A1⟩ := Jg (av := [vs AE p0.Extra]) hx (A.cut 0)
 replace A : HH g h2 [.obj h.size (.cells none 2 (AI p0))] F := A.Fp (n := 0) A1
 refine Aw 5 hr H fun fr t H => ?_
 refine AM 1 [(6, .bool x1)] H fun fr H => A5 5 (fun fr' h' => h2 = h' ∧ Has fr' 36 [(1, .ptr (some (h.size, 0))), (11, .bool (x1 || (decide ((p0.Name.length : Int) > 600))))]) ?_ ?_
 ·cases hb : (x1 : Bool) with
  | true =>
   replace H := H.kn 6 hb
   exact AM 5 [(11, .bool true)] H fun fr H => Ao H hb
  | false =>
   replace H := H.kn 6 hb
   refine AV 1 [] 8 0 0 A H fun fr t H => ?_
   exact AM 3 [(11, .bool (decide ((p0.Name.length : Int) > 600)))] H fun fr H => Ao H hb
 intro t fr h' hK
 obtain ⟨e, H⟩ := hK
 subst e
 refine AM 1 [(12, .bool (x1 || (decide ((p0.Name.length : Int) > 600))))] H fun fr H => A5 5 (fun fr' h' => h2 = h' ∧ Has fr' 36 [(1, .ptr (some (h.size, 0))), (17, .bool ((x1 || (decide ((p0.Name.length : Int) > 600))) || (decide ((p0.AU.length : Int) > 600))))]) ?_ ?_
 ·cases hb : (x1 || (decide ((p0.Name.length : Int) > 600)) : Bool) with
  | true =>
   replace H := H.kn 12 hb
   exact AM 5 [(17, .bool true)] H fun fr H => Ao H hb
  | false =>
   replace H := H.kn 12 hb
   refine AV 1 [] 14 0 1 A H fun fr t H => ?_
   exact AM 3 [(17, .bool (decide ((p0.AU.length : Int) > 600)))] H fun fr H => Ao H hb
 intro t fr h' hK
 obtain ⟨e, H⟩ := hK
 subst e
 refine AM 1 [(18, .bool ((x1 || (decide ((p0.Name.length : Int) > 600))) || (decide ((p0.AU.length : Int) > 600))))] H fun fr H => A5 5 (fun fr' h' => h2 = h' ∧ Has fr' 36 [(1, .ptr (some (h.size, 0))), (23, .bool (((x1 || (decide ((p0.Name.length : Int) > 600))) || (decide ((p0.AU.length : Int) > 600))) || (decide ((p0.AN.length : Int) > 100))))]) ?_ ?_
 ·cases hb : ((x1 || (decide ((p0.Name.length : Int) > 600))) || (decide ((p0.AU.length : Int) > 600)) : Bool) with
  | true =>
   replace H := H.kn 18 hb
   exact AM 5 [(23, .bool true)] H fun fr H => Ao H hb
  | false =>
   replace H := H.kn 18 hb
   refine AV 1 [] 20 0 6 A H fun fr t H => ?_
   exact AM 3 [(23, .bool (decide ((p0.AN.length : Int) > 100)))] H fun fr H => Ao H hb
 intro t fr h' hK
 obtain ⟨e, H⟩ := hK
 subst e
 refine AM 1 [(24, .bool (((x1 || (decide ((p0.Name.length : Int) > 600))) || (decide ((p0.AU.length : Int) > 600))) || (decide ((p0.AN.length : Int) > 100))))] H fun fr H => A5 5 (fun fr' h' => h2 = h' ∧ Has fr' 36 [(1, .ptr (some (h.size, 0))), (29, .bool ((((x1 || (decide ((p0.Name.length : Int) > 600))) || (decide ((p0.AU.length : Int) > 600))) || (decide ((p0.AN.length : Int) > 100))) || (decide ((p0.AO.length : Int) > 100))))]) ?_ ?_
 ·cases hb : (((x1 || (decide ((p0.Name.length : Int) > 600))) || (decide ((p0.AU.length : Int) > 600))) || (decide ((p0.AN.length : Int) > 100)) : Bool) with
  | true =>
   replace H := H.kn 24 hb
   exact AM 5 [(29, .bool true)] H fun fr H => Ao H hb
  | false =>
   replace H := H.kn 24 hb
   refine AV 1 [] 26 0 7 A H fun fr t H => ?_
   exact AM 3 [(29, .bool (decide ((p0.AO.length : Int) > 100)))] H fun fr H => Ao H hb
 intro t fr h' hK
 obtain ⟨e, H⟩ := hK
 subst e
 refine AM 1 [(30, .bool ((((x1 || (decide ((p0.Name.length : Int) > 600))) || (decide ((p0.AU.length : Int) > 600))) || (decide ((p0.AN.length : Int) > 100))) || (decide ((p0.AO.length : Int) > 100))))] H fun fr H => A5 5 (fun fr' h' => h2 = h' ∧ Has fr' 36 [(35, .bool (((((x1 || (decide ((p0.Name.length : Int) > 600))) || (decide ((p0.AU.length : Int) > 600))) || (decide ((p0.AN.length : Int) > 100))) || (decide ((p0.AO.length : Int) > 100))) || (decide ((p0.Data.length : Int) > 2000))))]) ?_ ?_
 ·cases hb : ((((x1 || (decide ((p0.Name.length : Int) > 600))) || (decide ((p0.AU.length : Int) > 600))) || (decide ((p0.AN.length : Int) > 100))) || (decide ((p0.AO.length : Int) > 100)) : Bool) with
  | true =>
   replace H := H.kn 30 hb
   exact AM 5 [(35, .bool true)] H fun fr H => Ao H hb
  | false =>
   replace H := H.kn 30 hb
   refine AV 1 [] 32 0 13 A H fun fr t H => ?_
   exact AM 3 [(35, .bool (decide ((p0.Data.length : Int) > 2000)))] H fun fr H => Ao H hb
 intro t fr h' hK
 obtain ⟨e, H⟩ := hK
 subst e
 refine AK 1 [(2, .bool (((((x1 || (decide ((p0.Name.length : Int) > 600))) || (decide ((p0.AU.length : Int) > 600))) || (decide ((p0.AN.length : Int) > 100))) || (decide ((p0.AO.length : Int) > 100))) || (decide ((p0.Data.length : Int) > 2000))))] H fun fr H => AS ?_
 obtain rfl := An hm
 refine ⟨.inl rfl, .bool (((((x1 || (decide ((p0.Name.length : Int) > 600))) || (decide ((p0.AU.length : Int) > 600))) || (decide ((p0.AN.length : Int) > 100))) || (decide ((p0.AO.length : Int) > 100))) || (decide ((p0.Data.length : Int) > 2000))), rH H, ?_⟩
 replace A := A.d0
 exact ⟨rfl, A⟩
def Bi (p0 : List UInt8) (p1 : Int) : Option (Int) :=
 (FP p0 p1).bind fun x1 => some x1
theorem IB {p0 p1 q0} (hm : Bi p0 p1 = some q0) (A : HH g h [] F) (hc : BG (cfg.still 189) av = [.str p0, Ab p1] := by kernel_rfl) : ∃ v h', BH cfg g h 189 av v h' ∧ v = Ai q0 ∧ HH g h' [] F := by
 refine ES 8 [.tmp 4] hc ?_
 clear hc
 unfold Bi at hm
 refine bg 8 [(0, .str p0), (1, Ab p1)] fun fr H => ?_
 refine AG 1 (Bg 1 [] 4 H fun fr H => ?_)
 obtain ⟨x1, hx, hm⟩ := bind_some hm
 refine BC 2 [] 7 (Ai x1) h H (fun fr => Steps.call (by kernel_rfl) (W8 (C := cfg) (f := 224) (by kernel_rfl) (l := exts) rfl (by kernel_rfl) hx)) fun fr t H => ?_
 refine AK 1 [(4, Ai x1)] H fun fr H => AS ?_
 obtain rfl := An hm
 exact ⟨.inl rfl, _, rH H, rfl, A⟩
def Au (p0 : List UInt8) (p1 : Int) : Option (Int) :=
 (Bi p0 p1).bind fun x1 => some x1
theorem Bo {p0 p1 q0} (hm : Au p0 p1 = some q0) (A : HH g h [] F) (hc : BG (cfg.still 134) av = [.str p0, Ab p1] := by kernel_rfl) : ∃ v h', BH cfg g h 134 av v h' ∧ v = Ai q0 ∧ HH g h' [] F := by
 refine ES 8 [.tmp 4] hc ?_
 clear hc
 unfold Au at hm
 refine bg 8 [(0, .str p0), (1, Ab p1)] fun fr H => ?_
 refine AG 1 (Bg 1 [] 4 H fun fr H => ?_)
 obtain ⟨x1, hx, hm⟩ := bind_some hm
 obtain ⟨v1, h1, hr, rfl, A1⟩ := IB (av := [.str p0, Ab p1]) hx (A.cut 0)
 replace A := A.DN A1
 refine A6 2 [] 7 hr H fun fr t H => ?_
 refine AK 1 [(4, Ai x1)] H fun fr H => AS ?_
 obtain rfl := An hm
 exact ⟨.inl rfl, _, rH H, rfl, A⟩
def DR (p0 : List AB) (s : Int) : Option ((Int) ⊕ ((Unit) ⊕ (Bool))) :=
 match s with
 | x1 => Ad (decide (x1 < (p0.length : Int))) ((IG p0 x1).bind fun x3 => Ad (x3.Key == ([103, 105, 100] : List UInt8)) (some (.inr (.inr false))) (Ad (x3.Key == ([117, 105, 100] : List UInt8)) (some (.inr (.inr false))) (Ad (x3.Key == ([115, 105, 122, 101] : List UInt8)) (some (.inr (.inr false))) (Ad (x3.Key == ([103, 110, 97, 109, 101] : List UInt8)) (some (.inr (.inr false))) (Ad (x3.Key == ([117, 110, 97, 109, 101] : List UInt8)) (some (.inr (.inr false))) (Ad (x3.Key == ([112, 97, 116, 104] : List UInt8)) (some (.inr (.inr false))) (Ad (x3.Key == ([108, 105, 110, 107, 112, 97, 116, 104] : List UInt8)) (some (.inr (.inr false))) (Ad (x3.Key == ([109, 116, 105, 109, 101] : List UInt8)) (some (.inr (.inr false))) ((Ad ((x3.Key == ([] : List UInt8)) || (x3.Value == ([] : List UInt8))) (some true) ((Au x3.Key (61 : Int)).bind fun x5 => some (decide (x5 ≥ 0))) : Option (Bool)).bind fun x4 => (Ad x4 (some true) ((Ad (decide (x1 > 0)) ((IG p0 (IntKind.i64.wrap (x1 - 1))).bind fun x8 => some (!(Op.bytesLess x8.Key x3.Key))) (some false) : Option (Bool)).bind fun x7 => some x7) : Option (Bool)).bind fun x6 => Ad x6 (some (.inr (.inr false))) (some (.inl (IntKind.i64.wrap (x1 + 1))))))))))))) (some (.inr (.inl ())))
def E0 (p0 : List AB) : Option (Bool) :=
 (loop (DR p0) (0 : Int)).bind fun o1 => (match o1 with | .inl _ => some true | .inr x2 => some x2)
theorem Nv {p0 q0} (hm : E0 p0 = some q0) (A : HH g h [] F) (hc : BG (cfg.still 159) av = [vs AE p0] := by kernel_rfl) : ∃ v h', BH cfg g h 159 av v h' ∧ v = .bool q0 ∧ HH g h' [] F := by
 refine ES 59 [.tmp 2] hc ?_
 clear hc
 unfold E0 at hm
 refine bg 59 [(0, vs AE p0)] fun fr H => ?_
 refine AG 1 (Bg 1 [] 5 H fun fr H => ?_)
 obtain ⟨h1, e1, A⟩ := A.pu (.cells none 2 [.str ([] : List UInt8), .str ([] : List UInt8), Ab 0, Ai 0, Ai 0, Ai 0, .str ([] : List UInt8), .str ([] : List UInt8), Ai 0, Ai 0, Ai 0, Ai 0, .slice none 0, .str ([] : List UInt8)])
 refine JA 1 [] 9 (.ptr (some (h.size, 0))) e1 H fun fr t H => ?_
 obtain ⟨h2, e2, A⟩ := A.pu (.cells none 2 [Ai 0])
 refine BK 10 (.ptr (some (h1.size, 0))) e2 H fun fr t H => ?_
 obtain ⟨h3, e3⟩ : ∃ x, x = h2.push (.map 3 [(.str ([103, 105, 100] : List UInt8), .func (.func 194) [] [.AR [.ptr (some (h.size, 5))]]), (.str ([117, 105, 100] : List UInt8), .func (.func 194) [] [.AR [.ptr (some (h.size, 4))]]), (.str ([115, 105, 122, 101] : List UInt8), .func (.func 194) [] [.AR [.ptr (some (h1.size, 0))]]), (.str ([103, 110, 97, 109, 101] : List UInt8), .func (.func 195) [] [.AR [.ptr (some (h.size, 7))]]), (.str ([117, 110, 97, 109, 101] : List UInt8), .func (.func 195) [] [.AR [.ptr (some (h.size, 6))]]), (.str ([112, 97, 116, 104] : List UInt8), .func (.func 195) [] [.AR [.ptr (some (h.size, 0))]]), (.str ([108, 105, 110, 107, 112, 97, 116, 104] : List UInt8), .func (.func 195) [] [.AR [.ptr (some (h.size, 1))]]), (.str ([109, 116, 105, 109, 101] : List UInt8), .func (.func 142) [] [.AR [.ptr (some (h.size, 0))]])]) := ⟨_, rfl⟩
 replace A : HH g h3 [.obj h2.size (.map 3 [(.str ([103, 105, 100] : List UInt8), .func (.func 194) [] [.AR [.ptr (some (h.size, 5))]]), (.str ([117, 105, 100] : List UInt8), .func (.func 194) [] [.AR [.ptr (some (h.size, 4))]]), (.str ([115, 105, 122, 101] : List UInt8), .func (.func 194) [] [.AR [.ptr (some (h1.size, 0))]]), (.str ([103, 110, 97, 109, 101] : List UInt8), .func (.func 195) [] [.AR [.ptr (some (h.size, 7))]]), (.str ([117, 110, 97, 109, 101] : List UInt8), .func (.func 195) [] [.AR [.ptr (some (h.size, 6))]]), (.str ([112, 97, 116, 104] : List UInt8), .func (.func 195) [] [.AR [.ptr (some (h.size, 0))]]), (.str ([108, 105, 110, 107, 112, 97, 116, 104] : List UInt8), .func (.func 195) [] [.AR [.ptr (some (h.size, 1))]]), (.str ([109, 116, 105, 109, 101] : List UInt8), .func (.func 142) [] [.AR [.ptr (some (h.size, 0))]])]), .obj h1.size (.cells none 2 [Ai 0]), .obj h.size (.cells none 2 [.str ([] : List UInt8), .str ([] : List UInt8), Ab 0, Ai 0, Ai 0, Ai 0, .str ([] : List UInt8), .str ([] : List UInt8), Ai 0, Ai 0, Ai 0, Ai 0, .slice none 0, .str ([] : List UInt8)])] F := (A.push _).to e3
 have hr : ∀ g, BH cfg g h2 82 [.ptr (some (h.size, 0)), .ptr (some (h1.size, 0))] (.map (some h2.size)) h3 := fun g => by rw [e3]; exact Vi (C := cfg) (f := 82) (j := 0) (n := 2) (es := [(.str ([103, 105, 100] : List UInt8), .func (.func 194) [] [.AR [.ptr (some (h.size, 5))]]), (.str ([117, 105, 100] : List UInt8), .func (.func 194) [] [.AR [.ptr (some (h.size, 4))]]), (.str ([115, 105, 122, 101] : List UInt8), .func (.func 194) [] [.AR [.ptr (some (h1.size, 0))]]), (.str ([103, 110, 97, 109, 101] : List UInt8), .func (.func 195) [] [.AR [.ptr (some (h.size, 7))]]), (.str ([117, 110, 97, 109, 101] : List UInt8), .func (.func 195) [] [.AR [.ptr (some (h.size, 6))]]), (.str ([112, 97, 116, 104] : List UInt8), .func (.func 195) [] [.AR [.ptr (some (h.size, 0))]]), (.str ([108, 105, 110, 107, 112, 97, 116, 104] : List UInt8), .func (.func 195) [] [.AR [.ptr (some (h.size, 1))]]), (.str ([109, 116, 105, 109, 101] : List UInt8), .func (.func 142) [] [.AR [.ptr (some (h.size, 0))]])]) (by kernel_rfl) (l := exts) rfl (by kernel_rfl) (by kernel_rfl) (by kernel_rfl)
 refine Ae 11 _ _ H (fun fr => Steps.call (by kernel_rfl) (hr _)) fun fr t H => ?_
 refine AK 1 [(3, .map (some h2.size))] H fun fr H => AP (AG 3 (AK 3 [(12, vs AE p0), (13, Ai (p0.length : Int)), (14, Ai 0)] H fun fr H => AY (id := 0) (by kernel_rfl) ?_))
 obtain ⟨o1, ho, hm⟩ := bind_some hm
 refine BJ (Q' := fun e fr' h' => (e = .exit 0 ∧ .inl () = o1 ∧ Has fr' 59 [] ∧ HH g h' [.obj h2.size (.map 3 [(.str ([103, 105, 100] : List UInt8), .func (.func 194) [] [.AR [.ptr (some (h.size, 5))]]), (.str ([117, 105, 100] : List UInt8), .func (.func 194) [] [.AR [.ptr (some (h.size, 4))]]), (.str ([115, 105, 122, 101] : List UInt8), .func (.func 194) [] [.AR [.ptr (some (h1.size, 0))]]), (.str ([103, 110, 97, 109, 101] : List UInt8), .func (.func 195) [] [.AR [.ptr (some (h.size, 7))]]), (.str ([117, 110, 97, 109, 101] : List UInt8), .func (.func 195) [] [.AR [.ptr (some (h.size, 6))]]), (.str ([112, 97, 116, 104] : List UInt8), .func (.func 195) [] [.AR [.ptr (some (h.size, 0))]]), (.str ([108, 105, 110, 107, 112, 97, 116, 104] : List UInt8), .func (.func 195) [] [.AR [.ptr (some (h.size, 1))]]), (.str ([109, 116, 105, 109, 101] : List UInt8), .func (.func 142) [] [.AR [.ptr (some (h.size, 0))]])]), .obj h1.size (.cells none 2 [Ai 0]), .obj h.size (.cells none 2 [.str ([] : List UInt8), .str ([] : List UInt8), Ab 0, Ai 0, Ai 0, Ai 0, .str ([] : List UInt8), .str ([] : List UInt8), Ai 0, Ai 0, Ai 0, Ai 0, .slice none 0, .str ([] : List UInt8)])] F) ∨ (∃ x2, e = .ret ∧ .inr x2 = o1 ∧ Has fr' 59 [(2, .bool x2)] ∧ HH g h' [.obj h2.size (.map 3 [(.str ([103, 105, 100] : List UInt8), .func (.func 194) [] [.AR [.ptr (some (h.size, 5))]]), (.str ([117, 105, 100] : List UInt8), .func (.func 194) [] [.AR [.ptr (some (h.size, 4))]]), (.str ([115, 105, 122, 101] : List UInt8), .func (.func 194) [] [.AR [.ptr (some (h1.size, 0))]]), (.str ([103, 110, 97, 109, 101] : List UInt8), .func (.func 195) [] [.AR [.ptr (some (h.size, 7))]]), (.str ([117, 110, 97, 109, 101] : List UInt8), .func (.func 195) [] [.AR [.ptr (some (h.size, 6))]]), (.str ([112, 97, 116, 104] : List UInt8), .func (.func 195) [] [.AR [.ptr (some (h.size, 0))]]), (.str ([108, 105, 110, 107, 112, 97, 116, 104] : List UInt8), .func (.func 195) [] [.AR [.ptr (some (h.size, 1))]]), (.str ([109, 116, 105, 109, 101] : List UInt8), .func (.func 142) [] [.AR [.ptr (some (h.size, 0))]])]), .obj h1.size (.cells none 2 [Ai 0]), .obj h.size (.cells none 2 [.str ([] : List UInt8), .str ([] : List UInt8), Ab 0, Ai 0, Ai 0, Ai 0, .str ([] : List UInt8), .str ([] : List UInt8), Ai 0, Ai 0, Ai 0, Ai 0, .slice none 0, .str ([] : List UInt8)])] F) ∨ False) ?_ ?_
 ·refine Ce (by kernel_rfl) (fun (s : Int) fr' h' => ∃ x1, x1 = s ∧ Has fr' 59 [(0, vs AE p0), (3, .map (some h2.size)), (12, vs AE p0), (13, Ai (p0.length : Int)), (14, Ai x1)] ∧ HH g h' [.obj h2.size (.map 3 [(.str ([103, 105, 100] : List UInt8), .func (.func 194) [] [.AR [.ptr (some (h.size, 5))]]), (.str ([117, 105, 100] : List UInt8), .func (.func 194) [] [.AR [.ptr (some (h.size, 4))]]), (.str ([115, 105, 122, 101] : List UInt8), .func (.func 194) [] [.AR [.ptr (some (h1.size, 0))]]), (.str ([103, 110, 97, 109, 101] : List UInt8), .func (.func 195) [] [.AR [.ptr (some (h.size, 7))]]), (.str ([117, 110, 97, 109, 101] : List UInt8), .func (.func 195) [] [.AR [.ptr (some (h.size, 6))]]), (.str ([112, 97, 116, 104] : List UInt8), .func (.func 195) [] [.AR [.ptr (some (h.size, 0))]]), (.str ([108, 105, 110, 107, 112, 97, 116, 104] : List UInt8), .func (.func 195) [] [.AR [.ptr (some (h.size, 1))]]), (.str ([109, 116, 105, 109, 101] : List UInt8), .func (.func 142) [] [.AR [.ptr (some (h.size, 0))]])]), .obj h1.size (.cells none 2 [Ai 0]), .obj h.size (.cells none 2 [.str ([] : List UInt8), .str ([] : List UInt8), Ab 0, Ai 0, Ai 0, Ai 0, .str ([] : List UInt8), .str ([] : List UInt8), Ai 0, Ai 0, Ai 0, Ai 0, .slice none 0, .str ([] : List UInt8)])] F) ho ⟨_, rfl, H.ls, A⟩ ?_
  clear ho hm H A
  intro s q fr h4 hI hm
  obtain ⟨x1, rfl, H, A⟩ := hI
  unfold DR at hm
  refine AG 1 (AK 1 [(15, .bool (decide (x1 < (p0.length : Int))))] H fun fr H => AP (AZ 15 H hm (fun hb hm H => ?_) fun hb hm H => ?_))
  ·refine CI id (AP (AY (id := 1) (by kernel_rfl) ?_))
   refine AG 6 ?_
   obtain ⟨x3, hx, hm⟩ := bind_some hm
   refine BC 1 [(16, Ai x1)] 17 (.AR [.str x3.Key, .str x3.Value]) h4 H (fun fr => .of (OC (e := AE) (x := x3) Am (by decide) (by kernel_rfl) hx)) fun fr t H => ?_
   refine Ae 18 (.agg [.str x3.Key, .str x3.Value]) h4 H (fun fr => .of (Kz (by kernel_rfl))) fun fr t H => ?_
   obtain ⟨h5, e4, A⟩ := A.pu (.cells none 2 [.str ([] : List UInt8), .str ([] : List UInt8)])
   refine BK 5 (.ptr (some (h4.size, 0))) e4 H fun fr t H => ?_
   obtain ⟨h6, hx, A⟩ := A.s0 0 [.str x3.Key, .str x3.Value] [_, _]
   refine Es 1 [(4, Ai x1)] hx H fun fr t H => ?_
   refine CJ 9 id (AV 2 [(20, .map (some h2.size))] 22 0 0 A H fun fr t H => ?_)
   rcases Ax hm with ⟨hb, hm⟩ | ⟨hk1, hm⟩
   ·refine Ae 23 (.tuple [.func (.func 194) [] [.AR [.ptr (some (h.size, 5))]], .bool true]) h6 H (fun fr => .of (Fx (by kernel_rfl) (HH.Ew (P := cfg.P) A 1 rfl (t := 140) (kt := 9) (et := 144) (by kernel_rfl) (by kernel_rfl) (s := x3.Key) (.hit hb)))) fun fr t H => ?_
    refine AK 5 [(7, .bool true)] H fun fr H => AP (JF 6 32 ?_)
    refine AK 32 [(57, .bool true)] H fun fr H => Cf (x := .tmp 57) (by kernel_rfl) H (fun fr => by kernel_rfl) ?_
    refine AG 1 (AK 1 [(2, .bool false)] H fun fr H => AS ?_)
    replace A := A.k3 1 2 3
    exact nr hm fun e => Or.inr (.inl ⟨_, rfl, e, H.ls, A⟩)
   rcases Ax hm with ⟨hb, hm⟩ | ⟨hk2, hm⟩
   ·refine Ae 23 (.tuple [.func (.func 194) [] [.AR [.ptr (some (h.size, 4))]], .bool true]) h6 H (fun fr => .of (Fx (by kernel_rfl) (HH.Ew (P := cfg.P) A 1 rfl (t := 140) (kt := 9) (et := 144) (by kernel_rfl) (by kernel_rfl) (s := x3.Key) (.Be hk1 (.hit hb))))) fun fr t H => ?_
    refine AK 5 [(7, .bool true)] H fun fr H => AP (JF 6 32 ?_)
    refine AK 32 [(57, .bool true)] H fun fr H => Cf (x := .tmp 57) (by kernel_rfl) H (fun fr => by kernel_rfl) ?_
    refine AG 1 (AK 1 [(2, .bool false)] H fun fr H => AS ?_)
    replace A := A.k3 1 2 3
    exact nr hm fun e => Or.inr (.inl ⟨_, rfl, e, H.ls, A⟩)
   rcases Ax hm with ⟨hb, hm⟩ | ⟨hk3, hm⟩
   ·refine Ae 23 (.tuple [.func (.func 194) [] [.AR [.ptr (some (h1.size, 0))]], .bool true]) h6 H (fun fr => .of (Fx (by kernel_rfl) (HH.Ew (P := cfg.P) A 1 rfl (t := 140) (kt := 9) (et := 144) (by kernel_rfl) (by kernel_rfl) (s := x3.Key) (.Be hk1 (.Be hk2 (.hit hb)))))) fun fr t H => ?_
    refine AK 5 [(7, .bool true)] H fun fr H => AP (JF 6 32 ?_)
    refine AK 32 [(57, .bool true)] H fun fr H => Cf (x := .tmp 57) (by kernel_rfl) H (fun fr => by kernel_rfl) ?_
    refine AG 1 (AK 1 [(2, .bool false)] H fun fr H => AS ?_)
    replace A := A.k3 1 2 3
    exact nr hm fun e => Or.inr (.inl ⟨_, rfl, e, H.ls, A⟩)
   rcases Ax hm with ⟨hb, hm⟩ | ⟨hk4, hm⟩
   ·refine Ae 23 (.tuple [.func (.func 195) [] [.AR [.ptr (some (h.size, 7))]], .bool true]) h6 H (fun fr => .of (Fx (by kernel_rfl) (HH.Ew (P := cfg.P) A 1 rfl (t := 140) (kt := 9) (et := 144) (by kernel_rfl) (by kernel_rfl) (s := x3.Key) (.Be hk1 (.Be hk2 (.Be hk3 (.hit hb))))))) fun fr t H => ?_
    refine AK 5 [(7, .bool true)] H fun fr H => AP (JF 6 32 ?_)
    refine AK 32 [(57, .bool true)] H fun fr H => Cf (x := .tmp 57) (by kernel_rfl) H (fun fr => by kernel_rfl) ?_
    refine AG 1 (AK 1 [(2, .bool false)] H fun fr H => AS ?_)
    replace A := A.k3 1 2 3
    exact nr hm fun e => Or.inr (.inl ⟨_, rfl, e, H.ls, A⟩)
   rcases Ax hm with ⟨hb, hm⟩ | ⟨hk5, hm⟩
   ·refine Ae 23 (.tuple [.func (.func 195) [] [.AR [.ptr (some (h.size, 6))]], .bool true]) h6 H (fun fr => .of (Fx (by kernel_rfl) (HH.Ew (P := cfg.P) A 1 rfl (t := 140) (kt := 9) (et := 144) (by kernel_rfl) (by kernel_rfl) (s := x3.Key) (.Be hk1 (.Be hk2 (.Be hk3 (.Be hk4 (.hit hb)))))))) fun fr t H => ?_
    refine AK 5 [(7, .bool true)] H fun fr H => AP (JF 6 32 ?_)
    refine AK 32 [(57, .bool true)] H fun fr H => Cf (x := .tmp 57) (by kernel_rfl) H (fun fr => by kernel_rfl) ?_
    refine AG 1 (AK 1 [(2, .bool false)] H fun fr H => AS ?_)
    replace A := A.k3 1 2 3
    exact nr hm fun e => Or.inr (.inl ⟨_, rfl, e, H.ls, A⟩)
   rcases Ax hm with ⟨hb, hm⟩ | ⟨hk6, hm⟩
   ·refine Ae 23 (.tuple [.func (.func 195) [] [.AR [.ptr (some (h.size, 0))]], .bool true]) h6 H (fun fr => .of (Fx (by kernel_rfl) (HH.Ew (P := cfg.P) A 1 rfl (t := 140) (kt := 9) (et := 144) (by kernel_rfl) (by kernel_rfl) (s := x3.Key) (.Be hk1 (.Be hk2 (.Be hk3 (.Be hk4 (.Be hk5 (.hit hb))))))))) fun fr t H => ?_
    refine AK 5 [(7, .bool true)] H fun fr H => AP (JF 6 32 ?_)
    refine AK 32 [(57, .bool true)] H fun fr H => Cf (x := .tmp 57) (by kernel_rfl) H (fun fr => by kernel_rfl) ?_
    refine AG 1 (AK 1 [(2, .bool false)] H fun fr H => AS ?_)
    replace A := A.k3 1 2 3
    exact nr hm fun e => Or.inr (.inl ⟨_, rfl, e, H.ls, A⟩)
   rcases Ax hm with ⟨hb, hm⟩ | ⟨hk7, hm⟩
   ·refine Ae 23 (.tuple [.func (.func 195) [] [.AR [.ptr (some (h.size, 1))]], .bool true]) h6 H (fun fr => .of (Fx (by kernel_rfl) (HH.Ew (P := cfg.P) A 1 rfl (t := 140) (kt := 9) (et := 144) (by kernel_rfl) (by kernel_rfl) (s := x3.Key) (.Be hk1 (.Be hk2 (.Be hk3 (.Be hk4 (.Be hk5 (.Be hk6 (.hit hb)))))))))) fun fr t H => ?_
    refine AK 5 [(7, .bool true)] H fun fr H => AP (JF 6 32 ?_)
    refine AK 32 [(57, .bool true)] H fun fr H => Cf (x := .tmp 57) (by kernel_rfl) H (fun fr => by kernel_rfl) ?_
    refine AG 1 (AK 1 [(2, .bool false)] H fun fr H => AS ?_)
    replace A := A.k3 1 2 3
    exact nr hm fun e => Or.inr (.inl ⟨_, rfl, e, H.ls, A⟩)
   rcases Ax hm with ⟨hb, hm⟩ | ⟨hk8, hm⟩
   ·refine Ae 23 (.tuple [.func (.func 142) [] [.AR [.ptr (some (h.size, 0))]], .bool true]) h6 H (fun fr => .of (Fx (by kernel_rfl) (HH.Ew (P := cfg.P) A 1 rfl (t := 140) (kt := 9) (et := 144) (by kernel_rfl) (by kernel_rfl) (s := x3.Key) (.Be hk1 (.Be hk2 (.Be hk3 (.Be hk4 (.Be hk5 (.Be hk6 (.Be hk7 (.hit hb))))))))))) fun fr t H => ?_
    refine AK 5 [(7, .bool true)] H fun fr H => AP (JF 6 32 ?_)
    refine AK 32 [(57, .bool true)] H fun fr H => Cf (x := .tmp 57) (by kernel_rfl) H (fun fr => by kernel_rfl) ?_
    refine AG 1 (AK 1 [(2, .bool false)] H fun fr H => AS ?_)
    replace A := A.k3 1 2 3
    exact nr hm fun e => Or.inr (.inl ⟨_, rfl, e, H.ls, A⟩)
   refine Ae 23 (.tuple [.nilFunc, .bool false]) h6 H (fun fr => .of (Fx (by kernel_rfl) (HH.TE (P := cfg.P) A 1 rfl (t := 140) (kt := 9) (et := 144) (by kernel_rfl) (by kernel_rfl) (z := .nilFunc) (by kernel_rfl) (s := x3.Key) (.Be hk1 (.Be hk2 (.Be hk3 (.Be hk4 (.Be hk5 (.Be hk6 (.Be hk7 (.Be hk8 (.nil)))))))))))) fun fr t H => ?_
   refine AK 5 [(7, .bool false)] H fun fr H => AP (JF 6 32 ?_)
   refine AV 3 [(27, .bool false)] 29 0 0 A H fun fr t H => ?_
   refine AM 3 [(32, .bool (x3.Key == ([] : List UInt8)))] H fun fr H => A5 4 (fun fr' h' => h6 = h' ∧ Has fr' 59 [(0, vs AE p0), (3, .map (some h2.size)), (4, Ai x1), (5, .ptr (some (h4.size, 0))), (12, vs AE p0), (13, Ai (p0.length : Int)), (14, Ai x1), (36, .bool ((x3.Key == ([] : List UInt8)) || (x3.Value == ([] : List UInt8))))]) ?_ ?_
   ·cases hb : (x3.Key == ([] : List UInt8) : Bool) with
    | true =>
     replace H := H.kn 32 hb
     exact AM 4 [(36, .bool true)] H fun fr H => Ao H hb
    | false =>
     replace H := H.kn 32 hb
     refine AV 1 [] 34 0 1 A H fun fr t H => ?_
     exact AM 2 [(36, .bool (x3.Value == ([] : List UInt8)))] H fun fr H => Ao H hb
   intro t fr h' hK
   obtain ⟨e, H⟩ := hK
   subst e
   refine AM 1 [(37, .bool ((x3.Key == ([] : List UInt8)) || (x3.Value == ([] : List UInt8))))] H fun fr H => ?_
   obtain ⟨x4, ho, hm⟩ := bind_some hm
   refine A5 5 (fun fr' h' => Has fr' 59 [(0, vs AE p0), (3, .map (some h2.size)), (4, Ai x1), (5, .ptr (some (h4.size, 0))), (12, vs AE p0), (13, Ai (p0.length : Int)), (14, Ai x1), (42, .bool x4)] ∧ HH g h' [.obj h4.size (.cells none 2 [.str x3.Key, .str x3.Value]), .obj h2.size (.map 3 [(.str ([103, 105, 100] : List UInt8), .func (.func 194) [] [.AR [.ptr (some (h.size, 5))]]), (.str ([117, 105, 100] : List UInt8), .func (.func 194) [] [.AR [.ptr (some (h.size, 4))]]), (.str ([115, 105, 122, 101] : List UInt8), .func (.func 194) [] [.AR [.ptr (some (h1.size, 0))]]), (.str ([103, 110, 97, 109, 101] : List UInt8), .func (.func 195) [] [.AR [.ptr (some (h.size, 7))]]), (.str ([117, 110, 97, 109, 101] : List UInt8), .func (.func 195) [] [.AR [.ptr (some (h.size, 6))]]), (.str ([112, 97, 116, 104] : List UInt8), .func (.func 195) [] [.AR [.ptr (some (h.size, 0))]]), (.str ([108, 105, 110, 107, 112, 97, 116, 104] : List UInt8), .func (.func 195) [] [.AR [.ptr (some (h.size, 1))]]), (.str ([109, 116, 105, 109, 101] : List UInt8), .func (.func 142) [] [.AR [.ptr (some (h.size, 0))]])]), .obj h1.size (.cells none 2 [Ai 0]), .obj h.size (.cells none 2 [.str ([] : List UInt8), .str ([] : List UInt8), Ab 0, Ai 0, Ai 0, Ai 0, .str ([] : List UInt8), .str ([] : List UInt8), Ai 0, Ai 0, Ai 0, Ai 0, .slice none 0, .str ([] : List UInt8)])] F) ?_ ?_
   ·rcases Ax ho with ⟨hb, hm⟩ | ⟨hb, hm⟩
    ·replace H := H.kn 37 hb
     refine AM 5 [(42, .bool true)] H fun fr H => ?_
     obtain rfl := An hm
     exact at_nil ⟨H.ls, A⟩
    replace H := H.kn 37 hb
    refine AV 1 [] 39 0 0 A H fun fr t H => ?_
    obtain ⟨x5, hx, hm⟩ := bind_some hm
    obtain ⟨v1, h8, hr, rfl, A1⟩ := Bo (av := [.str x3.Key, Ab 61]) hx (A.cut 0)
    replace A := A.DN A1
    refine Aw 40 hr H fun fr t H => ?_
    refine AM 2 [(42, .bool (decide (x5 ≥ 0)))] H fun fr H => ?_
    obtain rfl := An hm
    exact at_nil ⟨H.ls, A⟩
   clear A
   intro t fr h7 hK
   obtain ⟨H, A⟩ := hK
   refine AM 1 [(43, .bool x4)] H fun fr H => ?_
   obtain ⟨x6, ho, hm⟩ := bind_some hm
   refine A5 14 (fun fr' h' => Has fr' 59 [(0, vs AE p0), (3, .map (some h2.size)), (12, vs AE p0), (13, Ai (p0.length : Int)), (14, Ai x1), (57, .bool x6)] ∧ HH g h' [.obj h4.size (.cells none 2 [.str x3.Key, .str x3.Value]), .obj h2.size (.map 3 [(.str ([103, 105, 100] : List UInt8), .func (.func 194) [] [.AR [.ptr (some (h.size, 5))]]), (.str ([117, 105, 100] : List UInt8), .func (.func 194) [] [.AR [.ptr (some (h.size, 4))]]), (.str ([115, 105, 122, 101] : List UInt8), .func (.func 194) [] [.AR [.ptr (some (h1.size, 0))]]), (.str ([103, 110, 97, 109, 101] : List UInt8), .func (.func 195) [] [.AR [.ptr (some (h.size, 7))]]), (.str ([117, 110, 97, 109, 101] : List UInt8), .func (.func 195) [] [.AR [.ptr (some (h.size, 6))]]), (.str ([112, 97, 116, 104] : List UInt8), .func (.func 195) [] [.AR [.ptr (some (h.size, 0))]]), (.str ([108, 105, 110, 107, 112, 97, 116, 104] : List UInt8), .func (.func 195) [] [.AR [.ptr (some (h.size, 1))]]), (.str ([109, 116, 105, 109, 101] : List UInt8), .func (.func 142) [] [.AR [.ptr (some (h.size, 0))]])]), .obj h1.size (.cells none 2 [Ai 0]), .obj h.size (.cells none 2 [.str ([] : List UInt8), .str ([] : List UInt8), Ab 0, Ai 0, Ai 0, Ai 0, .str ([] : List UInt8), .str ([] : List UInt8), Ai 0, Ai 0, Ai 0, Ai 0, .slice none 0, .str ([] : List UInt8)])] F) ?_ ?_
   ·rcases Ax ho with ⟨hb, hm⟩ | ⟨hb, hm⟩
    ·replace H := H.kn 43 hb
     refine AM 14 [(57, .bool true)] H fun fr H => ?_
     obtain rfl := An hm
     exact at_nil ⟨H.ls, A⟩
    replace H := H.kn 43 hb
    refine AM 3 [(46, .bool (decide (x1 > 0)))] H fun fr H => ?_
    obtain ⟨x7, ho, hm⟩ := bind_some hm
    refine A5 10 (fun fr' h' => Has fr' 59 [(0, vs AE p0), (3, .map (some h2.size)), (12, vs AE p0), (13, Ai (p0.length : Int)), (14, Ai x1), (43, .bool false), (56, .bool x7)] ∧ HH g h' [.obj h4.size (.cells none 2 [.str x3.Key, .str x3.Value]), .obj h2.size (.map 3 [(.str ([103, 105, 100] : List UInt8), .func (.func 194) [] [.AR [.ptr (some (h.size, 5))]]), (.str ([117, 105, 100] : List UInt8), .func (.func 194) [] [.AR [.ptr (some (h.size, 4))]]), (.str ([115, 105, 122, 101] : List UInt8), .func (.func 194) [] [.AR [.ptr (some (h1.size, 0))]]), (.str ([103, 110, 97, 109, 101] : List UInt8), .func (.func 195) [] [.AR [.ptr (some (h.size, 7))]]), (.str ([117, 110, 97, 109, 101] : List UInt8), .func (.func 195) [] [.AR [.ptr (some (h.size, 6))]]), (.str ([112, 97, 116, 104] : List UInt8), .func (.func 195) [] [.AR [.ptr (some (h.size, 0))]]), (.str ([108, 105, 110, 107, 112, 97, 116, 104] : List UInt8), .func (.func 195) [] [.AR [.ptr (some (h.size, 1))]]), (.str ([109, 116, 105, 109, 101] : List UInt8), .func (.func 142) [] [.AR [.ptr (some (h.size, 0))]])]), .obj h1.size (.cells none 2 [Ai 0]), .obj h.size (.cells none 2 [.str ([] : List UInt8), .str ([] : List UInt8), Ab 0, Ai 0, Ai 0, Ai 0, .str ([] : List UInt8), .str ([] : List UInt8), Ai 0, Ai 0, Ai 0, Ai 0, .slice none 0, .str ([] : List UInt8)])] F) ?_ ?_
    ·rcases Ax ho with ⟨hb, hm⟩ | ⟨hb, hm⟩
     ·replace H := H.kn 46 hb
      obtain ⟨x8, hx, hm⟩ := bind_some hm
      refine BC 3 [] 50 (.AR [.str x8.Key, .str x8.Value]) h7 H (fun fr => .of (OC (e := AE) (x := x8) Am (by decide) (by kernel_rfl) hx)) fun fr t H => ?_
      refine BC 1 [] 52 (.str x8.Key) h7 H (fun fr => .of (Kz (by kernel_rfl))) fun fr t H => ?_
      refine AV 1 [] 54 0 0 A H fun fr t H => ?_
      refine AM 2 [(56, .bool (!(Op.bytesLess x8.Key x3.Key)))] H fun fr H => ?_
      obtain rfl := An hm
      exact at_nil ⟨H.ls, A⟩
     replace H := H.kn 46 hb
     refine AM 10 [(56, .bool false)] H fun fr H => ?_
     obtain rfl := An hm
     exact at_nil ⟨H.ls, A⟩
    clear A
    intro t fr h10 hK
    obtain ⟨H, A⟩ := hK
    refine AM 1 [(57, .bool x7)] H fun fr H => ?_
    obtain rfl := An hm
    exact at_nil ⟨H.ls, A⟩
   clear A
   intro t fr h9 hK
   obtain ⟨H, A⟩ := hK
   refine BI id (AZ 57 H hm (fun hb hm H => ?_) fun hb hm H => ?_)
   ·refine AG 1 (AK 1 [(2, .bool false)] H fun fr H => AS ?_)
    replace A := A.k3 1 2 3
    exact nr hm fun e => Or.inr (.inl ⟨_, rfl, e, H.ls, A⟩)
   refine DI 2 id (Bd 2 [(0, vs AE p0), (3, .map (some h2.size)), (12, vs AE p0), (13, Ai (p0.length : Int)), (14, Ai (IntKind.i64.wrap (x1 + 1)))] H fun fr H => at_nil ?_)
   replace A := A.k3 1 2 3
   exact nx hm ⟨_, rfl, H.ls, A⟩
  refine Bf (i := 0) (by kernel_rfl) ?_
  exact nr hm fun e => .inl ⟨rfl, e, H.ls, A⟩
 clear ho
 clear A
 intro e fr h11 hQ
 rcases hQ with ⟨rfl, rfl, H, A⟩ | ⟨x2, rfl, rfl, H, A⟩ | hF
 ·show AW _ _ _ _ _ _ _
  refine AG 1 (AK 1 [(2, .bool true)] H fun fr H => AS ?_)
  obtain rfl := An hm
  refine ⟨.inl rfl, .bool true, rH H, ?_⟩
  replace A := A.d0
  exact ⟨rfl, A⟩
 ·obtain rfl := An hm
  refine ⟨.inl rfl, .bool x2, rH H, ?_⟩
  replace A := A.d0
  exact ⟨rfl, A⟩
 exact hF.elim
def CB (p0 : Int) (p1 : List Int) (s : Int) : Option ((Int) ⊕ ((Unit) ⊕ (Bool))) :=
 match s with
 | x1 => Ad (decide (x1 < (p1.length : Int))) ((IG p1 x1).bind fun x3 => Ad ((decide (x3 < 0)) || (decide (x3 ≥ p0))) (some (.inr (.inr false))) (some (.inl (IntKind.i64.wrap (x1 + 1))))) (some (.inr (.inl ())))
def CK (p0 : Int) (p1 : List Int) : Option (Bool) :=
 (loop (CB p0 p1) (0 : Int)).bind fun o1 => (match o1 with | .inl _ => some true | .inr x2 => some x2)
theorem Ex {p0 p1 rp1 q0} (hm : CK p0 p1 = some q0) (A : HH g h [.Ak rp1 3 (Ak (eI .i64) p1)] F) (hc : BG (cfg.still 119) av = [Ai p0, Af rp1 p1.length] := by kernel_rfl) : ∃ v h', BH cfg g h 119 av v h' ∧ v = .bool q0 ∧ HH g h' [.Ak rp1 3 (Ak (eI .i64) p1)] F := by
 refine ES 21 [.tmp 4] hc ?_
 clear hc
 unfold CK at hm
 refine bg 21 [(0, Ai p0), (1, Af rp1 p1.length)] fun fr H => ?_
 refine AG 1 (AK 1 [] H fun fr H => AP (AG 3 (AK 3 [(7, Af rp1 p1.length), (8, Ai (p1.length : Int)), (9, Ai 0)] H fun fr H => AY (id := 0) (by kernel_rfl) ?_)))
 obtain ⟨o1, ho, hm⟩ := bind_some hm
 refine BJ (Q' := fun e fr' h' => (e = .exit 0 ∧ .inl () = o1 ∧ Has fr' 21 [] ∧ HH g h' [.Ak rp1 3 (Ak (eI .i64) p1)] F) ∨ (∃ x2, e = .ret ∧ .inr x2 = o1 ∧ Has fr' 21 [(4, .bool x2)] ∧ HH g h' [.Ak rp1 3 (Ak (eI .i64) p1)] F) ∨ False) ?_ ?_
 ·refine Ce (by kernel_rfl) (fun (s : Int) fr' h' => ∃ x1, x1 = s ∧ Has fr' 21 [(0, Ai p0), (7, Af rp1 p1.length), (8, Ai (p1.length : Int)), (9, Ai x1)] ∧ HH g h' [.Ak rp1 3 (Ak (eI .i64) p1)] F) ho ⟨_, rfl, H.ls, A⟩ ?_
  clear ho hm H A
  intro s q fr h1 hI hm
  obtain ⟨x1, rfl, H, A⟩ := hI
  unfold CB at hm
  refine AG 1 (AK 1 [(10, .bool (decide (x1 < (p1.length : Int))))] H fun fr H => AP (AZ 10 H hm (fun hb hm H => ?_) fun hb hm H => ?_))
  ·refine CI id (AP (AY (id := 1) (by kernel_rfl) ?_))
   refine AG 3 ?_
   obtain ⟨x3, hx, hm⟩ := bind_some hm
   obtain ⟨i1, er1, _, hx, hq1⟩ := HH.XQ (encI .i64) (by decide) A 0 (xs := p1) rfl hx
   refine Ae 11 (.ptr (some (i1, x1.toNat * 1))) h1 H (fun fr => .of (LP (s := EF rp1 p1.length) (by kernel_rfl) hx)) fun fr t H => ?_
   refine Ae 12 _ _ H (fun fr => .of (O0 (by kernel_rfl) (NL (encI .i64) (HH.row A 0 rfl er1) hq1 (o := 0) rfl))) fun fr t H => ?_
   refine Bg 1 [(6, Ai x3)] 7 H fun fr H => AM 3 [(15, .bool (decide (x3 < 0)))] H fun fr H => A5 4 (fun fr' h' => h1 = h' ∧ Has fr' 21 [(0, Ai p0), (7, Af rp1 p1.length), (8, Ai (p1.length : Int)), (9, Ai x1), (19, .bool ((decide (x3 < 0)) || (decide (x3 ≥ p0))))]) ?_ ?_
   ·cases hb : (decide (x3 < 0) : Bool) with
    | true =>
     replace H := H.kn 15 hb
     exact AM 4 [(19, .bool true)] H fun fr H => Ao H hb
    | false =>
     replace H := H.kn 15 hb
     exact AM 4 [(19, .bool (decide (x3 ≥ p0)))] H fun fr H => Ao H hb
   intro t fr h' hK
   obtain ⟨e, H⟩ := hK
   subst e
   refine BI id (AZ 19 H hm (fun hb hm H => ?_) fun hb hm H => ?_)
   ·refine AG 1 (AK 1 [(4, .bool false)] H fun fr H => AS ?_)
    exact nr hm fun e => Or.inr (.inl ⟨_, rfl, e, H.ls, A⟩)
   refine DI 2 id (Bd 2 [(0, Ai p0), (7, Af rp1 p1.length), (8, Ai (p1.length : Int)), (9, Ai (IntKind.i64.wrap (x1 + 1)))] H fun fr H => at_nil ?_)
   exact nx hm ⟨_, rfl, H.ls, A⟩
  refine Bf (i := 0) (by kernel_rfl) ?_
  exact nr hm fun e => .inl ⟨rfl, e, H.ls, A⟩
 clear ho
 clear A
 intro e fr h2 hQ
 rcases hQ with ⟨rfl, rfl, H, A⟩ | ⟨x2, rfl, rfl, H, A⟩ | hF
 ·show AW _ _ _ _ _ _ _
  refine AG 1 (AK 1 [(4, .bool true)] H fun fr H => AS ?_)
  obtain rfl := An hm
  exact ⟨.inl rfl, _, rH H, rfl, A⟩
 ·obtain rfl := An hm
  exact ⟨.inl rfl, _, rH H, rfl, A⟩
 exact hF.elim
def Ct (p0 : Ac) : Option (Bool) :=
 some ((((decide (p0.B6 ≥ (-9007199254740991))) && (decide (p0.B6 ≤ 9007199254740991))) && (decide (p0.BA ≥ 0))) && (decide (p0.BA < 1000000000)))
theorem HG {p0 q0} (hm : Ct p0 = some q0) (A : HH g h [] F) (hc : BG (cfg.still 160) av = [.agg [Ai p0.B6, Ai p0.BA]] := by kernel_rfl) : ∃ v h', BH cfg g h 160 av v h' ∧ v = .bool q0 ∧ HH g h' [] F := by
 refine ES 21 [.tmp 2] hc ?_
 clear hc
 unfold Ct at hm
 refine bg 21 [(0, .agg [Ai p0.B6, Ai p0.BA])] fun fr H => ?_
 refine AG 2 ?_
 obtain ⟨h1, e1, A⟩ := A.pu (.cells none 2 [Ai p0.B6, Ai p0.BA])
 refine BK 1 (.ptr (some (h.size, 0))) e1 H fun fr t H => ?_
 refine Bg 1 [] 19 H fun fr H => AV 1 [] 4 0 0 A H fun fr t H => ?_
 refine AM 2 [(6, .bool (decide (p0.B6 ≥ (-9007199254740991))))] H fun fr H => A5 4 (fun fr' h' => h1 = h' ∧ Has fr' 21 [(1, .ptr (some (h.size, 0))), (10, .bool ((decide (p0.B6 ≥ (-9007199254740991))) && (decide (p0.B6 ≤ 9007199254740991))))]) ?_ ?_
 ·cases hb : (decide (p0.B6 ≥ (-9007199254740991)) : Bool) with
  | true =>
   replace H := H.kn 6 hb
   refine AV 1 [] 8 0 0 A H fun fr t H => ?_
   exact AM 2 [(10, .bool (decide (p0.B6 ≤ 9007199254740991)))] H fun fr H => Ao H hb
  | false =>
   replace H := H.kn 6 hb
   exact AM 4 [(10, .bool false)] H fun fr H => Ao H hb
 intro t fr h' hK
 obtain ⟨e, H⟩ := hK
 subst e
 refine AM 1 [(11, .bool ((decide (p0.B6 ≥ (-9007199254740991))) && (decide (p0.B6 ≤ 9007199254740991))))] H fun fr H => A5 4 (fun fr' h' => h1 = h' ∧ Has fr' 21 [(1, .ptr (some (h.size, 0))), (15, .bool (((decide (p0.B6 ≥ (-9007199254740991))) && (decide (p0.B6 ≤ 9007199254740991))) && (decide (p0.BA ≥ 0))))]) ?_ ?_
 ·cases hb : ((decide (p0.B6 ≥ (-9007199254740991))) && (decide (p0.B6 ≤ 9007199254740991)) : Bool) with
  | true =>
   replace H := H.kn 11 hb
   refine AV 1 [] 13 0 1 A H fun fr t H => ?_
   exact AM 2 [(15, .bool (decide (p0.BA ≥ 0)))] H fun fr H => Ao H hb
  | false =>
   replace H := H.kn 11 hb
   exact AM 4 [(15, .bool false)] H fun fr H => Ao H hb
 intro t fr h' hK
 obtain ⟨e, H⟩ := hK
 subst e
 refine AM 1 [(16, .bool (((decide (p0.B6 ≥ (-9007199254740991))) && (decide (p0.B6 ≤ 9007199254740991))) && (decide (p0.BA ≥ 0))))] H fun fr H => A5 4 (fun fr' h' => h1 = h' ∧ Has fr' 21 [(20, .bool ((((decide (p0.B6 ≥ (-9007199254740991))) && (decide (p0.B6 ≤ 9007199254740991))) && (decide (p0.BA ≥ 0))) && (decide (p0.BA < 1000000000))))]) ?_ ?_
 ·cases hb : (((decide (p0.B6 ≥ (-9007199254740991))) && (decide (p0.B6 ≤ 9007199254740991))) && (decide (p0.BA ≥ 0)) : Bool) with
  | true =>
   replace H := H.kn 16 hb
   refine AV 1 [] 18 0 1 A H fun fr t H => ?_
   exact AM 2 [(20, .bool (decide (p0.BA < 1000000000)))] H fun fr H => Ao H hb
  | false =>
   replace H := H.kn 16 hb
   exact AM 4 [(20, .bool false)] H fun fr H => Ao H hb
 intro t fr h' hK
 obtain ⟨e, H⟩ := hK
 subst e
 refine AK 1 [(2, .bool ((((decide (p0.B6 ≥ (-9007199254740991))) && (decide (p0.B6 ≤ 9007199254740991))) && (decide (p0.BA ≥ 0))) && (decide (p0.BA < 1000000000))))] H fun fr H => AS ?_
 obtain rfl := An hm
 refine ⟨.inl rfl, .bool ((((decide (p0.B6 ≥ (-9007199254740991))) && (decide (p0.B6 ≤ 9007199254740991))) && (decide (p0.BA ≥ 0))) && (decide (p0.BA < 1000000000))), rH H, ?_⟩
 replace A := A.d0
 exact ⟨rfl, A⟩
def GC (p0 : AL) (s : Int) : Option ((Int) ⊕ ((Unit) ⊕ (Int))) :=
 match s with
 | x1 => Ad (decide (x1 < (([p0.Name, p0.AU, p0.AN, p0.AO] : List (List UInt8)).length : Int))) ((IG ([p0.Name, p0.AU, p0.AN, p0.AO] : List (List UInt8)) x1).bind fun x3 => (Au x3 (0 : Int)).bind fun x4 => Ad (decide (x4 ≥ 0)) (some (.inr (.inr (2 : Int)))) (some (.inl (IntKind.i64.wrap (x1 + 1))))) (some (.inr (.inl ())))
def Ey (p0 : AL) : Option (Int) :=
 (loop (GC p0) (0 : Int)).bind fun o1 => (match o1 with | .inl _ => (Ad (p0.Name == ([] : List UInt8)) (some true) ((E0 p0.Extra).bind fun x6 => some (!x6)) : Option (Bool)).bind fun x5 => Ad x5 (some (2 : Int)) ((CK (9007199254740992 : Int) ([p0.BP, p0.BQ] : List Int)).bind fun x7 => (Ad (!x7) (some true) ((CK (2097152 : Int) ([p0.Mode, p0.Aa, p0.Ag] : List Int)).bind fun x9 => some (!x9)) : Option (Bool)).bind fun x8 => (Ad x8 (some true) ((Ct p0.Time).bind fun x11 => some (!x11)) : Option (Bool)).bind fun x10 => Ad x10 (some (6 : Int)) (some (0 : Int))) | .inr x2 => some x2)
theorem Nk {p0 q0} (hm : Ey p0 = some q0) (A : HH g h [] F) (hc : BG (cfg.still 96) av = [.agg (AI p0)] := by kernel_rfl) : ∃ v h', BH cfg g h 96 av v h' ∧ v = Ai q0 ∧ HH g h' [] F := by
 refine ES 58 [.tmp 2] hc ?_
 clear hc
 unfold Ey at hm
 refine bg 58 [(0, .agg (AI p0))] fun fr H => ?_
 refine AG 2 ?_
 obtain ⟨h1, e1, A⟩ := A.pu (.cells none 2 (AI p0))
 refine BK 1 (.ptr (some (h.size, 0))) e1 H fun fr t H => ?_
 refine AK 1 [] H fun fr H => AP (AG 11 (AV 1 [] 6 0 0 A H fun fr t H => ?_))
 refine AV 1 [] 8 0 1 A H fun fr t H => ?_
 refine AV 1 [] 10 0 6 A H fun fr t H => ?_
 refine AV 1 [] 12 0 7 A H fun fr t H => ?_
 obtain ⟨h2, e2, A⟩ := A.pL 9 [.str p0.Name, .str p0.AU, .str p0.AN, .str p0.AO]
 refine BK 13 (Af (some h1.size) (([p0.Name, p0.AU, p0.AN, p0.AO] : List (List UInt8)).length)) e2 H fun fr t H => ?_
 refine AK 2 [(14, Ai (([p0.Name, p0.AU, p0.AN, p0.AO] : List (List UInt8)).length : Int)), (15, Ai 0)] H fun fr H => AY (id := 0) (by kernel_rfl) ?_
 replace A : HH g h2 [.Ak (some h1.size) 9 (Ak eS ([p0.Name, p0.AU, p0.AN, p0.AO] : List (List UInt8))), .obj h.size (.cells none 2 (AI p0))] F := A
 obtain ⟨o1, ho, hm⟩ := bind_some hm
 refine BJ (Q' := fun e fr' h' => (e = .exit 0 ∧ .inl () = o1 ∧ Has fr' 58 [(1, .ptr (some (h.size, 0)))] ∧ HH g h' [.obj h.size (.cells none 2 (AI p0))] F) ∨ (∃ x2, e = .ret ∧ .inr x2 = o1 ∧ Has fr' 58 [(2, Ai x2)] ∧ HH g h' [.obj h.size (.cells none 2 (AI p0))] F) ∨ False) ?_ ?_
 ·refine Ce (by kernel_rfl) (fun (s : Int) fr' h' => ∃ x1, x1 = s ∧ Has fr' 58 [(1, .ptr (some (h.size, 0))), (13, Af (some h1.size) (([p0.Name, p0.AU, p0.AN, p0.AO] : List (List UInt8)).length)), (14, Ai (([p0.Name, p0.AU, p0.AN, p0.AO] : List (List UInt8)).length : Int)), (15, Ai x1)] ∧ HH g h' [.Ak (some h1.size) 9 (Ak eS ([p0.Name, p0.AU, p0.AN, p0.AO] : List (List UInt8))), .obj h.size (.cells none 2 (AI p0))] F) ho ⟨_, rfl, H.ls, A⟩ ?_
  clear ho hm H A
  intro s q fr h3 hI hm
  obtain ⟨x1, rfl, H, A⟩ := hI
  unfold GC at hm
  refine AG 1 (AK 1 [(16, .bool (decide (x1 < (([p0.Name, p0.AU, p0.AN, p0.AO] : List (List UInt8)).length : Int))))] H fun fr H => AP (AZ 16 H hm (fun hb hm H => ?_) fun hb hm H => ?_))
  ·refine CI id (AP (AY (id := 1) (by kernel_rfl) ?_))
   refine AG 3 ?_
   obtain ⟨x3, hx, hm⟩ := bind_some hm
   obtain ⟨i1, er1, _, hx, hq1⟩ := HH.XQ encS (by decide) A 0 (xs := ([p0.Name, p0.AU, p0.AN, p0.AO] : List (List UInt8))) rfl hx
   refine Ae 17 (.ptr (some (i1, x1.toNat * 1))) h3 H (fun fr => .of (LP (s := EF (some h1.size) (([p0.Name, p0.AU, p0.AN, p0.AO] : List (List UInt8)).length)) (by kernel_rfl) hx)) fun fr t H => ?_
   refine Ae 18 _ _ H (fun fr => .of (O0 (by kernel_rfl) (NL encS (HH.row A 0 rfl er1) hq1 (o := 0) rfl))) fun fr t H => ?_
   refine Bg 1 [(4, .str x3)] 3 H fun fr H => ?_
   obtain ⟨x4, hx, hm⟩ := bind_some hm
   obtain ⟨v1, h4, hr, rfl, A1⟩ := Bo (av := [.str x3, Ab 0]) hx (A.cut 0)
   replace A := A.DN A1
   refine A6 1 [] 20 hr H fun fr t H => ?_
   refine AK 1 [(21, .bool (decide (x4 ≥ 0)))] H fun fr H => AZ 21 H hm (fun hb hm H => ?_) fun hb hm H => ?_
   ·refine AG 1 (AK 1 [(2, Ai 2)] H fun fr H => AS ?_)
    replace A := A.k1 1
    exact nr hm fun e => Or.inr (.inl ⟨_, rfl, e, H.ls, A⟩)
   refine DI 2 id (Bd 2 [(1, .ptr (some (h.size, 0))), (13, Af (some h1.size) (([p0.Name, p0.AU, p0.AN, p0.AO] : List (List UInt8)).length)), (14, Ai (([p0.Name, p0.AU, p0.AN, p0.AO] : List (List UInt8)).length : Int)), (15, Ai (IntKind.i64.wrap (x1 + 1)))] H fun fr H => at_nil ?_)
   exact nx hm ⟨_, rfl, H.ls, A⟩
  refine Bf (i := 0) (by kernel_rfl) ?_
  replace A := A.k1 1
  exact nr hm fun e => .inl ⟨rfl, e, H.ls, A⟩
 clear ho
 clear A
 intro e fr h5 hQ
 rcases hQ with ⟨rfl, rfl, H, A⟩ | ⟨x2, rfl, rfl, H, A⟩ | hF
 ·show AW _ _ _ _ _ _ _
  refine AP (AY (id := 2) (by kernel_rfl) ?_)
  refine AG 10 (AV 1 [] 25 0 0 A H fun fr t H => ?_)
  refine AM 2 [(27, .bool (p0.Name == ([] : List UInt8)))] H fun fr H => ?_
  obtain ⟨x5, ho, hm⟩ := bind_some hm
  refine A5 5 (fun fr' h' => Has fr' 58 [(1, .ptr (some (h.size, 0))), (32, .bool x5)] ∧ HH g h' [.obj h.size (.cells none 2 (AI p0))] F) ?_ ?_
  ·rcases Ax ho with ⟨hb, hm⟩ | ⟨hb, hm⟩
   ·replace H := H.kn 27 hb
    refine AM 5 [(32, .bool true)] H fun fr H => ?_
    obtain rfl := An hm
    exact at_nil ⟨H.ls, A⟩
   replace H := H.kn 27 hb
   refine AV 1 [] 29 0 12 A H fun fr t H => ?_
   obtain ⟨x6, hx, hm⟩ := bind_some hm
   obtain ⟨v1, h7, hr, rfl, A1⟩ := Nv (av := [vs AE p0.Extra]) hx (A.cut 0)
   replace A := A.DN A1
   refine Aw 30 hr H fun fr t H => ?_
   refine AM 2 [(32, .bool (!x6))] H fun fr H => ?_
   obtain rfl := An hm
   exact at_nil ⟨H.ls, A⟩
  clear A
  intro t fr h6 hK
  obtain ⟨H, A⟩ := hK
  refine AK 1 [(23, .bool x5)] H fun fr H => AZ 23 H hm (fun hb hm H => ?_) fun hb hm H => ?_
  ·refine AG 1 (AK 1 [(2, Ai 2)] H fun fr H => AS ?_)
   obtain rfl := An hm
   refine ⟨.inl rfl, Ai 2, rH H, ?_⟩
   replace A := A.d0
   exact ⟨rfl, A⟩
  refine AG 25 (AV 1 [] 35 0 4 A H fun fr t H => ?_)
  refine AV 1 [] 37 0 5 A H fun fr t H => ?_
  obtain ⟨h8, e3, A⟩ := A.pL 3 [Ai p0.BP, Ai p0.BQ]
  refine BK 38 (Af (some h6.size) (([p0.BP, p0.BQ] : List Int).length)) e3 H fun fr t H => ?_
  replace A : HH g h8 [.Ak (some h6.size) 3 (Ak (eI .i64) ([p0.BP, p0.BQ] : List Int)), _] F := A
  obtain ⟨x7, hx, hm⟩ := bind_some hm
  obtain ⟨v1, h9, hr, rfl, A1⟩ := Ex (av := [Ai 9007199254740992, Af (some h6.size) (([p0.BP, p0.BQ] : List Int).length)]) hx (A.cut 1)
  replace A := A.g11 A1
  refine Aw 39 hr H fun fr t H => ?_
  refine AM 2 [(41, .bool (!x7))] H fun fr H => ?_
  obtain ⟨x8, ho, hm⟩ := bind_some hm
  refine A5 10 (fun fr' h' => Has fr' 58 [(1, .ptr (some (h.size, 0))), (51, .bool x8)] ∧ HH g h' [.obj h.size (.cells none 2 (AI p0))] F) ?_ ?_
  ·rcases Ax ho with ⟨hb, hm⟩ | ⟨hb, hm⟩
   ·replace H := H.kn 41 hb
    refine AM 10 [(51, .bool true)] H fun fr H => ?_
    obtain rfl := An hm
    replace A := A.k1 1
    exact at_nil ⟨H.ls, A⟩
   replace H := H.kn 41 hb
   refine AV 1 [] 43 1 3 A H fun fr t H => ?_
   refine AV 1 [] 45 1 8 A H fun fr t H => ?_
   refine AV 1 [] 47 1 9 A H fun fr t H => ?_
   obtain ⟨h11, e4, A⟩ := A.pL 3 [Ai p0.Mode, Ai p0.Aa, Ai p0.Ag]
   refine BK 48 (Af (some h9.size) (([p0.Mode, p0.Aa, p0.Ag] : List Int).length)) e4 H fun fr t H => ?_
   replace A : HH g h11 [.Ak (some h9.size) 3 (Ak (eI .i64) ([p0.Mode, p0.Aa, p0.Ag] : List Int)), _, _] F := A
   obtain ⟨x9, hx, hm⟩ := bind_some hm
   obtain ⟨v1, h12, hr, rfl, A1⟩ := Ex (av := [Ai 2097152, Af (some h9.size) (([p0.Mode, p0.Aa, p0.Ag] : List Int).length)]) hx (A.cut 1)
   replace A := A.g11 A1
   refine Aw 49 hr H fun fr t H => ?_
   refine AM 2 [(51, .bool (!x9))] H fun fr H => ?_
   obtain rfl := An hm
   replace A := A.k1 2
   exact at_nil ⟨H.ls, A⟩
  clear A
  intro t fr h10 hK
  obtain ⟨H, A⟩ := hK
  refine AM 1 [(52, .bool x8)] H fun fr H => ?_
  obtain ⟨x10, ho, hm⟩ := bind_some hm
  refine A5 5 (fun fr' h' => Has fr' 58 [(57, .bool x10)] ∧ HH g h' [.obj h.size (.cells none 2 (AI p0))] F) ?_ ?_
  ·rcases Ax ho with ⟨hb, hm⟩ | ⟨hb, hm⟩
   ·replace H := H.kn 52 hb
    refine AM 5 [(57, .bool true)] H fun fr H => ?_
    obtain rfl := An hm
    exact at_nil ⟨H.ls, A⟩
   replace H := H.kn 52 hb
   refine BC 1 [] 54 _ _ H (fun fr => .of (BM (by kernel_rfl) (A.Eh 0 rfl (o := 10) (n := 2) ⟨Nat.le_of_ble_eq_true rfl, rfl⟩))) fun fr t H => ?_
   obtain ⟨x11, hx, hm⟩ := bind_some hm
   obtain ⟨v1, h14, hr, rfl, A1⟩ := HG (av := [.agg [Ai p0.Time.B6, Ai p0.Time.BA]]) hx (A.cut 0)
   replace A := A.DN A1
   refine Aw 55 hr H fun fr t H => ?_
   refine AM 2 [(57, .bool (!x11))] H fun fr H => ?_
   obtain rfl := An hm
   exact at_nil ⟨H.ls, A⟩
  clear A
  intro t fr h13 hK
  obtain ⟨H, A⟩ := hK
  refine AK 1 [(33, .bool x10)] H fun fr H => AZ 33 H hm (fun hb hm H => ?_) fun hb hm H => ?_
  ·refine AG 1 (AK 1 [(2, Ai 6)] H fun fr H => AS ?_)
   obtain rfl := An hm
   refine ⟨.inl rfl, Ai 6, rH H, ?_⟩
   replace A := A.d0
   exact ⟨rfl, A⟩
  refine Br 1 id (AK 1 [(2, Ai 0)] H fun fr H => AS ?_)
  obtain rfl := An hm
  refine ⟨.inl rfl, Ai 0, rH H, ?_⟩
  replace A := A.d0
  exact ⟨rfl, A⟩
 ·obtain rfl := An hm
  refine ⟨.inl rfl, Ai x2, rH H, ?_⟩
  replace A := A.d0
  exact ⟨rfl, A⟩
 exact hF.elim
def EL (p0 : AL) (p1 : Int) : Option (Int) :=
 (Ey p0).bind fun x1 => Ad (x1 != 0) (some x1) ((CK (9007199254740992 : Int) ([p1] : List Int)).bind fun x2 => Ad (!x2) (some (6 : Int)) (some (0 : Int)))
theorem Jn {p0 p1 q0} (hm : EL p0 p1 = some q0) (A : HH g h [] F) (hc : BG (cfg.still 65) av = [.agg (AI p0), Ai p1] := by kernel_rfl) : ∃ v h', BH cfg g h 65 av v h' ∧ v = Ai q0 ∧ HH g h' [] F := by
 refine ES 15 [.tmp 4] hc ?_
 clear hc
 unfold EL at hm
 refine bg 15 [(0, .agg (AI p0)), (1, Ai p1)] fun fr H => ?_
 refine AG 2 ?_
 obtain ⟨h1, e1, A⟩ := A.pu (.cells none 2 (AI p0))
 refine BK 2 (.ptr (some (h.size, 0))) e1 H fun fr t H => ?_
 refine AK 1 [] H fun fr H => AP (AG 3 (Ae 6 _ _ H (fun fr => .of (BM (by kernel_rfl) (A.Eh 0 rfl (o := 0) (n := 14) ⟨Nat.le_of_ble_eq_true rfl, rfl⟩))) fun fr t H => ?_))
 obtain ⟨x1, hx, hm⟩ := bind_some hm
 obtain ⟨v1, h2, hr, rfl, A1⟩ := Nk (av := [.agg (AI p0)]) hx (A.cut 0)
 replace A : HH g h2 [.obj h.size (.cells none 2 (AI p0))] F := A.Fp (n := 0) A1
 refine Aw 7 hr H fun fr t H => ?_
 refine Bg 1 [(5, Ai x1)] 2 H fun fr H => AK 2 [(9, .bool (x1 != 0))] H fun fr H => AZ 9 H hm (fun hb hm H => ?_) fun hb hm H => ?_
 ·refine AG 2 (AK 2 [(4, Ai x1)] H fun fr H => AS ?_)
  obtain rfl := An hm
  refine ⟨.inl rfl, Ai x1, rH H, ?_⟩
  replace A := A.d0
  exact ⟨rfl, A⟩
 refine CI id (AP (AG 4 (AM 1 [(11, Ai p1)] H fun fr H => ?_)))
 obtain ⟨h3, e2, A⟩ := A.pL 3 [Ai p1]
 refine BK 12 (Af (some h2.size) (([p1] : List Int).length)) e2 H fun fr t H => ?_
 replace A : HH g h3 [.Ak (some h2.size) 3 (Ak (eI .i64) ([p1] : List Int)), _] F := A
 obtain ⟨x2, hx, hm⟩ := bind_some hm
 obtain ⟨v1, h4, hr, rfl, A1⟩ := Ex (av := [Ai 9007199254740992, Af (some h2.size) (([p1] : List Int).length)]) hx (A.cut 1)
 replace A := A.g11 A1
 refine Aw 13 hr H fun fr t H => ?_
 refine AK 1 [(14, .bool (!x2))] H fun fr H => AZ 14 H hm (fun hb hm H => ?_) fun hb hm H => ?_
 ·refine AG 1 (AK 1 [(4, Ai 6)] H fun fr H => AS ?_)
  obtain rfl := An hm
  refine ⟨.inl rfl, Ai 6, rH H, ?_⟩
  replace A := A.d0
  exact ⟨rfl, A⟩
 refine Br 1 id (AK 1 [(4, Ai 0)] H fun fr H => AS ?_)
 obtain rfl := An hm
 refine ⟨.inl rfl, Ai 0, rH H, ?_⟩
 replace A := A.d0
 exact ⟨rfl, A⟩
def FC (p0 : AJ) (p1 : AL) : Option (AJ) :=
 some (⟨p0.Name, p0.AU, p0.Kind, p0.Mode, p0.BP, p1.BQ, p0.BU, p0.Time, p0.AN, p0.AO, p0.Aa, p0.Ag, p0.Form⟩ : AJ)
theorem KQ {p0 p1 bp0 bp1 u0} (hm : FC p0 p1 = some u0) (A : HH g h [.obj bp0 (.cells none 2 (AF p0)), .obj bp1 (.cells none 2 (AI p1))] F) (hc : BG (cfg.still 122) av = [.ptr (some (bp0, 0)), .ptr (some (bp1, 0))] := by kernel_rfl) : ∃ v h', BH cfg g h 122 av v h' ∧ v = .tuple [] ∧ HH g h' [.obj bp0 (.cells none 2 (AF u0)), .obj bp1 (.cells none 2 (AI p1))] F := by
 refine ES 8 [] hc ?_
 clear hc
 unfold FC at hm
 refine bg 8 [(0, .ptr (some (bp0, 0))), (1, .ptr (some (bp1, 0)))] fun fr H => ?_
 refine CX 6 (AV 2 [(3, .ptr (some (bp0, 0)))] 5 1 5 A H fun fr t H => ?_)
 obtain ⟨h1, hx, A⟩ := A.s0 5 [Ai p1.BQ] [_, _, _, _, _, _, _, _, _, _, _, _, _]
 refine CF 2 [] hx H fun fr t H => ?_
 refine at_nil ?_
 obtain rfl := An hm
 refine ⟨.inr rfl, .tuple [], rH H, ?_⟩
 exact ⟨rfl, A⟩
def CU (p0 : List UInt8) (p1 : Int) (s : Int) : Option ((Int) ⊕ ((Unit) ⊕ (Int))) :=
 match s with
 | x1 => Ad (decide (x1 ≥ 0)) ((LN p0 x1).bind fun x3 => Ad (x3 == p1) (some (.inr (.inr x1))) (some (.inl (IntKind.i64.wrap (x1 - 1))))) (some (.inr (.inl ())))
def B9 (p0 : List UInt8) (p1 : Int) : Option (Int) :=
 (loop (CU p0 p1) (IntKind.i64.wrap ((p0.length : Int) - 1))).bind fun o1 => (match o1 with | .inl _ => some (-1 : Int) | .inr x2 => some x2)
theorem GF {p0 p1 q0} (hm : B9 p0 p1 = some q0) (A : HH g h [] F) (hc : BG (cfg.still 225) av = [.str p0, Ab p1] := by kernel_rfl) : ∃ v h', BH cfg g h 225 av v h' ∧ v = Ai q0 ∧ HH g h' [] F := by
 refine ES 19 [.tmp 4] hc ?_
 clear hc
 unfold B9 at hm
 refine bg 19 [(0, .str p0), (1, Ab p1)] fun fr H => ?_
 refine AG 1 (AK 1 [] H fun fr H => AP (AG 4 (AK 4 [(5, Ai (IntKind.i64.wrap ((p0.length : Int) - 1)))] H fun fr H => AY (id := 0) (by kernel_rfl) ?_)))
 obtain ⟨o1, ho, hm⟩ := bind_some hm
 refine BJ (Q' := fun e fr' h' => (e = .exit 0 ∧ .inl () = o1 ∧ Has fr' 19 [] ∧ HH g h' [] F) ∨ (∃ x2, e = .ret ∧ .inr x2 = o1 ∧ Has fr' 19 [(4, Ai x2)] ∧ HH g h' [] F) ∨ False) ?_ ?_
 ·refine Ce (by kernel_rfl) (fun (s : Int) fr' h' => ∃ x1, x1 = s ∧ Has fr' 19 [(0, .str p0), (1, Ab p1), (5, Ai x1)] ∧ HH g h' [] F) ho ⟨_, rfl, H.ls, A⟩ ?_
  clear ho hm H A
  intro s q fr h1 hI hm
  obtain ⟨x1, rfl, H, A⟩ := hI
  unfold CU at hm
  refine AP (AG 2 (AK 2 [(10, .bool (decide (x1 ≥ 0)))] H fun fr H => AZ 10 H hm (fun hb hm H => ?_) fun hb hm H => ?_))
  ·refine CI id (AP (AY (id := 1) (by kernel_rfl) ?_))
   refine AG 5 ?_
   obtain ⟨x3, hx, hm⟩ := bind_some hm
   refine BC 2 [] 15 (Ab x3) h1 H (fun fr => .of (EW (by kernel_rfl) hx)) fun fr t H => ?_
   refine AK 2 [(17, .bool (x3 == p1))] H fun fr H => AZ 17 H hm (fun hb hm H => ?_) fun hb hm H => ?_
   ·refine AG 2 (AK 2 [(4, Ai x1)] H fun fr H => AS ?_)
    exact nr hm fun e => Or.inr (.inl ⟨_, rfl, e, H.ls, A⟩)
   refine DI 3 id (Bd 3 [(0, .str p0), (1, Ab p1), (5, Ai (IntKind.i64.wrap (x1 - 1)))] H fun fr H => at_nil ?_)
   exact nx hm ⟨_, rfl, H.ls, A⟩
  refine Bf (i := 0) (by kernel_rfl) ?_
  exact nr hm fun e => .inl ⟨rfl, e, H.ls, A⟩
 clear ho
 clear A
 intro e fr h2 hQ
 rcases hQ with ⟨rfl, rfl, H, A⟩ | ⟨x2, rfl, rfl, H, A⟩ | hF
 ·show AW _ _ _ _ _ _ _
  refine AG 1 (AK 1 [(4, Ai (-1))] H fun fr H => AS ?_)
  obtain rfl := An hm
  exact ⟨.inl rfl, _, rH H, rfl, A⟩
 ·obtain rfl := An hm
  exact ⟨.inl rfl, _, rH H, rfl, A⟩
 exact hF.elim
def Bj (p0 : List UInt8) (p1 : Int) : Option (Int) :=
 (B9 p0 p1).bind fun x1 => some x1
theorem Ez {p0 p1 q0} (hm : Bj p0 p1 = some q0) (A : HH g h [] F) (hc : BG (cfg.still 190) av = [.str p0, Ab p1] := by kernel_rfl) : ∃ v h', BH cfg g h 190 av v h' ∧ v = Ai q0 ∧ HH g h' [] F := by
 refine ES 8 [.tmp 4] hc ?_
 clear hc
 unfold Bj at hm
 refine bg 8 [(0, .str p0), (1, Ab p1)] fun fr H => ?_
 refine AG 1 (Bg 1 [] 4 H fun fr H => ?_)
 obtain ⟨x1, hx, hm⟩ := bind_some hm
 obtain ⟨v1, h1, hr, rfl, A1⟩ := GF (av := [.str p0, Ab p1]) hx (A.cut 0)
 replace A := A.DN A1
 refine A6 2 [] 7 hr H fun fr t H => ?_
 refine AK 1 [(4, Ai x1)] H fun fr H => AS ?_
 obtain rfl := An hm
 exact ⟨.inl rfl, _, rH H, rfl, A⟩
def HT (p0 : List UInt8) (s : Int) : Option ((Int) ⊕ ((Int))) :=
 match s with
 | x3 => Ad ((decide (x3 > 0)) && (x3 == (IntKind.i64.wrap ((p0.length : Int) - 1)))) ((FF p0 none (some x3)).bind fun x5 => (Bj x5 (47 : Int)).bind fun x6 => some (.inl x6)) (some (.inr x3))
def Cy (p0 : List UInt8) : Option ((List UInt8) × (List UInt8) × Bool) :=
 Ad (decide ((p0.length : Int) ≤ 100)) (some (([] : List UInt8), p0, true)) ((FF p0 none (some (mn (p0.length : Int) (156 : Int)))).bind fun x1 => (Bj x1 (47 : Int)).bind fun x2 => (loop (HT p0) x2).bind fun x4 => Ad ((decide (x4 < 1)) || (decide ((IntKind.i64.wrap ((IntKind.i64.wrap ((p0.length : Int) - x4)) - 1)) > 100))) (some (([] : List UInt8), ([] : List UInt8), false)) ((FF p0 none (some x4)).bind fun x7 => (FF p0 (some (IntKind.i64.wrap (x4 + 1))) none).bind fun x8 => some (x7, x8, true)))
theorem QM {p0 q0 q1 q2} (hm : Cy p0 = some (q0, q1, q2)) (A : HH g h [] F) (hc : BG (cfg.still 135) av = [.str p0] := by kernel_rfl) : ∃ v h', BH cfg g h 135 av v h' ∧ v = .tuple [.str q0, .str q1, .bool q2] ∧ HH g h' [] F := by
 refine ES 46 [.tmp 2, .tmp 3, .tmp 4] hc ?_
 clear hc
 unfold Cy at hm
 refine bg 46 [(0, .str p0)] fun fr H => ?_
 refine AG 3 (AK 3 [] H fun fr H => AP (AG 3 (AK 3 [(8, .bool (decide ((p0.length : Int) ≤ 100)))] H fun fr H => AZ 8 H hm (fun hb hm H => ?_) fun hb hm H => ?_)))
 ·refine AG 4 (AK 4 [(2, .str ([] : List UInt8)), (3, .str p0), (4, .bool true)] H fun fr H => AS ?_)
  obtain ⟨rfl, rfl, rfl⟩ := Uz hm
  exact ⟨.inl rfl, _, rH H, rfl, A⟩
 refine Br 7 id ?_
 obtain ⟨x1, hx, hm⟩ := bind_some hm
 refine BC 4 [] 14 (.str x1) h H (fun fr => .of (Fe (k := .i64) (k' := .i64) (lo := none) (hi := (some (mn (p0.length : Int) (156 : Int)))) (by kernel_rfl) hx)) fun fr t H => ?_
 obtain ⟨x2, hx, hm⟩ := bind_some hm
 obtain ⟨v1, h1, hr, rfl, A1⟩ := Ez (av := [.str x1, Ab 47]) hx (A.cut 0)
 replace A := A.DN A1
 refine Aw 15 hr H fun fr t H => ?_
 refine AK 1 [(5, Ai x2)] H fun fr H => AP (AY (id := 0) (by kernel_rfl) ?_)
 obtain ⟨o1, ho, hm⟩ := bind_some hm
 refine BJ (Q' := fun e fr' h' => (∃ x4, e = .exit 0 ∧ x4 = o1 ∧ Has fr' 46 [(0, .str p0), (5, Ai x4)] ∧ HH g h' [] F) ∨ False) ?_ ?_
 ·refine Ce (by kernel_rfl) (fun (s : Int) fr' h' => ∃ x3, x3 = s ∧ Has fr' 46 [(0, .str p0), (5, Ai x3)] ∧ HH g h' [] F) ho ⟨_, rfl, H.ls, A⟩ ?_
  clear ho hm H A
  intro s q fr h2 hI hm
  obtain ⟨x3, rfl, H, A⟩ := hI
  unfold HT at hm
  refine AP (AG 9 (AM 3 [(18, .bool (decide (x3 > 0)))] H fun fr H => A5 6 (fun fr' h' => h2 = h' ∧ Has fr' 46 [(0, .str p0), (5, Ai x3), (24, .bool ((decide (x3 > 0)) && (x3 == (IntKind.i64.wrap ((p0.length : Int) - 1)))))]) ?_ ?_))
  ·cases hb : (decide (x3 > 0) : Bool) with
   | true =>
    replace H := H.kn 18 hb
    exact AM 6 [(24, .bool (x3 == (IntKind.i64.wrap ((p0.length : Int) - 1))))] H fun fr H => Ao H hb
   | false =>
    replace H := H.kn 18 hb
    exact AM 6 [(24, .bool false)] H fun fr H => Ao H hb
  intro t fr h' hK
  obtain ⟨e, H⟩ := hK
  subst e
  refine BI id (AZ 24 H hm (fun hb hm H => ?_) fun hb hm H => ?_)
  ·refine CI id (AY (id := 1) (by kernel_rfl) ?_)
   refine CX 5 ?_
   obtain ⟨x5, hx, hm⟩ := bind_some hm
   refine BC 2 [] 27 (.str x5) h2 H (fun fr => .of (Fe (k := .i64) (k' := .i64) (lo := none) (hi := (some x3)) (by kernel_rfl) hx)) fun fr t H => ?_
   obtain ⟨x6, hx, hm⟩ := bind_some hm
   obtain ⟨v1, h3, hr, rfl, A1⟩ := Ez (av := [.str x5, Ab 47]) hx (A.cut 0)
   replace A := A.DN A1
   refine Aw 28 hr H fun fr t H => ?_
   refine Bd 1 [(0, .str p0), (5, Ai x6)] H fun fr H => at_nil ?_
   exact nx hm ⟨_, rfl, H.ls, A⟩
  refine Bf (i := 0) (by kernel_rfl) ?_
  exact nr hm fun e => .inl ⟨_, rfl, e, H.ls, A⟩
 clear ho
 clear A
 intro e fr h4 hQ
 rcases hQ with ⟨x4, rfl, rfl, H, A⟩ | hF
 ·show AW _ _ _ _ _ _ _
  refine AP (AG 10 (AM 3 [(31, .bool (decide (x4 < 1)))] H fun fr H => A5 7 (fun fr' h' => h4 = h' ∧ Has fr' 46 [(0, .str p0), (5, Ai x4), (38, .bool ((decide (x4 < 1)) || (decide ((IntKind.i64.wrap ((IntKind.i64.wrap ((p0.length : Int) - x4)) - 1)) > 100))))]) ?_ ?_))
  ·cases hb : (decide (x4 < 1) : Bool) with
   | true =>
    replace H := H.kn 31 hb
    exact AM 7 [(38, .bool true)] H fun fr H => Ao H hb
   | false =>
    replace H := H.kn 31 hb
    exact AM 7 [(38, .bool (decide ((IntKind.i64.wrap ((IntKind.i64.wrap ((p0.length : Int) - x4)) - 1)) > 100)))] H fun fr H => Ao H hb
  intro t fr h' hK
  obtain ⟨e, H⟩ := hK
  subst e
  refine BI id (AZ 38 H hm (fun hb hm H => ?_) fun hb hm H => ?_)
  ·refine AG 3 (AK 3 [(2, .str ([] : List UInt8)), (3, .str ([] : List UInt8)), (4, .bool false)] H fun fr H => AS ?_)
   obtain ⟨rfl, rfl, rfl⟩ := Uz hm
   exact ⟨.inl rfl, _, rH H, rfl, A⟩
  refine CI id (AP (JF 8 10 ?_))
  obtain ⟨x7, hx, hm⟩ := bind_some hm
  refine BC 2 [] 41 (.str x7) h4 H (fun fr => .of (Fe (k := .i64) (k' := .i64) (lo := none) (hi := (some x4)) (by kernel_rfl) hx)) fun fr t H => ?_
  obtain ⟨x8, hx, hm⟩ := bind_some hm
  refine BC 3 [] 45 (.str x8) h4 H (fun fr => .of (Fe (k := .i64) (k' := .i64) (lo := (some (IntKind.i64.wrap (x4 + 1)))) (hi := none) (by kernel_rfl) hx)) fun fr t H => ?_
  refine AK 3 [(2, .str x7), (3, .str x8), (4, .bool true)] H fun fr H => AS ?_
  obtain ⟨rfl, rfl, rfl⟩ := Uz hm
  exact ⟨.inl rfl, _, rH H, rfl, A⟩
 exact hF.elim
def BT (p0 : AJ) : Option ((List (Int × (List UInt8))) × Bool) :=
 (Cy p0.Name).bind fun (x1, x2, x3) => some ((Bb (Bb (Bb (Bb (Bb ([] : List (Int × (List UInt8))) (0 : Int) x2) (11 : Int) x1) (6 : Int) p0.AU) (7 : Int) p0.AN) (8 : Int) p0.AO), x3)
theorem JE {p0 q0 q1} (hm : BT p0 = some (q0, q1)) (A : HH g h [] F) (hc : BG (cfg.still 71) av = [.agg (AF p0)] := by kernel_rfl) : ∃ v h', BH cfg g h 71 av v h' ∧ ∃ (bq0 : Nat), v = .tuple [.map (some bq0), .bool q1] ∧ HH g h' [.obj bq0 (.map 2 (DQ (fun k : Int => Ai k) (fun v : List UInt8 => .str v) q0))] F := by
 refine ES 25 [.tmp 2, .tmp 3] hc ?_
 clear hc
 unfold BT at hm
 refine bg 25 [(0, .agg (AF p0))] fun fr H => ?_
 refine AG 3 ?_
 obtain ⟨h1, e1, A⟩ := A.pu (.cells none 2 (AF p0))
 refine BK 1 (.ptr (some (h.size, 0))) e1 H fun fr t H => ?_
 refine Bg 2 [] 10 H fun fr H => AV 1 [] 9 0 0 A H fun fr t H => ?_
 obtain ⟨⟨x1, x2, x3⟩, hx, hm⟩ := bind_some hm
 obtain ⟨v1, h2, hr, rfl, A1⟩ := QM (av := [.str p0.Name]) hx (A.cut 0)
 replace A : HH g h2 [.obj h.size (.cells none 2 (AF p0))] F := A.Fp (n := 0) A1
 refine Aw 10 hr H fun fr t H => ?_
 refine Bg 7 [(4, .str x1), (5, .str x2), (6, .bool x3)] 18 H fun fr H => ?_
 obtain ⟨h3, e2⟩ : ∃ x, x = h2.push (.map 2 []) := ⟨_, rfl⟩
 replace A : HH g h3 [.obj h2.size (.map 2 (DQ (fun k : Int => Ai k) (fun v : List UInt8 => .str v) ([] : List (Int × (List UInt8))))), _] F := (A.push _).to e2
 refine BK 14 (.map (some h2.size)) e2 H fun fr t H => ?_
 refine AM 1 [(15, .str x2)] H fun fr H => ?_
 obtain ⟨h4, hx, A1⟩ := HH.MU (kt := 3) (et := 9) (ek := fun k : Int => Ai k) (ev := fun v : List UInt8 => .str v) (M9 (by kernel_rfl)) A 0 rfl (t := 122) (by kernel_rfl) (0 : Int) x2
 replace A : HH g h4 [.obj h2.size (.map 2 (DQ (fun k : Int => Ai k) (fun v : List UInt8 => .str v) (Bb ([] : List (Int × (List UInt8))) (0 : Int) x2))), _] F := A1
 refine Fv (.tuple []) h4 H (fun fr => .of (Lx (by kernel_rfl) hx)) fun fr t H => ?_
 refine AM 1 [(16, .str x1)] H fun fr H => ?_
 obtain ⟨h5, hx, A1⟩ := HH.MU (kt := 3) (et := 9) (ek := fun k : Int => Ai k) (ev := fun v : List UInt8 => .str v) (M9 (by kernel_rfl)) A 0 rfl (t := 122) (by kernel_rfl) (11 : Int) x1
 replace A : HH g h5 [.obj h2.size (.map 2 (DQ (fun k : Int => Ai k) (fun v : List UInt8 => .str v) (Bb (Bb ([] : List (Int × (List UInt8))) (0 : Int) x2) (11 : Int) x1))), _] F := A1
 refine Fv (.tuple []) h5 H (fun fr => .of (Lx (by kernel_rfl) hx)) fun fr t H => ?_
 refine AV 1 [] 18 1 1 A H fun fr t H => ?_
 obtain ⟨h6, hx, A1⟩ := HH.MU (kt := 3) (et := 9) (ek := fun k : Int => Ai k) (ev := fun v : List UInt8 => .str v) (M9 (by kernel_rfl)) A 0 rfl (t := 122) (by kernel_rfl) (6 : Int) p0.AU
 replace A : HH g h6 [.obj h2.size (.map 2 (DQ (fun k : Int => Ai k) (fun v : List UInt8 => .str v) (Bb (Bb (Bb ([] : List (Int × (List UInt8))) (0 : Int) x2) (11 : Int) x1) (6 : Int) p0.AU))), _] F := A1
 refine Fv (.tuple []) h6 H (fun fr => .of (Lx (by kernel_rfl) hx)) fun fr t H => ?_
 refine AV 1 [] 20 1 8 A H fun fr t H => ?_
 obtain ⟨h7, hx, A1⟩ := HH.MU (kt := 3) (et := 9) (ek := fun k : Int => Ai k) (ev := fun v : List UInt8 => .str v) (M9 (by kernel_rfl)) A 0 rfl (t := 122) (by kernel_rfl) (7 : Int) p0.AN
 replace A : HH g h7 [.obj h2.size (.map 2 (DQ (fun k : Int => Ai k) (fun v : List UInt8 => .str v) (Bb (Bb (Bb (Bb ([] : List (Int × (List UInt8))) (0 : Int) x2) (11 : Int) x1) (6 : Int) p0.AU) (7 : Int) p0.AN))), _] F := A1
 refine Fv (.tuple []) h7 H (fun fr => .of (Lx (by kernel_rfl) hx)) fun fr t H => ?_
 refine AV 1 [] 22 1 9 A H fun fr t H => ?_
 obtain ⟨h8, hx, A1⟩ := HH.MU (kt := 3) (et := 9) (ek := fun k : Int => Ai k) (ev := fun v : List UInt8 => .str v) (M9 (by kernel_rfl)) A 0 rfl (t := 122) (by kernel_rfl) (8 : Int) p0.AO
 replace A : HH g h8 [.obj h2.size (.map 2 (DQ (fun k : Int => Ai k) (fun v : List UInt8 => .str v) (Bb (Bb (Bb (Bb (Bb ([] : List (Int × (List UInt8))) (0 : Int) x2) (11 : Int) x1) (6 : Int) p0.AU) (7 : Int) p0.AN) (8 : Int) p0.AO))), _] F := A1
 refine Fv (.tuple []) h8 H (fun fr => .of (Lx (by kernel_rfl) hx)) fun fr t H => ?_
 refine AK 4 [(2, .map (some h2.size)), (3, .bool x3)] H fun fr H => AS ?_
 obtain ⟨rfl, rfl⟩ := BD hm
 refine ⟨.inl rfl, .tuple [.map (some h2.size), .bool x3], rH H, ?_⟩
 replace A := A.d1
 exact ⟨h2.size, rfl, A⟩
def CY : Option (GB) :=
 some (⟨(⟨(0 : Int), (100 : Int)⟩ : Aj), (⟨(100 : Int), (8 : Int)⟩ : Aj), (⟨(108 : Int), (8 : Int)⟩ : Aj), (⟨(116 : Int), (8 : Int)⟩ : Aj), (⟨(124 : Int), (12 : Int)⟩ : Aj), (⟨(136 : Int), (12 : Int)⟩ : Aj), (⟨(157 : Int), (100 : Int)⟩ : Aj), (⟨(265 : Int), (32 : Int)⟩ : Aj), (⟨(297 : Int), (32 : Int)⟩ : Aj), (⟨(329 : Int), (8 : Int)⟩ : Aj), (⟨(337 : Int), (8 : Int)⟩ : Aj), (⟨(345 : Int), (155 : Int)⟩ : Aj)⟩ : GB)
theorem DO {q0} (hm : CY = some q0) (A : HH g h [] F) (hc : BG (cfg.still 72) av = [] := by kernel_rfl) : ∃ v h', BH cfg g h 72 av v h' ∧ v = .agg (K3 q0) ∧ HH g h' [] F := by
 refine ES 14 [.cell 0 127] hc ?_
 clear hc
 unfold CY at hm
 refine bg 14 [] fun fr H => ?_
 refine AG 1 ?_
 obtain ⟨h1, e1, A⟩ := A.pu (.cells none 2 [Ai 0, Ai 0, Ai 0, Ai 0, Ai 0, Ai 0, Ai 0, Ai 0, Ai 0, Ai 0, Ai 0, Ai 0, Ai 0, Ai 0, Ai 0, Ai 0, Ai 0, Ai 0, Ai 0, Ai 0, Ai 0, Ai 0, Ai 0, Ai 0])
 refine BK 0 (.ptr (some (h.size, 0))) e1 H fun fr t H => ?_
 refine CJ 14 id ?_
 obtain ⟨h2, hx, A⟩ := A.s0 0 [Ai 0, Ai 100, Ai 100, Ai 8, Ai 108, Ai 8, Ai 116, Ai 8, Ai 124, Ai 12, Ai 136, Ai 12, Ai 157, Ai 100, Ai 265, Ai 32, Ai 297, Ai 32, Ai 329, Ai 8, Ai 337, Ai 8, Ai 345, Ai 155] [_, _, _, _, _, _, _, _, _, _, _, _, _, _, _, _, _, _, _, _, _, _, _, _]
 refine Es 13 [] hx H fun fr t H => ?_
 refine BI id (AS ?_)
 obtain rfl := An hm
 refine ⟨.inl rfl, .agg [Ai 0, Ai 100, Ai 100, Ai 8, Ai 108, Ai 8, Ai 116, Ai 8, Ai 124, Ai 12, Ai 136, Ai 12, Ai 157, Ai 100, Ai 265, Ai 32, Ai 297, Ai 32, Ai 329, Ai 8, Ai 337, Ai 8, Ai 345, Ai 155], LQ (.cell (rT H) (CL (by kernel_rfl) (by kernel_rfl) (A.la 0 0 24)) .nil), ?_⟩
 replace A := A.d0
 exact ⟨rfl, A⟩
def FV (p0 : Int) : Option (Bool) :=
 some ((decide (p0 ≥ 2)) && (decide (p0 ≤ 12)))
theorem Lp {p0 q0} (hm : FV p0 = some q0) (A : HH g h [] F) (hc : BG (cfg.still 136) av = [Ai p0] := by kernel_rfl) : ∃ v h', BH cfg g h 136 av v h' ∧ v = .bool q0 ∧ HH g h' [] F := by
 refine ES 9 [.tmp 2] hc ?_
 clear hc
 unfold FV at hm
 refine bg 9 [(0, Ai p0)] fun fr H => ?_
 refine AG 1 (Bg 1 [] 7 H fun fr H => AM 3 [(5, .bool (decide (p0 ≥ 2)))] H fun fr H => A5 3 (fun fr' h' => h = h' ∧ Has fr' 9 [(8, .bool ((decide (p0 ≥ 2)) && (decide (p0 ≤ 12))))]) ?_ ?_)
 ·cases hb : (decide (p0 ≥ 2) : Bool) with
  | true =>
   replace H := H.kn 5 hb
   exact AM 3 [(8, .bool (decide (p0 ≤ 12)))] H fun fr H => Ao H hb
  | false =>
   replace H := H.kn 5 hb
   exact AM 3 [(8, .bool false)] H fun fr H => Ao H hb
 intro t fr h' hK
 obtain ⟨e, H⟩ := hK
 subst e
 refine AK 1 [(2, .bool ((decide (p0 ≥ 2)) && (decide (p0 ≤ 12))))] H fun fr H => AS ?_
 obtain rfl := An hm
 exact ⟨.inl rfl, _, rH H, rfl, A⟩
def FH (p0 : AJ) (p1 : AL) : Option (AJ) :=
 some (⟨p0.Name, p0.AU, p0.Kind, p0.Mode, p0.BP, p0.BQ, p0.BU, p0.Time, p0.AN, p1.AO, p0.Aa, p0.Ag, p0.Form⟩ : AJ)
theorem KR {p0 p1 bp0 bp1 u0} (hm : FH p0 p1 = some u0) (A : HH g h [.obj bp0 (.cells none 2 (AF p0)), .obj bp1 (.cells none 2 (AI p1))] F) (hc : BG (cfg.still 123) av = [.ptr (some (bp0, 0)), .ptr (some (bp1, 0))] := by kernel_rfl) : ∃ v h', BH cfg g h 123 av v h' ∧ v = .tuple [] ∧ HH g h' [.obj bp0 (.cells none 2 (AF u0)), .obj bp1 (.cells none 2 (AI p1))] F := by
 refine ES 8 [] hc ?_
 clear hc
 unfold FH at hm
 refine bg 8 [(0, .ptr (some (bp0, 0))), (1, .ptr (some (bp1, 0)))] fun fr H => ?_
 refine CX 6 (AV 2 [(3, .ptr (some (bp0, 0)))] 5 1 7 A H fun fr t H => ?_)
 obtain ⟨h1, hx, A⟩ := A.s0 9 [.str p1.AO] [_, _, _, _, _, _, _, _, _, _, _, _, _]
 refine CF 2 [] hx H fun fr t H => ?_
 refine at_nil ?_
 obtain rfl := An hm
 refine ⟨.inr rfl, .tuple [], rH H, ?_⟩
 exact ⟨rfl, A⟩
end
end Go.Av.L
