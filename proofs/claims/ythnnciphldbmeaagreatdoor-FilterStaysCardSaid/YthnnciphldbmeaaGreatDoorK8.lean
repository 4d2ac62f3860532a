/-
 Models of functions, and that the abstract run tells them. Written by lift2.py.
-/
import Derived.Test.YthnnciphldbmeaaGreatDoorKCfg
import Derived.Test.YthnnciphldbmeaaGreatDoorK3
import Derived.Test.YthnnciphldbmeaaGreatDoorK5
import Derived.Test.YthnnciphldbmeaaGreatDoorK6
import Derived.Test.YthnnciphldbmeaaGreatDoorK7
namespace Go.Av.L
open Go.Av Go.Lib
set_option maxRecDepth 10000
set_option maxHeartbeats 4000000
set_option linter.unusedVariables false
set_option linter.unusedSimpArgs false
variable {g : Gd} {h : AM} {F : List Ck} {av : List AD}
noncomputable section
def CN (p0 : AK) (s : Int) : Option ((Int) ⊕ ((Unit) ⊕ (Int))) :=
 match s with
 | x6 => Af (decide (x6 < (p0.Extra.length : Int))) ((GP p0.Extra x6).bind fun x8 => (Dt x8).bind fun x9 => (Af ((!x9) || (x8.Value == ([] : List UInt8))) (some true) ((Es x8.Key).bind fun x11 => some x11) : Option (Bool)).bind fun x10 => (Af x10 (some true) ((Af (decide (x6 > 0)) ((GP p0.Extra (IntKind.i64.wrap (x6 - 1))).bind fun x14 => some (!(Op.bytesLess x14.Key x8.Key))) (some false) : Option (Bool)).bind fun x13 => some x13) : Option (Bool)).bind fun x12 => Af x12 (some (.inr (.inr (2 : Int)))) (some (.inl (IntKind.i64.wrap (x6 + 1))))) (some (.inr (.inl ())))
def Dz (p0 : AK) : Option (Int) :=
 (CV p0.Name).bind fun x1 => Af (!(x1 == p0.Name)) (some (2 : Int)) ((CV p0.Be).bind fun x2 => Af (!(x2 == p0.Be)) (some (2 : Int)) ((CV p0.B1).bind fun x3 => (Af (!(x3 == p0.B1)) (some true) ((CV p0.CI).bind fun x5 => some (!(x5 == p0.CI))) : Option (Bool)).bind fun x4 => Af (x4 || (p0.Name == ([] : List UInt8))) (some (2 : Int)) ((loop (CN p0) (0 : Int)).bind fun o1 => (match o1 with | .inl _ => (Af ((((((((((decide (p0.De < 0)) || (decide (p0.De > 9007199254740991))) || (decide (p0.ET < 0))) || (decide (p0.ET > 9007199254740991))) || (decide (p0.Mode < 0))) || (decide (p0.Mode ≥ 2097152))) || (decide (p0.CG < 0))) || (decide (p0.CG ≥ 2097152))) || (decide (p0.Da < 0))) || (decide (p0.Da ≥ 2097152))) (some true) ((E1 p0.Time.Cf p0.Time.Bb).bind fun x16 => some (!x16)) : Option (Bool)).bind fun x15 => Af x15 (some (6 : Int)) (some (0 : Int)) | .inr x7 => some x7))))
theorem Ko {p0 q0} (hm : Dz p0 = some q0) (A : HH g h [] F) (hc : BH (cfg.still 14) av = [.agg (AA p0)] := by kernel_rfl) : ∃ v h', BN cfg g h 14 av v h' ∧ v = Ai q0 ∧ HH g h' [] F := by
 refine Dr 142 [.tmp 2] hc ?_
 clear hc
 unfold Dz at hm
 refine bg 142 [(0, .agg (AA p0))] fun fr H => ?_
 refine AH 2 ?_
 obtain ⟨h1, e1, A⟩ := A.pu (.cells none 2 (AA p0))
 refine A7 1 (.ptr (some (h.size, 0))) e1 H fun fr t H => ?_
 refine AP 1 [] H fun fr H => AV (AV (Kg 1 35 [(0, []), (1, []), (3, []), (4, []), (2, [4]), (5, []), (6, []), (7, []), (8, []), (10, []), (11, []), (9, [11]), (12, []), (13, []), (14, []), (15, []), (16, []), (18, []), (19, []), (17, [19]), (20, []), (21, []), (22, []), (23, []), (24, []), (26, []), (27, []), (25, [27]), (28, []), (29, []), (30, []), (31, []), (32, []), (33, []), (34, [])] ?_))
 refine AG 1 [(6, .ptr (some (h.size, 0)))] H fun fr H => CO 7 (.str p0.Name) h1 [(1, h.size)] (g.Bm) H (fun fr => .of (DU (by kernel_rfl) (A.l1 0 0))) (fun fr H => ?_)
 refine AG 1 [(9, .ptr (some (h.size, 0)))] H fun fr H => CO 10 (.str p0.Name) h1 [(4, h.size), (1, h.size)] (g.Bm) H (fun fr => .of (DU (by kernel_rfl) (A.l1 0 0))) (fun fr H => ?_)
 have A1 := A.G4 0 (pr := [h.size]) (.cons 0 rfl (by simp [Ck.ids]) .nil)
 obtain ⟨x1, hx, hm⟩ := bind_some hm
 obtain ⟨v1, h2, hr, rfl, A1⟩ := Eu (av := [.str p0.Name]) hx A1
 replace A : HH g h2 [.obj h.size (.cells none 2 (AA p0))] F := A.S4 (n := 0) A1
 refine CO 8 (.str x1) h2 [(4, h.size), (1, h.size)] (h.size :: g.Bm) H (fun fr => Steps.call (by kernel_rfl) hr) (fun fr H => ?_)
 refine AG 2 [(12, .bool (!(x1 == p0.Name)))] H fun fr H => ?_
 rcases Ac hm with ⟨hb, hm⟩ | ⟨hb, hm⟩
 ·replace H := H.kn 12 hb
  refine AG 4 [(14, .tuple []), (17, .tuple [])] H fun fr H => JO [(1, .ptr (some (h.size, 0))), (12, .bool true), (15, .tuple []), (17, .tuple [])] H (fun fr => by kernel_rfl) ?_
  intro fr H
  refine AG 7 [(20, .bool true), (22, .tuple []), (25, .tuple [])] H fun fr H => JO [(1, .ptr (some (h.size, 0))), (20, .bool true), (23, .tuple []), (25, .tuple [])] H (fun fr => by kernel_rfl) ?_
  intro fr H
  refine AG 7 [(28, .bool true), (30, .tuple []), (33, .tuple [])] H fun fr H => JO [(1, .ptr (some (h.size, 0))), (28, .bool true), (31, .tuple []), (33, .tuple [])] H (fun fr => by kernel_rfl) ?_
  intro fr H
  refine AP 7 [(40, .bool true)] H fun fr H => GI (x := .tmp 40) (by kernel_rfl) H (fun fr => by kernel_rfl) ?_
  refine AH 1 (AP 1 [(2, Ai 2)] H fun fr H => AY ?_)
  obtain rfl := Ag hm
  refine ⟨.inl rfl, Ai 2, rH H, ?_⟩
  replace A := A.d0
  exact ⟨rfl, A⟩
 replace H := H.kn 12 hb
 refine AG 1 [(13, .ptr (some (h.size, 1)))] H fun fr H => CO 14 (.str p0.Be) h2 [(8, h.size), (4, h.size), (1, h.size)] (g.Bm) H (fun fr => .of (DU (by kernel_rfl) (A.l1 0 1))) (fun fr H => ?_)
 refine AG 1 [(16, .ptr (some (h.size, 1)))] H fun fr H => CO 17 (.str p0.Be) h2 [(11, h.size), (8, h.size), (4, h.size), (1, h.size)] (g.Bm) H (fun fr => .of (DU (by kernel_rfl) (A.l1 0 1))) (fun fr H => ?_)
 have A1 := A.G4 0 (pr := [h.size]) (.cons 0 rfl (by simp [Ck.ids]) .nil)
 obtain ⟨x2, hx, hm⟩ := bind_some hm
 obtain ⟨v1, h3, hr, rfl, A1⟩ := Eu (av := [.str p0.Be]) hx A1
 replace A := A.WQ A1
 refine CO 15 (.str x2) h3 [(11, h.size), (8, h.size), (4, h.size), (1, h.size)] (h.size :: g.Bm) H (fun fr => Steps.call (by kernel_rfl) hr) (fun fr H => ?_)
 refine AG 3 [(20, .bool (!(x2 == p0.Be)))] H fun fr H => ?_
 rcases Ac hm with ⟨hb, hm⟩ | ⟨hb, hm⟩
 ·replace H := H.kn 20 hb
  refine AG 4 [(22, .tuple []), (25, .tuple [])] H fun fr H => JO [(1, .ptr (some (h.size, 0))), (20, .bool true), (23, .tuple []), (25, .tuple [])] H (fun fr => by kernel_rfl) ?_
  intro fr H
  refine AG 7 [(28, .bool true), (30, .tuple []), (33, .tuple [])] H fun fr H => JO [(1, .ptr (some (h.size, 0))), (28, .bool true), (31, .tuple []), (33, .tuple [])] H (fun fr => by kernel_rfl) ?_
  intro fr H
  refine AP 7 [(40, .bool true)] H fun fr H => GI (x := .tmp 40) (by kernel_rfl) H (fun fr => by kernel_rfl) ?_
  refine AH 1 (AP 1 [(2, Ai 2)] H fun fr H => AY ?_)
  obtain rfl := Ag hm
  refine ⟨.inl rfl, Ai 2, rH H, ?_⟩
  replace A := A.d0
  exact ⟨rfl, A⟩
 replace H := H.kn 20 hb
 refine AG 1 [(21, .ptr (some (h.size, 6)))] H fun fr H => CO 22 (.str p0.B1) h3 [(16, h.size), (11, h.size), (8, h.size), (4, h.size), (1, h.size)] (g.Bm) H (fun fr => .of (DU (by kernel_rfl) (A.l1 0 6))) (fun fr H => ?_)
 refine AG 1 [(24, .ptr (some (h.size, 6)))] H fun fr H => CO 25 (.str p0.B1) h3 [(19, h.size), (16, h.size), (11, h.size), (8, h.size), (4, h.size), (1, h.size)] (g.Bm) H (fun fr => .of (DU (by kernel_rfl) (A.l1 0 6))) (fun fr H => ?_)
 have A1 := A.G4 0 (pr := [h.size]) (.cons 0 rfl (by simp [Ck.ids]) .nil)
 obtain ⟨x3, hx, hm⟩ := bind_some hm
 obtain ⟨v1, h4, hr, rfl, A1⟩ := Eu (av := [.str p0.B1]) hx A1
 replace A := A.WQ A1
 refine CO 23 (.str x3) h4 [(19, h.size), (16, h.size), (11, h.size), (8, h.size), (4, h.size), (1, h.size)] (h.size :: g.Bm) H (fun fr => Steps.call (by kernel_rfl) hr) (fun fr H => ?_)
 refine AG 3 [(28, .bool (!(x3 == p0.B1)))] H fun fr H => ?_
 obtain ⟨x4, ho, hm⟩ := bind_some hm
 refine Aq 7 (fun fr' h' => Has fr' 142 [(1, .ptr (some (h.size, 0))), (35, .bool x4)] ∧ HH g h' [.obj h.size (.cells none 2 (AA p0))] F) ?_ ?_
 ·rcases Ac ho with ⟨hb, hm⟩ | ⟨hb, hm⟩
  ·replace H := H.kn 28 hb
   refine AG 4 [(30, .tuple []), (33, .tuple [])] H fun fr H => JO [(1, .ptr (some (h.size, 0))), (28, .bool true), (31, .tuple []), (33, .tuple [])] H (fun fr => by kernel_rfl) ?_
   intro fr H
   refine AG 2 [(35, .bool true)] H fun fr H => ?_
   obtain rfl := Ag hm
   exact at_nil ⟨H.ls, A⟩
  replace H := H.kn 28 hb
  refine AG 1 [(29, .ptr (some (h.size, 7)))] H fun fr H => CO 30 (.str p0.CI) h4 [(24, h.size), (19, h.size), (16, h.size), (11, h.size), (8, h.size), (4, h.size), (1, h.size)] (g.Bm) H (fun fr => .of (DU (by kernel_rfl) (A.l1 0 7))) (fun fr H => ?_)
  refine AG 1 [(32, .ptr (some (h.size, 7)))] H fun fr H => CO 33 (.str p0.CI) h4 [(27, h.size), (24, h.size), (19, h.size), (16, h.size), (11, h.size), (8, h.size), (4, h.size), (1, h.size)] (g.Bm) H (fun fr => .of (DU (by kernel_rfl) (A.l1 0 7))) (fun fr H => ?_)
  have A1 := A.G4 0 (pr := [h.size]) (.cons 0 rfl (by simp [Ck.ids]) .nil)
  obtain ⟨x5, hx, hm⟩ := bind_some hm
  obtain ⟨v1, h6, hr, rfl, A1⟩ := Eu (av := [.str p0.CI]) hx A1
  replace A := A.WQ A1
  refine CO 31 (.str x5) h6 [(27, h.size), (24, h.size), (19, h.size), (16, h.size), (11, h.size), (8, h.size), (4, h.size), (1, h.size)] (h.size :: g.Bm) H (fun fr => Steps.call (by kernel_rfl) hr) (fun fr H => ?_)
  refine AG 2 [(35, .bool (!(x5 == p0.CI)))] H fun fr H => ?_
  obtain rfl := Ag hm
  exact at_nil ⟨H.ls, A⟩
 clear A
 intro t fr h5 hK
 obtain ⟨H, A⟩ := hK
 refine AG 1 [(36, .bool x4)] H fun fr H => Aq 4 (fun fr' h' => h5 = h' ∧ Has fr' 142 [(1, .ptr (some (h.size, 0))), (40, .bool (x4 || (p0.Name == ([] : List UInt8))))]) ?_ ?_
 ·cases hb : (x4 : Bool) with
  | true =>
   replace H := H.kn 36 hb
   exact AG 4 [(40, .bool true)] H fun fr H => Ap H hb
  | false =>
   replace H := H.kn 36 hb
   refine AZ 1 [] 38 0 0 A H fun fr t H => ?_
   exact AG 2 [(40, .bool (p0.Name == ([] : List UInt8)))] H fun fr H => Ap H hb
 intro t fr h' hK
 obtain ⟨e, H⟩ := hK
 subst e
 refine BF id (Ak 40 H hm (fun hb hm H => ?_) fun hb hm H => ?_)
 ·refine AH 1 (AP 1 [(2, Ai 2)] H fun fr H => AY ?_)
  obtain rfl := Ag hm
  refine ⟨.inl rfl, Ai 2, rH H, ?_⟩
  replace A := A.d0
  exact ⟨rfl, A⟩
 refine Br id (AV (AH 1 (AP 1 [(3, Ai 0)] H fun fr H => Aa (id := 0) (by kernel_rfl) ?_)))
 obtain ⟨o1, ho, hm⟩ := bind_some hm
 refine BG (Q' := fun e fr' h' => (e = .exit 0 ∧ .inl () = o1 ∧ Has fr' 142 [(1, .ptr (some (h.size, 0)))] ∧ HH g h' [.obj h.size (.cells none 2 (AA p0))] F) ∨ (∃ x7, e = .ret ∧ .inr x7 = o1 ∧ Has fr' 142 [(2, Ai x7)] ∧ HH g h' [.obj h.size (.cells none 2 (AA p0))] F) ∨ False) ?_ ?_
 ·refine Bv (by kernel_rfl) (fun (s : Int) fr' h' => ∃ x6, x6 = s ∧ Has fr' 142 [(1, .ptr (some (h.size, 0))), (3, Ai x6)] ∧ HH g h' [.obj h.size (.cells none 2 (AA p0))] F) ho ⟨_, rfl, H.ls, A⟩ ?_
  clear ho hm H A
  intro s q fr h7 hI hm
  obtain ⟨x6, rfl, H, A⟩ := hI
  unfold CN at hm
  refine AV (AH 5 (AZ 2 [(41, Ai x6)] 43 0 12 A H fun fr t H => ?_))
  refine AP 2 [(45, .bool (decide (x6 < (p0.Extra.length : Int))))] H fun fr H => Ak 45 H hm (fun hb hm H => ?_) fun hb hm H => ?_
  ·refine Br id (AV (Aa (id := 1) (by kernel_rfl) ?_))
   refine AH 7 (AZ 1 [] 49 0 12 A H fun fr t H => ?_)
   obtain ⟨x8, hx, hm⟩ := bind_some hm
   refine Ax 1 [] 51 (.BC [.str x8.Key, .str x8.Value]) h7 H (fun fr => .of (Ht (e := Ad) (x := x8) Bx (by decide) (by kernel_rfl) hx)) fun fr t H => ?_
   refine As 52 (.agg [.str x8.Key, .str x8.Value]) h7 H (fun fr => .of (IQ (by kernel_rfl))) fun fr t H => ?_
   obtain ⟨h8, e2, A⟩ := A.pu (.cells none 2 [.str ([] : List UInt8), .str ([] : List UInt8)])
   refine A7 4 (.ptr (some (h7.size, 0))) e2 H fun fr t H => ?_
   obtain ⟨h9, hx, A⟩ := A.s0 0 [.str x8.Key, .str x8.Value] [_, _]
   refine FX hx H fun fr t H => ?_
   refine BF id (AV (FF 7 29 ?_))
   refine As 53 _ _ H (fun fr => .of (B5 (by kernel_rfl) (A.GQ 0 rfl (o := 0) (n := 2) ⟨Nat.le_of_ble_eq_true rfl, rfl⟩))) fun fr t H => ?_
   obtain ⟨x9, hx, hm⟩ := bind_some hm
   obtain ⟨v1, h10, hr, rfl, A1⟩ := Ki (av := [.agg [.str x8.Key, .str x8.Value]]) hx (A.cut 0)
   replace A := A.E8 A1
   refine A8 54 hr H fun fr t H => ?_
   refine AG 2 [(56, .bool (!x9))] H fun fr H => Aq 4 (fun fr' h' => h10 = h' ∧ Has fr' 142 [(1, .ptr (some (h.size, 0))), (3, Ai x6), (4, .ptr (some (h7.size, 0))), (60, .bool ((!x9) || (x8.Value == ([] : List UInt8))))]) ?_ ?_
   ·cases hb : (!x9 : Bool) with
    | true =>
     replace H := H.kn 56 hb
     exact AG 4 [(60, .bool true)] H fun fr H => Ap H hb
    | false =>
     replace H := H.kn 56 hb
     refine AZ 1 [] 58 0 1 A H fun fr t H => ?_
     exact AG 2 [(60, .bool (x8.Value == ([] : List UInt8)))] H fun fr H => Ap H hb
   intro t fr h' hK
   obtain ⟨e, H⟩ := hK
   subst e
   refine AG 1 [(61, .bool ((!x9) || (x8.Value == ([] : List UInt8))))] H fun fr H => ?_
   obtain ⟨x10, ho, hm⟩ := bind_some hm
   refine Aq 4 (fun fr' h' => Has fr' 142 [(1, .ptr (some (h.size, 0))), (3, Ai x6), (4, .ptr (some (h7.size, 0))), (65, .bool x10)] ∧ HH g h' [.obj h7.size (.cells none 2 [.str x8.Key, .str x8.Value]), .obj h.size (.cells none 2 (AA p0))] F) ?_ ?_
   ·rcases Ac ho with ⟨hb, hm⟩ | ⟨hb, hm⟩
    ·replace H := H.kn 61 hb
     refine AG 4 [(65, .bool true)] H fun fr H => ?_
     obtain rfl := Ag hm
     exact at_nil ⟨H.ls, A⟩
    replace H := H.kn 61 hb
    refine AZ 1 [] 63 0 0 A H fun fr t H => ?_
    obtain ⟨x11, hx, hm⟩ := bind_some hm
    obtain ⟨v1, h12, hr, rfl, A1⟩ := Km (av := [.str x8.Key]) hx (A.cut 0)
    replace A := A.E8 A1
    refine A8 64 hr H fun fr t H => ?_
    refine AG 1 [(65, .bool x11)] H fun fr H => ?_
    obtain rfl := Ag hm
    exact at_nil ⟨H.ls, A⟩
   clear A
   intro t fr h11 hK
   obtain ⟨H, A⟩ := hK
   refine AG 1 [(66, .bool x10)] H fun fr H => ?_
   obtain ⟨x12, ho, hm⟩ := bind_some hm
   refine Aq 15 (fun fr' h' => Has fr' 142 [(1, .ptr (some (h.size, 0))), (3, Ai x6), (81, .bool x12)] ∧ HH g h' [.obj h7.size (.cells none 2 [.str x8.Key, .str x8.Value]), .obj h.size (.cells none 2 (AA p0))] F) ?_ ?_
   ·rcases Ac ho with ⟨hb, hm⟩ | ⟨hb, hm⟩
    ·replace H := H.kn 66 hb
     refine AG 15 [(81, .bool true)] H fun fr H => ?_
     obtain rfl := Ag hm
     exact at_nil ⟨H.ls, A⟩
    replace H := H.kn 66 hb
    refine AG 3 [(69, .bool (decide (x6 > 0)))] H fun fr H => ?_
    obtain ⟨x13, ho, hm⟩ := bind_some hm
    refine Aq 11 (fun fr' h' => Has fr' 142 [(1, .ptr (some (h.size, 0))), (3, Ai x6), (66, .bool false), (80, .bool x13)] ∧ HH g h' [.obj h7.size (.cells none 2 [.str x8.Key, .str x8.Value]), .obj h.size (.cells none 2 (AA p0))] F) ?_ ?_
    ·rcases Ac ho with ⟨hb, hm⟩ | ⟨hb, hm⟩
     ·replace H := H.kn 69 hb
      refine AZ 1 [] 71 1 12 A H fun fr t H => ?_
      obtain ⟨x14, hx, hm⟩ := bind_some hm
      refine Ax 2 [] 74 (.BC [.str x14.Key, .str x14.Value]) h11 H (fun fr => .of (Ht (e := Ad) (x := x14) Bx (by decide) (by kernel_rfl) hx)) fun fr t H => ?_
      refine Ax 1 [] 76 (.str x14.Key) h11 H (fun fr => .of (IQ (by kernel_rfl))) fun fr t H => ?_
      refine AZ 1 [] 78 0 0 A H fun fr t H => ?_
      refine AG 2 [(80, .bool (!(Op.bytesLess x14.Key x8.Key)))] H fun fr H => ?_
      obtain rfl := Ag hm
      exact at_nil ⟨H.ls, A⟩
     replace H := H.kn 69 hb
     refine AG 11 [(80, .bool false)] H fun fr H => ?_
     obtain rfl := Ag hm
     exact at_nil ⟨H.ls, A⟩
    clear A
    intro t fr h14 hK
    obtain ⟨H, A⟩ := hK
    refine AG 1 [(81, .bool x13)] H fun fr H => ?_
    obtain rfl := Ag hm
    exact at_nil ⟨H.ls, A⟩
   clear A
   intro t fr h13 hK
   obtain ⟨H, A⟩ := hK
   refine BF id (Ak 81 H hm (fun hb hm H => ?_) fun hb hm H => ?_)
   ·refine AH 1 (AP 1 [(2, Ai 2)] H fun fr H => AY ?_)
    replace A := A.k1 1
    exact nr hm fun e => Or.inr (.inl ⟨_, rfl, e, H.ls, A⟩)
   refine Fg 3 id (Bk 3 [(1, .ptr (some (h.size, 0))), (3, Ai (IntKind.i64.wrap (x6 + 1)))] H fun fr H => at_nil ?_)
   replace A := A.k1 1
   exact nx hm ⟨_, rfl, H.ls, A⟩
  refine Bh (i := 0) (by kernel_rfl) ?_
  exact nr hm fun e => .inl ⟨rfl, e, H.ls, A⟩
 clear ho
 clear A
 intro e fr h15 hQ
 rcases hQ with ⟨rfl, rfl, H, A⟩ | ⟨x7, rfl, rfl, H, A⟩ | hF
 ·show AW _ _ _ _ _ _ _
  refine AH 1 (AP 1 [(5, Ai 9007199254740991)] H fun fr H => AV (AH 60 (AZ 1 [] 83 0 4 A H fun fr t H => ?_)))
  refine AG 2 [(85, .bool (decide (p0.De < 0)))] H fun fr H => Aq 5 (fun fr' h' => h15 = h' ∧ Has fr' 142 [(1, .ptr (some (h.size, 0))), (5, Ai 9007199254740991), (90, .bool ((decide (p0.De < 0)) || (decide (p0.De > 9007199254740991))))]) ?_ ?_
  ·cases hb : (decide (p0.De < 0) : Bool) with
   | true =>
    replace H := H.kn 85 hb
    exact AG 5 [(90, .bool true)] H fun fr H => Ap H hb
   | false =>
    replace H := H.kn 85 hb
    refine AZ 1 [] 87 0 4 A H fun fr t H => ?_
    exact AG 3 [(90, .bool (decide (p0.De > 9007199254740991)))] H fun fr H => Ap H hb
  intro t fr h' hK
  obtain ⟨e, H⟩ := hK
  subst e
  refine AG 1 [(91, .bool ((decide (p0.De < 0)) || (decide (p0.De > 9007199254740991))))] H fun fr H => Aq 4 (fun fr' h' => h15 = h' ∧ Has fr' 142 [(1, .ptr (some (h.size, 0))), (5, Ai 9007199254740991), (95, .bool (((decide (p0.De < 0)) || (decide (p0.De > 9007199254740991))) || (decide (p0.ET < 0))))]) ?_ ?_
  ·cases hb : ((decide (p0.De < 0)) || (decide (p0.De > 9007199254740991)) : Bool) with
   | true =>
    replace H := H.kn 91 hb
    exact AG 4 [(95, .bool true)] H fun fr H => Ap H hb
   | false =>
    replace H := H.kn 91 hb
    refine AZ 1 [] 93 0 5 A H fun fr t H => ?_
    exact AG 2 [(95, .bool (decide (p0.ET < 0)))] H fun fr H => Ap H hb
  intro t fr h' hK
  obtain ⟨e, H⟩ := hK
  subst e
  refine AG 1 [(96, .bool (((decide (p0.De < 0)) || (decide (p0.De > 9007199254740991))) || (decide (p0.ET < 0))))] H fun fr H => Aq 5 (fun fr' h' => h15 = h' ∧ Has fr' 142 [(1, .ptr (some (h.size, 0))), (101, .bool ((((decide (p0.De < 0)) || (decide (p0.De > 9007199254740991))) || (decide (p0.ET < 0))) || (decide (p0.ET > 9007199254740991))))]) ?_ ?_
  ·cases hb : (((decide (p0.De < 0)) || (decide (p0.De > 9007199254740991))) || (decide (p0.ET < 0)) : Bool) with
   | true =>
    replace H := H.kn 96 hb
    exact AG 5 [(101, .bool true)] H fun fr H => Ap H hb
   | false =>
    replace H := H.kn 96 hb
    refine AZ 1 [] 98 0 5 A H fun fr t H => ?_
    exact AG 3 [(101, .bool (decide (p0.ET > 9007199254740991)))] H fun fr H => Ap H hb
  intro t fr h' hK
  obtain ⟨e, H⟩ := hK
  subst e
  refine AG 1 [(102, .bool ((((decide (p0.De < 0)) || (decide (p0.De > 9007199254740991))) || (decide (p0.ET < 0))) || (decide (p0.ET > 9007199254740991))))] H fun fr H => Aq 4 (fun fr' h' => h15 = h' ∧ Has fr' 142 [(1, .ptr (some (h.size, 0))), (106, .bool (((((decide (p0.De < 0)) || (decide (p0.De > 9007199254740991))) || (decide (p0.ET < 0))) || (decide (p0.ET > 9007199254740991))) || (decide (p0.Mode < 0))))]) ?_ ?_
  ·cases hb : ((((decide (p0.De < 0)) || (decide (p0.De > 9007199254740991))) || (decide (p0.ET < 0))) || (decide (p0.ET > 9007199254740991)) : Bool) with
   | true =>
    replace H := H.kn 102 hb
    exact AG 4 [(106, .bool true)] H fun fr H => Ap H hb
   | false =>
    replace H := H.kn 102 hb
    refine AZ 1 [] 104 0 3 A H fun fr t H => ?_
    exact AG 2 [(106, .bool (decide (p0.Mode < 0)))] H fun fr H => Ap H hb
  intro t fr h' hK
  obtain ⟨e, H⟩ := hK
  subst e
  refine AG 1 [(107, .bool (((((decide (p0.De < 0)) || (decide (p0.De > 9007199254740991))) || (decide (p0.ET < 0))) || (decide (p0.ET > 9007199254740991))) || (decide (p0.Mode < 0))))] H fun fr H => Aq 4 (fun fr' h' => h15 = h' ∧ Has fr' 142 [(1, .ptr (some (h.size, 0))), (111, .bool ((((((decide (p0.De < 0)) || (decide (p0.De > 9007199254740991))) || (decide (p0.ET < 0))) || (decide (p0.ET > 9007199254740991))) || (decide (p0.Mode < 0))) || (decide (p0.Mode ≥ 2097152))))]) ?_ ?_
  ·cases hb : (((((decide (p0.De < 0)) || (decide (p0.De > 9007199254740991))) || (decide (p0.ET < 0))) || (decide (p0.ET > 9007199254740991))) || (decide (p0.Mode < 0)) : Bool) with
   | true =>
    replace H := H.kn 107 hb
    exact AG 4 [(111, .bool true)] H fun fr H => Ap H hb
   | false =>
    replace H := H.kn 107 hb
    refine AZ 1 [] 109 0 3 A H fun fr t H => ?_
    exact AG 2 [(111, .bool (decide (p0.Mode ≥ 2097152)))] H fun fr H => Ap H hb
  intro t fr h' hK
  obtain ⟨e, H⟩ := hK
  subst e
  refine AG 1 [(112, .bool ((((((decide (p0.De < 0)) || (decide (p0.De > 9007199254740991))) || (decide (p0.ET < 0))) || (decide (p0.ET > 9007199254740991))) || (decide (p0.Mode < 0))) || (decide (p0.Mode ≥ 2097152))))] H fun fr H => Aq 4 (fun fr' h' => h15 = h' ∧ Has fr' 142 [(1, .ptr (some (h.size, 0))), (116, .bool (((((((decide (p0.De < 0)) || (decide (p0.De > 9007199254740991))) || (decide (p0.ET < 0))) || (decide (p0.ET > 9007199254740991))) || (decide (p0.Mode < 0))) || (decide (p0.Mode ≥ 2097152))) || (decide (p0.CG < 0))))]) ?_ ?_
  ·cases hb : ((((((decide (p0.De < 0)) || (decide (p0.De > 9007199254740991))) || (decide (p0.ET < 0))) || (decide (p0.ET > 9007199254740991))) || (decide (p0.Mode < 0))) || (decide (p0.Mode ≥ 2097152)) : Bool) with
   | true =>
    replace H := H.kn 112 hb
    exact AG 4 [(116, .bool true)] H fun fr H => Ap H hb
   | false =>
    replace H := H.kn 112 hb
    refine AZ 1 [] 114 0 8 A H fun fr t H => ?_
    exact AG 2 [(116, .bool (decide (p0.CG < 0)))] H fun fr H => Ap H hb
  intro t fr h' hK
  obtain ⟨e, H⟩ := hK
  subst e
  refine AG 1 [(117, .bool (((((((decide (p0.De < 0)) || (decide (p0.De > 9007199254740991))) || (decide (p0.ET < 0))) || (decide (p0.ET > 9007199254740991))) || (decide (p0.Mode < 0))) || (decide (p0.Mode ≥ 2097152))) || (decide (p0.CG < 0))))] H fun fr H => Aq 4 (fun fr' h' => h15 = h' ∧ Has fr' 142 [(1, .ptr (some (h.size, 0))), (121, .bool ((((((((decide (p0.De < 0)) || (decide (p0.De > 9007199254740991))) || (decide (p0.ET < 0))) || (decide (p0.ET > 9007199254740991))) || (decide (p0.Mode < 0))) || (decide (p0.Mode ≥ 2097152))) || (decide (p0.CG < 0))) || (decide (p0.CG ≥ 2097152))))]) ?_ ?_
  ·cases hb : (((((((decide (p0.De < 0)) || (decide (p0.De > 9007199254740991))) || (decide (p0.ET < 0))) || (decide (p0.ET > 9007199254740991))) || (decide (p0.Mode < 0))) || (decide (p0.Mode ≥ 2097152))) || (decide (p0.CG < 0)) : Bool) with
   | true =>
    replace H := H.kn 117 hb
    exact AG 4 [(121, .bool true)] H fun fr H => Ap H hb
   | false =>
    replace H := H.kn 117 hb
    refine AZ 1 [] 119 0 8 A H fun fr t H => ?_
    exact AG 2 [(121, .bool (decide (p0.CG ≥ 2097152)))] H fun fr H => Ap H hb
  intro t fr h' hK
  obtain ⟨e, H⟩ := hK
  subst e
  refine AG 1 [(122, .bool ((((((((decide (p0.De < 0)) || (decide (p0.De > 9007199254740991))) || (decide (p0.ET < 0))) || (decide (p0.ET > 9007199254740991))) || (decide (p0.Mode < 0))) || (decide (p0.Mode ≥ 2097152))) || (decide (p0.CG < 0))) || (decide (p0.CG ≥ 2097152))))] H fun fr H => Aq 4 (fun fr' h' => h15 = h' ∧ Has fr' 142 [(1, .ptr (some (h.size, 0))), (126, .bool (((((((((decide (p0.De < 0)) || (decide (p0.De > 9007199254740991))) || (decide (p0.ET < 0))) || (decide (p0.ET > 9007199254740991))) || (decide (p0.Mode < 0))) || (decide (p0.Mode ≥ 2097152))) || (decide (p0.CG < 0))) || (decide (p0.CG ≥ 2097152))) || (decide (p0.Da < 0))))]) ?_ ?_
  ·cases hb : ((((((((decide (p0.De < 0)) || (decide (p0.De > 9007199254740991))) || (decide (p0.ET < 0))) || (decide (p0.ET > 9007199254740991))) || (decide (p0.Mode < 0))) || (decide (p0.Mode ≥ 2097152))) || (decide (p0.CG < 0))) || (decide (p0.CG ≥ 2097152)) : Bool) with
   | true =>
    replace H := H.kn 122 hb
    exact AG 4 [(126, .bool true)] H fun fr H => Ap H hb
   | false =>
    replace H := H.kn 122 hb
    refine AZ 1 [] 124 0 9 A H fun fr t H => ?_
    exact AG 2 [(126, .bool (decide (p0.Da < 0)))] H fun fr H => Ap H hb
  intro t fr h' hK
  obtain ⟨e, H⟩ := hK
  subst e
  refine AG 1 [(127, .bool (((((((((decide (p0.De < 0)) || (decide (p0.De > 9007199254740991))) || (decide (p0.ET < 0))) || (decide (p0.ET > 9007199254740991))) || (decide (p0.Mode < 0))) || (decide (p0.Mode ≥ 2097152))) || (decide (p0.CG < 0))) || (decide (p0.CG ≥ 2097152))) || (decide (p0.Da < 0))))] H fun fr H => Aq 4 (fun fr' h' => h15 = h' ∧ Has fr' 142 [(1, .ptr (some (h.size, 0))), (131, .bool ((((((((((decide (p0.De < 0)) || (decide (p0.De > 9007199254740991))) || (decide (p0.ET < 0))) || (decide (p0.ET > 9007199254740991))) || (decide (p0.Mode < 0))) || (decide (p0.Mode ≥ 2097152))) || (decide (p0.CG < 0))) || (decide (p0.CG ≥ 2097152))) || (decide (p0.Da < 0))) || (decide (p0.Da ≥ 2097152))))]) ?_ ?_
  ·cases hb : (((((((((decide (p0.De < 0)) || (decide (p0.De > 9007199254740991))) || (decide (p0.ET < 0))) || (decide (p0.ET > 9007199254740991))) || (decide (p0.Mode < 0))) || (decide (p0.Mode ≥ 2097152))) || (decide (p0.CG < 0))) || (decide (p0.CG ≥ 2097152))) || (decide (p0.Da < 0)) : Bool) with
   | true =>
    replace H := H.kn 127 hb
    exact AG 4 [(131, .bool true)] H fun fr H => Ap H hb
   | false =>
    replace H := H.kn 127 hb
    refine AZ 1 [] 129 0 9 A H fun fr t H => ?_
    exact AG 2 [(131, .bool (decide (p0.Da ≥ 2097152)))] H fun fr H => Ap H hb
  intro t fr h' hK
  obtain ⟨e, H⟩ := hK
  subst e
  refine AG 1 [(132, .bool ((((((((((decide (p0.De < 0)) || (decide (p0.De > 9007199254740991))) || (decide (p0.ET < 0))) || (decide (p0.ET > 9007199254740991))) || (decide (p0.Mode < 0))) || (decide (p0.Mode ≥ 2097152))) || (decide (p0.CG < 0))) || (decide (p0.CG ≥ 2097152))) || (decide (p0.Da < 0))) || (decide (p0.Da ≥ 2097152))))] H fun fr H => ?_
  obtain ⟨x15, ho, hm⟩ := bind_some hm
  refine Aq 9 (fun fr' h' => Has fr' 142 [(141, .bool x15)] ∧ HH g h' [.obj h.size (.cells none 2 (AA p0))] F) ?_ ?_
  ·rcases Ac ho with ⟨hb, hm⟩ | ⟨hb, hm⟩
   ·replace H := H.kn 132 hb
    refine AG 9 [(141, .bool true)] H fun fr H => ?_
    obtain rfl := Ag hm
    exact at_nil ⟨H.ls, A⟩
   replace H := H.kn 132 hb
   refine AZ 2 [] 135 0 10 A H fun fr t H => ?_
   refine AZ 2 [] 138 0 11 A H fun fr t H => ?_
   obtain ⟨x16, hx, hm⟩ := bind_some hm
   obtain ⟨v1, h17, hr, rfl, A1⟩ := Kn (av := [Ai p0.Time.Cf, Ai p0.Time.Bb]) hx (A.cut 0)
   replace A := A.E8 A1
   refine A8 139 hr H fun fr t H => ?_
   refine AG 2 [(141, .bool (!x16))] H fun fr H => ?_
   obtain rfl := Ag hm
   exact at_nil ⟨H.ls, A⟩
  clear A
  intro t fr h16 hK
  obtain ⟨H, A⟩ := hK
  refine BF id (Ak 141 H hm (fun hb hm H => ?_) fun hb hm H => ?_)
  ·refine AH 1 (AP 1 [(2, Ai 6)] H fun fr H => AY ?_)
   obtain rfl := Ag hm
   refine ⟨.inl rfl, Ai 6, rH H, ?_⟩
   replace A := A.d0
   exact ⟨rfl, A⟩
  refine Cc 1 id (AP 1 [(2, Ai 0)] H fun fr H => AY ?_)
  obtain rfl := Ag hm
  refine ⟨.inl rfl, Ai 0, rH H, ?_⟩
  replace A := A.d0
  exact ⟨rfl, A⟩
 ·obtain rfl := Ag hm
  refine ⟨.inl rfl, Ai x7, rH H, ?_⟩
  replace A := A.d0
  exact ⟨rfl, A⟩
 exact hF.elim
def B9 {SY RY : Type} (Y : SY → (Int × Ch) → Option (SY ⊕ RY)) (p1 : List AK) (p2_0 : BO) (x1w1 : BA) (s : Int × Int × (Nat → Int) × Int × (SY ⊕ RY)) : Option ((Int × Int × (Nat → Int) × Int × (SY ⊕ RY)) ⊕ ((Int × Int × (Nat → Int) × (SY ⊕ RY)) ⊕ (Int × Int × (Nat → Int) × (SY ⊕ RY)))) :=
 match s with
 | (x2, x3, x4, x5, y1) => Af (decide (x5 < (p1.length : Int))) ((GP p1 x5).bind fun x12 => (Bw (⟨p2_0.c_, p2_0.AR, p2_0.AU, p2_0.AX, (⟨x2, x3, x4⟩ : BS)⟩ : BO) x12 x1w1).bind fun (x13, x14, x15, x16) => (SI Y y1 (x5, (⟨x13, x14, x15⟩ : Ch))).bind fun (x17, y4) => Af (!x17) (some (.inr (.inr (x16.n_, x16.An, x16.Aw, y4)))) (some (.inl (x16.n_, x16.An, x16.Aw, IntKind.i64.wrap (x5 + 1), y4)))) (some (.inr (.inl (x2, x3, x4, y1))))
def DY {SY RY : Type} (Y : SY → (Int × Ch) → Option (SY ⊕ RY)) (y : SY ⊕ RY) (p1 : List AK) (p2_0 : BO) : Option (BS × (SY ⊕ RY)) :=
 (F9 p1).bind fun x1w1 => (loop (B9 Y p1 p2_0 x1w1) (p2_0.Ae.n_, p2_0.Ae.An, p2_0.Ae.Aw, (0 : Int), y)).bind fun o1 => (match o1 with | .inl (x6, x7, x8, y2) => some ((⟨x6, x7, x8⟩ : BS), y2) | .inr (x9, x10, x11, y3) => some ((⟨x9, x10, x11⟩ : BS), y3))
theorem IT {SY RY : Type} {R : SY ⊕ RY → List Ck → Prop} {Y : SY → (Int × Ch) → Option (SY ⊕ RY)} {y : SY ⊕ RY} {p1 p2_0 l bp1 bp2 bp2_0 rp2_0_14 rp2_0_15 bp2_0_16 rp2_0_16_0 bp2_0_17 u7} {yq : SY ⊕ RY} (hm : DY Y y p1 p2_0 = some (u7, yq)) (hc : BH (cfg.still 89) av = [.KJ l, .ptr (some (bp1, 0)), .ptr (some (bp2, 0))]) (hYR : YR cfg g l (fun x => [Ai x.1, .agg (B3 x.2)]) Y R) (B : R y F) (A : HH g h [.obj bp1 (.cells none 2 [vs AA p1]), .obj bp2 (.cells none 2 [.ptr (some (bp2_0, 0))]), .obj bp2_0 (.cells none 2 [vs AE p2_0.c_.Ah, vs AE p2_0.c_.Aj, vs AI p2_0.c_.Bj, .bool p2_0.c_.G1, .bool p2_0.c_.BE, Ai p2_0.c_.Bc, .bool p2_0.c_.B4, Ai p2_0.c_.Ay.Cf, Ai p2_0.c_.Ay.Bb, Ai p2_0.c_.Ge, Ai p2_0.c_.Bz, Ai p2_0.c_.Name, Ai p2_0.c_.Head, Ai p2_0.c_.BU, AF rp2_0_14 p2_0.AR.length, AF rp2_0_15 p2_0.AU.length, .ptr (some (bp2_0_16, 0)), .ptr (some (bp2_0_17, 0))]), .AL rp2_0_14 136 (AL (eP AB) p2_0.AR), .AL rp2_0_15 136 (AL (eP AB) p2_0.AU), .obj bp2_0_16 (.cells none 2 [AF rp2_0_16_0 p2_0.AX.l_.length, Ai p2_0.AX.BM]), .AL rp2_0_16_0 142 (AL (eP AJ) p2_0.AX.l_), .obj bp2_0_17 (.cells none 2 ([Ai p2_0.Ae.n_, Ai p2_0.Ae.An] ++ (CW 257 (AD.int .i64) p2_0.Ae.Aw ++ [])))] F) : ∃ v h', BN cfg g h 89 av v h' ∧ v = .tuple [] ∧ ∃ F, R yq F ∧ HH g h' [.obj bp1 (.cells none 2 [vs AA p1]), .obj bp2 (.cells none 2 [.ptr (some (bp2_0, 0))]), .obj bp2_0 (.cells none 2 [vs AE p2_0.c_.Ah, vs AE p2_0.c_.Aj, vs AI p2_0.c_.Bj, .bool p2_0.c_.G1, .bool p2_0.c_.BE, Ai p2_0.c_.Bc, .bool p2_0.c_.B4, Ai p2_0.c_.Ay.Cf, Ai p2_0.c_.Ay.Bb, Ai p2_0.c_.Ge, Ai p2_0.c_.Bz, Ai p2_0.c_.Name, Ai p2_0.c_.Head, Ai p2_0.c_.BU, AF rp2_0_14 p2_0.AR.length, AF rp2_0_15 p2_0.AU.length, .ptr (some (bp2_0_16, 0)), .ptr (some (bp2_0_17, 0))]), .AL rp2_0_14 136 (AL (eP AB) p2_0.AR), .AL rp2_0_15 136 (AL (eP AB) p2_0.AU), .obj bp2_0_16 (.cells none 2 [AF rp2_0_16_0 p2_0.AX.l_.length, Ai p2_0.AX.BM]), .AL rp2_0_16_0 142 (AL (eP AJ) p2_0.AX.l_), .obj bp2_0_17 (.cells none 2 ([Ai u7.n_, Ai u7.An] ++ (CW 257 (AD.int .i64) u7.Aw ++ [])))] F := by
 refine Dr 36 [] hc ?_
 clear hc
 unfold DY at hm
 refine bg 36 [(0, .KJ l), (1, .ptr (some (bp1, 0))), (2, .ptr (some (bp2, 0)))] fun fr H => ?_
 refine AH 3 (Ek 10 0 0 A H fun fr t H => ?_)
 obtain ⟨x1w1, hx, hm⟩ := bind_some hm
 obtain ⟨v1, h1, hr, bx1w1, bx1w1_0, rfl, A1⟩ := Nw (av := [vs AA p1]) hx (A.cut 0)
 replace A := A.XX A1
 refine A8 11 hr H fun fr t H => ?_
 refine Bn 1 [(4, .ptr (some (bx1w1, 0)))] 3 H fun fr H => Ek 12 2 0 A H fun fr t H => ?_
 refine AP 2 [(13, Ai (p1.length : Int)), (14, Ai 0)] H fun fr H => Aa (id := 0) (by kernel_rfl) ?_
 obtain ⟨o1, ho, hm⟩ := bind_some hm
 refine BG (Q' := fun e fr' h' => (∃ x6 x7 x8, ∃ (y2 : SY ⊕ RY), e = .exit 0 ∧ .inl (x6, x7, x8, y2) = o1 ∧ Has fr' 36 [] ∧ ∃ F, R y2 F ∧ HH g h' [.obj bx1w1 (.cells none 2 [.map (some bx1w1_0)]), .obj bx1w1_0 (.map 2 (BZ (fun k : List UInt8 => .str k) (fun v : Bool => .bool v) x1w1.DD)), .obj bp1 (.cells none 2 [vs AA p1]), .obj bp2 (.cells none 2 [.ptr (some (bp2_0, 0))]), .obj bp2_0 (.cells none 2 [vs AE p2_0.c_.Ah, vs AE p2_0.c_.Aj, vs AI p2_0.c_.Bj, .bool p2_0.c_.G1, .bool p2_0.c_.BE, Ai p2_0.c_.Bc, .bool p2_0.c_.B4, Ai p2_0.c_.Ay.Cf, Ai p2_0.c_.Ay.Bb, Ai p2_0.c_.Ge, Ai p2_0.c_.Bz, Ai p2_0.c_.Name, Ai p2_0.c_.Head, Ai p2_0.c_.BU, AF rp2_0_14 p2_0.AR.length, AF rp2_0_15 p2_0.AU.length, .ptr (some (bp2_0_16, 0)), .ptr (some (bp2_0_17, 0))]), .AL rp2_0_14 136 (AL (eP AB) p2_0.AR), .AL rp2_0_15 136 (AL (eP AB) p2_0.AU), .obj bp2_0_16 (.cells none 2 [AF rp2_0_16_0 p2_0.AX.l_.length, Ai p2_0.AX.BM]), .AL rp2_0_16_0 142 (AL (eP AJ) p2_0.AX.l_), .obj bp2_0_17 (.cells none 2 ([Ai x6, Ai x7] ++ (CW 257 (AD.int .i64) x8 ++ [])))] F) ∨ (∃ x9 x10 x11, ∃ (y3 : SY ⊕ RY), e = .ret ∧ .inr (x9, x10, x11, y3) = o1 ∧ Has fr' 36 [] ∧ ∃ F, R y3 F ∧ HH g h' [.obj bx1w1 (.cells none 2 [.map (some bx1w1_0)]), .obj bx1w1_0 (.map 2 (BZ (fun k : List UInt8 => .str k) (fun v : Bool => .bool v) x1w1.DD)), .obj bp1 (.cells none 2 [vs AA p1]), .obj bp2 (.cells none 2 [.ptr (some (bp2_0, 0))]), .obj bp2_0 (.cells none 2 [vs AE p2_0.c_.Ah, vs AE p2_0.c_.Aj, vs AI p2_0.c_.Bj, .bool p2_0.c_.G1, .bool p2_0.c_.BE, Ai p2_0.c_.Bc, .bool p2_0.c_.B4, Ai p2_0.c_.Ay.Cf, Ai p2_0.c_.Ay.Bb, Ai p2_0.c_.Ge, Ai p2_0.c_.Bz, Ai p2_0.c_.Name, Ai p2_0.c_.Head, Ai p2_0.c_.BU, AF rp2_0_14 p2_0.AR.length, AF rp2_0_15 p2_0.AU.length, .ptr (some (bp2_0_16, 0)), .ptr (some (bp2_0_17, 0))]), .AL rp2_0_14 136 (AL (eP AB) p2_0.AR), .AL rp2_0_15 136 (AL (eP AB) p2_0.AU), .obj bp2_0_16 (.cells none 2 [AF rp2_0_16_0 p2_0.AX.l_.length, Ai p2_0.AX.BM]), .AL rp2_0_16_0 142 (AL (eP AJ) p2_0.AX.l_), .obj bp2_0_17 (.cells none 2 ([Ai x9, Ai x10] ++ (CW 257 (AD.int .i64) x11 ++ [])))] F) ∨ False) ?_ ?_
 ·refine Bv (by kernel_rfl) (fun (s : Int × Int × (Nat → Int) × Int × (SY ⊕ RY)) fr' h' => ∃ x2 x3 x4 x5, ∃ (y1 : SY ⊕ RY), (x2, x3, x4, x5, y1) = s ∧ Has fr' 36 [(0, .KJ l), (2, .ptr (some (bp2, 0))), (4, .ptr (some (bx1w1, 0))), (12, vs AA p1), (13, Ai (p1.length : Int)), (14, Ai x5)] ∧ ∃ F, R y1 F ∧ HH g h' [.obj bx1w1 (.cells none 2 [.map (some bx1w1_0)]), .obj bx1w1_0 (.map 2 (BZ (fun k : List UInt8 => .str k) (fun v : Bool => .bool v) x1w1.DD)), .obj bp1 (.cells none 2 [vs AA p1]), .obj bp2 (.cells none 2 [.ptr (some (bp2_0, 0))]), .obj bp2_0 (.cells none 2 [vs AE p2_0.c_.Ah, vs AE p2_0.c_.Aj, vs AI p2_0.c_.Bj, .bool p2_0.c_.G1, .bool p2_0.c_.BE, Ai p2_0.c_.Bc, .bool p2_0.c_.B4, Ai p2_0.c_.Ay.Cf, Ai p2_0.c_.Ay.Bb, Ai p2_0.c_.Ge, Ai p2_0.c_.Bz, Ai p2_0.c_.Name, Ai p2_0.c_.Head, Ai p2_0.c_.BU, AF rp2_0_14 p2_0.AR.length, AF rp2_0_15 p2_0.AU.length, .ptr (some (bp2_0_16, 0)), .ptr (some (bp2_0_17, 0))]), .AL rp2_0_14 136 (AL (eP AB) p2_0.AR), .AL rp2_0_15 136 (AL (eP AB) p2_0.AU), .obj bp2_0_16 (.cells none 2 [AF rp2_0_16_0 p2_0.AX.l_.length, Ai p2_0.AX.BM]), .AL rp2_0_16_0 142 (AL (eP AJ) p2_0.AX.l_), .obj bp2_0_17 (.cells none 2 ([Ai x2, Ai x3] ++ (CW 257 (AD.int .i64) x4 ++ [])))] F) ho ⟨p2_0.Ae.n_, p2_0.Ae.An, p2_0.Ae.Aw, (0 : Int), y, rfl, H.ls, ⟨F, B, A⟩⟩ ?_
  clear ho hm H A
  intro s q fr h2 hI hm
  obtain ⟨x2, x3, x4, x5, y1, rfl, H, ⟨F, B, A⟩⟩ := hI
  unfold B9 at hm
  refine AH 1 (AP 1 [(15, .bool (decide (x5 < (p1.length : Int))))] H fun fr H => AV (Ak 15 H hm (fun hb hm H => ?_) fun hb hm H => ?_))
  ·refine Br id (AV (Aa (id := 1) (by kernel_rfl) ?_))
   refine AH 6 ?_
   obtain ⟨x12, hx, hm⟩ := bind_some hm
   refine Ax 1 [(16, Ai x5)] 17 (.BC (AA x12)) h2 H (fun fr => .of (Ht (e := AA) (x := x12) BL (by decide) (by kernel_rfl) hx)) fun fr t H => ?_
   refine As 18 (.agg (AA x12)) h2 H (fun fr => .of (IQ (by kernel_rfl))) fun fr t H => ?_
   obtain ⟨h3, e1, A⟩ := A.pu (.cells none 2 [.str ([] : List UInt8), .str ([] : List UInt8), Ab 0, Ai 0, Ai 0, Ai 0, .str ([] : List UInt8), .str ([] : List UInt8), Ai 0, Ai 0, Ai 0, Ai 0, .slice none 0, .str ([] : List UInt8)])
   refine A7 6 (.ptr (some (h2.size, 0))) e1 H fun fr t H => ?_
   obtain ⟨h4, hx, A⟩ := A.s0 0 (AA x12) [_, _, _, _, _, _, _, _, _, _, _, _, _, _]
   refine Fs 1 [(5, Ai x5)] hx H fun fr t H => ?_
   refine Cb 12 id (Ek 20 4 0 A H fun fr t H => ?_)
   refine As 21 _ _ H (fun fr => .of (B5 (by kernel_rfl) (A.GQ 0 rfl (o := 0) (n := 14) ⟨Nat.le_of_ble_eq_true rfl, rfl⟩))) fun fr t H => ?_
   replace A : HH g h4 [_, _, _, _, _, _, _, _, _, _, _] F := ((((((((A.front 2 rfl).front 2 rfl).front 10 rfl).front 10 rfl).front 10 rfl).front 10 rfl).front 10 rfl).front 10 rfl)
   obtain ⟨⟨x13, x14, x15, x16⟩, hx, hm⟩ := bind_some hm
   obtain ⟨v1, h5, hr, rfl, A1⟩ := Fe (av := [.ptr (some (bp2_0, 0)), .agg (AA x12), .ptr (some (bx1w1, 0))]) hx (A.cut 8)
   replace A : HH g h5 [.obj bp2_0 (.cells none 2 [_, _, _, _, _, _, _, _, _, _, _, _, _, _, _, _, _, _]), .AL rp2_0_14 136 (AL (eP AB) p2_0.AR), .AL rp2_0_15 136 (AL (eP AB) p2_0.AU), .obj bp2_0_16 (.cells none 2 [AF rp2_0_16_0 p2_0.AX.l_.length, Ai p2_0.AX.BM]), .AL rp2_0_16_0 142 (AL (eP AJ) p2_0.AX.l_), .obj bp2_0_17 (.cells none 2 ([Ai x16.n_, Ai x16.An] ++ (CW 257 (AD.int .i64) x16.Aw ++ []))), .obj bx1w1 (.cells none 2 [.map (some bx1w1_0)]), .obj bx1w1_0 (.map 2 (BZ (fun k : List UInt8 => .str k) (fun v : Bool => .bool v) x1w1.DD)), _, _, _] F := A.CY (n := 8) A1
   refine BD 1 [] 23 hr H fun fr t H => ?_
   obtain ⟨h6, e2, A⟩ := A.pu (.cells none 2 [.str ([] : List UInt8), .str ([] : List UInt8), Ab 0, Ai 0, Ai 0, Ai 0, .str ([] : List UInt8), .str ([] : List UInt8), Ai 0, Ai 0, Ai 0, Ai 0, .slice none 0, .str ([] : List UInt8)])
   refine JI 4 [(24, .agg (AA x13)), (25, Ai x14), (26, Ai x15)] 7 (.ptr (some (h5.size, 0))) e2 H fun fr t H => ?_
   obtain ⟨h7, hx, A⟩ := A.s0 0 (AA x13) [_, _, _, _, _, _, _, _, _, _, _, _, _, _]
   refine FX hx H fun fr t H => ?_
   refine Bn 2 [(8, Ai x14), (9, Ai x15)] 8 H fun fr H => Ax 2 [(27, .KJ l), (28, Ai x5)] 29 _ _ H (fun fr => .of (B5 (by kernel_rfl) (A.GQ 0 rfl (o := 0) (n := 14) ⟨Nat.le_of_ble_eq_true rfl, rfl⟩))) fun fr t H => ?_
   obtain ⟨⟨x17, y4⟩, hx, hm⟩ := bind_some hm
   obtain ⟨h8, F, hr, B, A⟩ := hYR.SI (pr := []) .nil A B hx
   refine Ax 3 [] 33 (.bool x17) h8 H (fun fr => Steps.round (by kernel_rfl) hr) fun fr t H => ?_
   refine AP 1 [(34, .bool (!x17))] H fun fr H => Ak 34 H hm (fun hb hm H => ?_) fun hb hm H => ?_
   ·refine AY ?_
    replace A : HH g h8 [.obj bx1w1 (.cells none 2 [.map (some bx1w1_0)]), .obj bx1w1_0 (.map 2 (BZ (fun k : List UInt8 => .str k) (fun v : Bool => .bool v) x1w1.DD)), .obj bp1 (.cells none 2 [vs AA p1]), .obj bp2 (.cells none 2 [.ptr (some (bp2_0, 0))]), .obj bp2_0 (.cells none 2 [vs AE p2_0.c_.Ah, vs AE p2_0.c_.Aj, vs AI p2_0.c_.Bj, .bool p2_0.c_.G1, .bool p2_0.c_.BE, Ai p2_0.c_.Bc, .bool p2_0.c_.B4, Ai p2_0.c_.Ay.Cf, Ai p2_0.c_.Ay.Bb, Ai p2_0.c_.Ge, Ai p2_0.c_.Bz, Ai p2_0.c_.Name, Ai p2_0.c_.Head, Ai p2_0.c_.BU, AF rp2_0_14 p2_0.AR.length, AF rp2_0_15 p2_0.AU.length, .ptr (some (bp2_0_16, 0)), .ptr (some (bp2_0_17, 0))]), .AL rp2_0_14 136 (AL (eP AB) p2_0.AR), .AL rp2_0_15 136 (AL (eP AB) p2_0.AU), .obj bp2_0_16 (.cells none 2 [AF rp2_0_16_0 p2_0.AX.l_.length, Ai p2_0.AX.BM]), .AL rp2_0_16_0 142 (AL (eP AJ) p2_0.AX.l_), .obj bp2_0_17 (.cells none 2 ([Ai x16.n_, Ai x16.An] ++ (CW 257 (AD.int .i64) x16.Aw ++ [])))] F := (HH.H2 ((((((((((A.front 6 rfl).front 6 rfl).front 6 rfl).front 6 rfl).front 6 rfl).front 6 rfl).front 11 rfl).front 11 rfl).front 10 rfl).front 10 rfl) 10)
    exact nr hm fun e => Or.inr (.inl ⟨x16.n_, x16.An, x16.Aw, y4, rfl, e, H.ls, ⟨F, B, A⟩⟩)
   refine Fg 2 id (Bk 2 [(0, .KJ l), (2, .ptr (some (bp2, 0))), (4, .ptr (some (bx1w1, 0))), (12, vs AA p1), (13, Ai (p1.length : Int)), (14, Ai (IntKind.i64.wrap (x5 + 1)))] H fun fr H => at_nil ?_)
   replace A : HH g h8 [.obj bx1w1 (.cells none 2 [.map (some bx1w1_0)]), .obj bx1w1_0 (.map 2 (BZ (fun k : List UInt8 => .str k) (fun v : Bool => .bool v) x1w1.DD)), .obj bp1 (.cells none 2 [vs AA p1]), .obj bp2 (.cells none 2 [.ptr (some (bp2_0, 0))]), .obj bp2_0 (.cells none 2 [vs AE p2_0.c_.Ah, vs AE p2_0.c_.Aj, vs AI p2_0.c_.Bj, .bool p2_0.c_.G1, .bool p2_0.c_.BE, Ai p2_0.c_.Bc, .bool p2_0.c_.B4, Ai p2_0.c_.Ay.Cf, Ai p2_0.c_.Ay.Bb, Ai p2_0.c_.Ge, Ai p2_0.c_.Bz, Ai p2_0.c_.Name, Ai p2_0.c_.Head, Ai p2_0.c_.BU, AF rp2_0_14 p2_0.AR.length, AF rp2_0_15 p2_0.AU.length, .ptr (some (bp2_0_16, 0)), .ptr (some (bp2_0_17, 0))]), .AL rp2_0_14 136 (AL (eP AB) p2_0.AR), .AL rp2_0_15 136 (AL (eP AB) p2_0.AU), .obj bp2_0_16 (.cells none 2 [AF rp2_0_16_0 p2_0.AX.l_.length, Ai p2_0.AX.BM]), .AL rp2_0_16_0 142 (AL (eP AJ) p2_0.AX.l_), .obj bp2_0_17 (.cells none 2 ([Ai x16.n_, Ai x16.An] ++ (CW 257 (AD.int .i64) x16.Aw ++ [])))] F := (HH.H2 ((((((((((A.front 6 rfl).front 6 rfl).front 6 rfl).front 6 rfl).front 6 rfl).front 6 rfl).front 11 rfl).front 11 rfl).front 10 rfl).front 10 rfl) 10)
   exact nx hm ⟨x16.n_, x16.An, x16.Aw, IntKind.i64.wrap (x5 + 1), y4, rfl, H.ls, ⟨F, B, A⟩⟩
  refine Bh (i := 0) (by kernel_rfl) ?_
  exact nr hm fun e => .inl ⟨x2, x3, x4, y1, rfl, e, H.ls, ⟨F, B, A⟩⟩
 clear ho
 clear A
 intro e fr h9 hQ
 rcases hQ with ⟨x6, x7, x8, y2, rfl, rfl, H, ⟨F, B, A⟩⟩ | ⟨x9, x10, x11, y3, rfl, rfl, H, ⟨F, B, A⟩⟩ | hF
 ·obtain ⟨rfl, rfl⟩ := C9 hm
  refine ⟨.inr rfl, .tuple [], rH H, ?_⟩
  replace A := A.k8 2 3 4 5 6 7 8 9
  exact ⟨rfl, ⟨F, B, A⟩⟩
 ·obtain ⟨rfl, rfl⟩ := C9 hm
  refine ⟨.inl rfl, .tuple [], rH H, ?_⟩
  replace A := A.k8 2 3 4 5 6 7 8 9
  exact ⟨rfl, ⟨F, B, A⟩⟩
 exact hF.elim
def DF (s : (List AK)) (v1 : Int × Ch) : Option (((List AK)) ⊕ (((List AK) × Int × Int))) :=
 match s with
 | x4 => Af (v1.2.e_ != 0) (some (.inr (x4, v1.2.e_, v1.1))) (Af (v1.2.RI == 0) (Fh (Np 168 (x4.length + ([v1.2.m_] : List AK).length)) <| some (.inl (x4 ++ ([v1.2.m_] : List AK)))) (some (.inl x4)))
def Fp (p0 : Bq) (p1 : List AK) : Option ((List AK) × Int × Int) :=
 (HD p0).bind fun (w2, x2) => (match w2 with | some x1w1 => Af (x2 != 0) (some (([] : List AK), (0 : Int), x2)) ((EH x1w1 p1).bind fun x3_10 => (DY (DF) (.inl ([] : List AK)) x3_10 x1w1).bind fun (x8, y1) => (match y1 with | .inl x4 => some (x4, (0 : Int), (0 : Int)) | .inr (x5, x6, x7) => some (x5, x7, x6))) | none => Af (x2 != 0) (some (([] : List AK), (0 : Int), x2)) (none))
theorem M7 {p0 p1 q0 q1 q2} (hm : Fp p0 p1 = some (q0, q1, q2)) (A : HH g h [] F) (hc : BH (cfg.still 19) av = [.agg (AO p0), vs AA p1] := by kernel_rfl) : ∃ v h', BN cfg g h 19 av v h' ∧ ∃ (rq0 : Option Nat), v = .tuple [AF rq0 q0.length, Ai q1, Ai q2] ∧ HH g h' [.AL rq0 44 (AL AA q0)] F := by
 refine Dr 41 [.cell 4 55, .cell 5 3, .cell 6 33] hc ?_
 clear hc
 unfold Fp at hm
 refine bg 41 [(0, .agg (AO p0)), (1, vs AA p1)] fun fr H => ?_
 refine AH 4 ?_
 obtain ⟨h1, e1, A⟩ := A.pu (.cells none 2 (AO p0))
 refine A7 2 (.ptr (some (h.size, 0))) e1 H fun fr t H => ?_
 obtain ⟨h2, e2, A⟩ := A.pu (.cells none 2 [.slice none 0])
 refine A7 4 (.ptr (some (h1.size, 0))) e2 H fun fr t H => ?_
 obtain ⟨h3, e3, A⟩ := A.pu (.cells none 2 [Ai 0])
 refine A7 5 (.ptr (some (h2.size, 0))) e3 H fun fr t H => ?_
 obtain ⟨h4, e4, A⟩ := A.pu (.cells none 2 [Ai 0])
 refine A7 6 (.ptr (some (h3.size, 0))) e4 H fun fr t H => ?_
 refine Cb 7 id (As 13 _ _ H (fun fr => .of (B5 (by kernel_rfl) (A.GQ 3 rfl (o := 0) (n := 14) ⟨Nat.le_of_ble_eq_true rfl, rfl⟩))) fun fr t H => ?_)
 obtain ⟨⟨w2, x2⟩, hx, hm⟩ := bind_some hm
 obtain ⟨v1, h5, hr, hc⟩ := Lz (av := [.agg (AO p0)]) hx (A.cut 0)
 rcases hc with ⟨bx1w1, rx1w1_14, rx1w1_15, bx1w1_16, rx1w1_16_0, bx1w1_17, x1w1, rfl, rfl, A1⟩ | ⟨rfl, rfl, A1⟩
 ·replace A : HH g h5 [.obj bx1w1 (.cells none 2 [vs AE x1w1.c_.Ah, vs AE x1w1.c_.Aj, vs AI x1w1.c_.Bj, .bool x1w1.c_.G1, .bool x1w1.c_.BE, Ai x1w1.c_.Bc, .bool x1w1.c_.B4, Ai x1w1.c_.Ay.Cf, Ai x1w1.c_.Ay.Bb, Ai x1w1.c_.Ge, Ai x1w1.c_.Bz, Ai x1w1.c_.Name, Ai x1w1.c_.Head, Ai x1w1.c_.BU, AF rx1w1_14 x1w1.AR.length, AF rx1w1_15 x1w1.AU.length, .ptr (some (bx1w1_16, 0)), .ptr (some (bx1w1_17, 0))]), .AL rx1w1_14 136 (AL (eP AB) x1w1.AR), .AL rx1w1_15 136 (AL (eP AB) x1w1.AU), .obj bx1w1_16 (.cells none 2 [AF rx1w1_16_0 x1w1.AX.l_.length, Ai x1w1.AX.BM]), .AL rx1w1_16_0 142 (AL (eP AJ) x1w1.AX.l_), .obj bx1w1_17 (.cells none 2 ([Ai x1w1.Ae.n_, Ai x1w1.Ae.An] ++ (CW 257 (AD.int .i64) x1w1.Ae.Aw ++ []))), .obj h3.size (.cells none 2 [Ai (0 : Int)]), .obj h2.size (.cells none 2 [Ai (0 : Int)]), .obj h1.size (.cells none 2 [.slice none 0]), .obj h.size (.cells none 2 (AO p0))] F := A.CY (n := 0) A1
  refine A8 14 hr H fun fr t H => ?_
  refine AP 5 [(7, .ptr (some (bx1w1, 0))), (8, Ai x2)] H fun fr H => AV (AH 2 (AP 2 [(18, .bool (x2 != 0))] H fun fr H => Ak 18 H hm (fun hb hm H => ?_) fun hb hm H => ?_))
  ·refine AH 4 ?_
   obtain ⟨h6, hx, A⟩ := A.s8 0 [.slice none 0] [_]
   refine FH 1 [(19, Ai x2)] hx H fun fr t H => ?_
   obtain ⟨h7, hx, A⟩ := A.s7 0 [Ai 0] [_]
   refine Ep hx H fun fr t H => ?_
   obtain ⟨h8, hx, A⟩ := A.s6 0 [Ai x2] [_]
   refine Ep hx H fun fr t H => ?_
   refine BF id (AY ?_)
   obtain ⟨rfl, rfl, rfl⟩ := HY hm
   refine ⟨.inl rfl, .tuple [.slice none 0, Ai 0, Ai x2], B8 (.cell (rT H) (C3 (by kernel_rfl) (A.l1 8 0)) (.cell (rT H) (C3 (by kernel_rfl) (A.l1 7 0)) (.cell (rT H) (C3 (by kernel_rfl) (A.l1 6 0)) .nil))), ?_⟩
   replace A : HH g h8 [.AL none 44 (AL AA ([] : List AK)), _, _, _, _, _, _, _, _, _, _] F := A.I5 44
   replace A := A.d1
   exact ⟨none, rfl, A⟩
  refine Cc 1 id ?_
  obtain ⟨h9, e5, A⟩ := A.pu (.cells none 2 [.slice none 0])
  refine A7 9 (.ptr (some (h5.size, 0))) e5 H fun fr t H => ?_
  refine BF id (AV (AH 3 ?_))
  replace A : HH g h9 [_, _, _, _, _, _, .obj h5.size (.cells none 2 [.slice none 0]), _, _, _, _] F := ((((((A.front 6 rfl).front 6 rfl).front 6 rfl).front 6 rfl).front 6 rfl).front 6 rfl)
  obtain ⟨x3_10, hx, hm⟩ := bind_some hm
  obtain ⟨v1, h10, hr, bqw4_10, bqw4_11, rfl, A1⟩ := Jv (av := [.ptr (some (bx1w1, 0)), vs AA p1]) hx (A.cut 6)
  replace A : HH g h10 [.obj bqw4_10 (.cells none 2 [vs AA x3_10]), .obj bqw4_11 (.cells none 2 [.ptr (some (bx1w1, 0))]), .obj bx1w1 (.cells none 2 [_, _, _, _, _, _, _, _, _, _, _, _, _, _, _, _, _, _]), .AL rx1w1_14 136 (AL (eP AB) x1w1.AR), .AL rx1w1_15 136 (AL (eP AB) x1w1.AU), .obj bx1w1_16 (.cells none 2 [AF rx1w1_16_0 x1w1.AX.l_.length, Ai x1w1.AX.BM]), .AL rx1w1_16_0 142 (AL (eP AJ) x1w1.AX.l_), .obj bx1w1_17 (.cells none 2 ([Ai x1w1.Ae.n_, Ai x1w1.Ae.An] ++ (CW 257 (AD.int .i64) x1w1.Ae.Aw ++ []))), _, _, _, _, _] F := A.CY (n := 6) A1
  refine BD 2 [] 22 hr H fun fr t H => ?_
  refine BF id (Aa (id := 0) (by kernel_rfl) ?_)
  replace A : HH g h10 [.AL none 44 (AL AA ([] : List AK)), _, _, _, _, _, _, _, _, _, _, _, _, _] F := A.I5 44
  replace A : HH g h10 [_, _, _, _, _, _, _, _, _, .obj h5.size (.cells none 2 [AF none (([] : List AK).length)]), _, _, _, _] F := ((((((((((((((A.front 13 rfl).front 13 rfl).front 13 rfl).front 13 rfl).front 13 rfl).front 5 rfl).front 13 rfl).front 13 rfl).front 13 rfl).front 13 rfl).front 13 rfl).front 13 rfl).front 13 rfl).front 13 rfl)
  obtain ⟨⟨x8, y1⟩, ho, hm⟩ := bind_some hm
  refine M5 (C := cfg) (x := .tmp 22) (ps := [23, 24]) (f' := 89) (first := []) (cap := [.ptr (some (bqw4_10, 0)), .ptr (some (bqw4_11, 0))]) (Lu := [.obj bqw4_10 (.cells none 2 [vs AA x3_10]), .obj bqw4_11 (.cells none 2 [.ptr (some (bx1w1, 0))]), .obj bx1w1 (.cells none 2 [vs AE x1w1.c_.Ah, vs AE x1w1.c_.Aj, vs AI x1w1.c_.Bj, .bool x1w1.c_.G1, .bool x1w1.c_.BE, Ai x1w1.c_.Bc, .bool x1w1.c_.B4, Ai x1w1.c_.Ay.Cf, Ai x1w1.c_.Ay.Bb, Ai x1w1.c_.Ge, Ai x1w1.c_.Bz, Ai x1w1.c_.Name, Ai x1w1.c_.Head, Ai x1w1.c_.BU, AF rx1w1_14 x1w1.AR.length, AF rx1w1_15 x1w1.AU.length, .ptr (some (bx1w1_16, 0)), .ptr (some (bx1w1_17, 0))]), .AL rx1w1_14 136 (AL (eP AB) x1w1.AR), .AL rx1w1_15 136 (AL (eP AB) x1w1.AU), .obj bx1w1_16 (.cells none 2 [AF rx1w1_16_0 x1w1.AX.l_.length, Ai x1w1.AX.BM]), .AL rx1w1_16_0 142 (AL (eP AJ) x1w1.AX.l_), .obj bx1w1_17 (.cells none 2 ([Ai x1w1.Ae.n_, Ai x1w1.Ae.An] ++ (CW 257 (AD.int .i64) x1w1.Ae.Aw ++ [])))]) (Lc := [.AL none 44 (AL AA ([] : List AK)), .obj h5.size (.cells none 2 [AF none (([] : List AK).length)]), .obj h3.size (.cells none 2 [Ai 0]), .obj h2.size (.cells none 2 [Ai 0]), .obj h1.size (.cells none 2 [.slice none 0]), .obj h.size (.cells none 2 (AO p0))]) (F := F) (ex := fun x => [Ai x.1, .agg (B3 x.2)]) (Y := DF) (PL := fun s Lc => ∃ (x4 : List AK), x4 = s ∧ ∃ (r1 : Option Nat), Lc = [.AL r1 44 (AL AA x4), .obj h5.size (.cells none 2 [AF r1 x4.length]), .obj h3.size (.cells none 2 [Ai 0]), .obj h2.size (.cells none 2 [Ai 0]), .obj h1.size (.cells none 2 [.slice none 0]), .obj h.size (.cells none 2 (AO p0))]) (PR := fun r Lc => (∃ (x5 : List AK) (x6 : Int) (x7 : Int), (x5, x6, x7) = r ∧ ∃ (r2 : Option Nat), Lc = [.AL r2 44 (AL AA x5), .obj h5.size (.cells none 2 [AF r2 x5.length]), .obj h3.size (.cells none 2 [Ai x6]), .obj h2.size (.cells none 2 [Ai x7]), .obj h1.size (.cells none 2 [AF r2 x5.length]), .obj h.size (.cells none 2 (AO p0))]) ∨ False) (pe := fun _ => .ret) (s := ([] : List AK)) (y := y1) (PU := fun L => L = [.obj bqw4_10 (.cells none 2 [vs AA x3_10]), .obj bqw4_11 (.cells none 2 [.ptr (some (bx1w1, 0))]), .obj bx1w1 (.cells none 2 [vs AE x1w1.c_.Ah, vs AE x1w1.c_.Aj, vs AI x1w1.c_.Bj, .bool x1w1.c_.G1, .bool x1w1.c_.BE, Ai x1w1.c_.Bc, .bool x1w1.c_.B4, Ai x1w1.c_.Ay.Cf, Ai x1w1.c_.Ay.Bb, Ai x1w1.c_.Ge, Ai x1w1.c_.Bz, Ai x1w1.c_.Name, Ai x1w1.c_.Head, Ai x1w1.c_.BU, AF rx1w1_14 x1w1.AR.length, AF rx1w1_15 x1w1.AU.length, .ptr (some (bx1w1_16, 0)), .ptr (some (bx1w1_17, 0))]), .AL rx1w1_14 136 (AL (eP AB) x1w1.AR), .AL rx1w1_15 136 (AL (eP AB) x1w1.AU), .obj bx1w1_16 (.cells none 2 [AF rx1w1_16_0 x1w1.AX.l_.length, Ai x1w1.AX.BM]), .AL rx1w1_16_0 142 (AL (eP AJ) x1w1.AX.l_), .obj bx1w1_17 (.cells none 2 ([Ai x8.n_, Ai x8.An] ++ (CW 257 (AD.int .i64) x8.Aw ++ [])))]) (by kernel_rfl) H (fun fr => by kernel_rfl) (by kernel_rfl) (fun _ => rfl) (by kernel_rfl) A ⟨([] : List AK), rfl, none, rfl⟩ ?_ ?_ ?_ ?_ ?_
  ·refine KY H (kn := fun v1 => [(4, .ptr (some (h1.size, 0))), (5, .ptr (some (h2.size, 0))), (6, .ptr (some (h3.size, 0))), (9, .ptr (some (h5.size, 0))), (23, Ai v1.1), (24, .agg (B3 v1.2))]) (fun v1 fr => by kernel_rfl) ?_
   clear ho hm A H
   intro g h11 F s v1 o Lc fr H hP hm A
   obtain ⟨x4, rfl, r1, rfl⟩ := hP
   unfold DF at hm
   show AW _ _ _ _ _ _ _
   refine AH 1 (Bk 1 [(4, .ptr (some (h1.size, 0))), (5, .ptr (some (h2.size, 0))), (6, .ptr (some (h3.size, 0))), (9, .ptr (some (h5.size, 0))), (10, Ai v1.1), (24, .agg (B3 v1.2))] H fun fr H => Ij 2 id ?_)
   obtain ⟨h12, e6, A⟩ := A.pu (.cells none 2 [.str ([] : List UInt8), .str ([] : List UInt8), Ab 0, Ai 0, Ai 0, Ai 0, .str ([] : List UInt8), .str ([] : List UInt8), Ai 0, Ai 0, Ai 0, Ai 0, .slice none 0, .str ([] : List UInt8), Ai 0, Ai 0])
   refine A7 11 (.ptr (some (h11.size, 0))) e6 H fun fr t H => ?_
   obtain ⟨h13, hx, A1⟩ := A.st 0 rfl (o := 0) (new := [.str v1.2.m_.Name, .str v1.2.m_.Be, Ab v1.2.m_.Kind, Ai v1.2.m_.Mode, Ai v1.2.m_.De, Ai v1.2.m_.ET, .str v1.2.m_.B1, .str v1.2.m_.CI, Ai v1.2.m_.CG, Ai v1.2.m_.Da, Ai v1.2.m_.Time.Cf, Ai v1.2.m_.Time.Bb, vs Ad v1.2.m_.Extra, .str v1.2.m_.Data, Ai v1.2.RI, Ai v1.2.e_]) (ds := [.str v1.2.m_.Name, .str v1.2.m_.Be, Ab v1.2.m_.Kind, Ai v1.2.m_.Mode, Ai v1.2.m_.De, Ai v1.2.m_.ET, .str v1.2.m_.B1, .str v1.2.m_.CI, Ai v1.2.m_.CG, Ai v1.2.m_.Da, Ai v1.2.m_.Time.Cf, Ai v1.2.m_.Time.Bb, vs Ad v1.2.m_.Extra, .str v1.2.m_.Data, Ai v1.2.RI, Ai v1.2.e_]) (Nat.le_of_ble_eq_true rfl) rfl rfl
   replace A : HH g h13 [.obj h11.size (.cells none 2 (B3 v1.2)), .AL r1 44 (AL AA x4), .obj h5.size (.cells none 2 [AF r1 x4.length]), .obj h3.size (.cells none 2 [Ai 0]), .obj h2.size (.cells none 2 [Ai 0]), .obj h1.size (.cells none 2 [.slice none 0]), .obj h.size (.cells none 2 (AO p0))] F := A1
   refine FX hx H fun fr t H => ?_
   refine at_nil ?_
   refine ⟨rfl, _, A, ?_⟩
   clear A
   intro h14 F A
   show AW _ _ _ _ _ _ _
   refine Aa (id := 1) (by kernel_rfl) ?_
   refine AV (AH 3 (AZ 1 [] 26 0 15 A H fun fr t H => ?_))
   refine AP 1 [(27, .bool (v1.2.e_ != 0))] H fun fr H => Ak 27 H hm (fun hb hm H => ?_) fun hb hm H => ?_
   ·refine AV (Kg 9 7 [(0, []), (1, []), (2, []), (3, []), (4, [3]), (5, [3]), (6, [])] ?_)
    refine CO 28 (AF r1 x4.length) h14 [(0, h5.size)] (g.Bm) H (fun fr => .of (DU (by kernel_rfl) (A.l1 2 0))) (fun fr H => ?_)
    refine AG 2 [(29, Ai v1.1), (30, .ptr (some (h11.size, 15)))] H fun fr H => CO 31 (Ai v1.2.e_) h14 [(3, h11.size), (0, h5.size)] (g.Bm) H (fun fr => .of (DU (by kernel_rfl) (A.l1 0 15))) (fun fr H => ?_)
    replace A : HH g h14 [.obj h1.size (.cells none 2 [.slice none 0]), .obj h11.size (.cells none 2 (B3 v1.2)), .AL r1 44 (AL AA x4), .obj h5.size (.cells none 2 [AF r1 x4.length]), .obj h3.size (.cells none 2 [Ai 0]), .obj h2.size (.cells none 2 [Ai 0]), .obj h.size (.cells none 2 (AO p0))] F := (A.front 5 rfl)
    have A1 := A.G4 1 (pr := [h11.size]) (.cons 0 rfl (by simp [Ck.ids]) .nil)
    obtain ⟨h15, hx, A1⟩ := A1.st 0 rfl (o := 0) (new := [AF r1 x4.length]) (ds := [AF r1 x4.length]) (Nat.le_of_ble_eq_true rfl) rfl rfl
    replace A := A.Wm A1
    refine I7 (.tuple []) h15 [(3, h11.size), (0, h5.size)] (h11.size :: g.Bm) H (fun fr => .of (MT (by kernel_rfl) rfl hx)) (fun fr H => ?_)
    replace A := A.k7 5 0 1 2 3 4 6
    have A1 := A.G4 1 (pr := [h11.size]) (.cons 1 rfl (by simp [Ck.ids]) .nil)
    obtain ⟨h16, hx, A1⟩ := A1.st 0 rfl (o := 0) (new := [Ai v1.1]) (ds := [Ai v1.1]) (Nat.le_of_ble_eq_true rfl) rfl rfl
    replace A := A.Wm A1
    refine I7 (.tuple []) h16 [(3, h11.size), (0, h5.size)] (h11.size :: g.Bm) H (fun fr => .of (MT (by kernel_rfl) rfl hx)) (fun fr H => ?_)
    obtain ⟨h17, hx, A⟩ := A.s5 0 [Ai v1.2.e_] [_]
    refine I7 (.tuple []) h17 [(3, h11.size), (0, h5.size)] (g.Bm) H (fun fr => .of (MT (by kernel_rfl) rfl hx)) (fun fr H => ?_)
    refine BF id (AY ?_)
    replace A := A.k6 3 4 5 0 1 6
    have e1 := Option.some.inj hm
    subst e1
    exact ⟨rfl, _, Or.inl ⟨x4, v1.2.e_, v1.1, rfl, r1, rfl⟩, A⟩
   refine Cc 3 id (AZ 1 [] 33 0 14 A H fun fr t H => ?_)
   refine AP 1 [(34, .bool (v1.2.RI == 0))] H fun fr H => Ak 34 H hm (fun hb hm H => ?_) fun hb hm H => ?_
   ·refine ED 6 (Ek 35 2 0 A H fun fr t H => ?_)
    refine Ax 1 [] 37 _ _ H (fun fr => .of (B5 (by kernel_rfl) (A.GQ 0 rfl (o := 0) (n := 14) ⟨Nat.le_of_ble_eq_true rfl, rfl⟩))) fun fr t H => ?_
    obtain ⟨h18, e7, A⟩ := A.pL 44 [.str v1.2.m_.Name, .str v1.2.m_.Be, Ab v1.2.m_.Kind, Ai v1.2.m_.Mode, Ai v1.2.m_.De, Ai v1.2.m_.ET, .str v1.2.m_.B1, .str v1.2.m_.CI, Ai v1.2.m_.CG, Ai v1.2.m_.Da, Ai v1.2.m_.Time.Cf, Ai v1.2.m_.Time.Bb, vs Ad v1.2.m_.Extra, .str v1.2.m_.Data]
    refine A7 38 (AF (some h14.size) (([v1.2.m_] : List AK).length)) e7 H fun fr t H => ?_
    obtain ⟨hb, hm⟩ := BQ hm
    obtain ⟨r3, h19, hx, A1⟩ := HH.Lo BL (by decide) A 2 (xs := x4) (ys := ([v1.2.m_] : List AK)) rfl (DM A 0 rfl (n := ([v1.2.m_] : List AK).length) (z := 14) rfl (by decide)) rfl rfl hb
    replace A : HH g h19 [.AL (some h14.size) 44 ([.str v1.2.m_.Name, .str v1.2.m_.Be, Ab v1.2.m_.Kind, Ai v1.2.m_.Mode, Ai v1.2.m_.De, Ai v1.2.m_.ET, .str v1.2.m_.B1, .str v1.2.m_.CI, Ai v1.2.m_.CG, Ai v1.2.m_.Da, Ai v1.2.m_.Time.Cf, Ai v1.2.m_.Time.Bb, vs Ad v1.2.m_.Extra, .str v1.2.m_.Data]), .obj h11.size (.cells none 2 (B3 v1.2)), .AL r3 44 (AL AA (x4 ++ ([v1.2.m_] : List AK))), .obj h5.size (.cells none 2 [AF r1 x4.length]), .obj h3.size (.cells none 2 [Ai 0]), .obj h2.size (.cells none 2 [Ai 0]), .obj h1.size (.cells none 2 [.slice none 0]), .obj h.size (.cells none 2 (AO p0))] F := A1
    replace A := A.k7 1 2 3 4 5 6 7
    refine As 39 _ _ H (fun fr => .of (IE (s := DP r1 x4.length) (by kernel_rfl) hx)) fun fr t H => ?_
    obtain ⟨h20, hx, A1⟩ := A.st 2 rfl (o := 0) (new := [AF r3 ((x4 ++ ([v1.2.m_] : List AK)).length)]) (ds := [AF r3 ((x4 ++ ([v1.2.m_] : List AK)).length)]) (Nat.le_of_ble_eq_true rfl) rfl rfl
    replace A : HH g h20 [_, _, .obj h5.size (.cells none 2 [AF r3 ((x4 ++ ([v1.2.m_] : List AK)).length)]), _, _, _, _] F := A1
    refine Ep hx H fun fr t H => ?_
    refine at_nil ?_
    replace A := A.k6 1 2 3 4 5 6
    have e1 := Option.some.inj hm
    subst e1
    exact ⟨rfl, _, ⟨(x4 ++ ([v1.2.m_] : List AK)), rfl, r3, rfl⟩, A⟩
   refine HG ?_
   replace A : HH g h14 [.AL r1 44 (AL AA x4), .obj h5.size (.cells none 2 [AF r1 x4.length]), .obj h3.size (.cells none 2 [Ai 0]), .obj h2.size (.cells none 2 [Ai 0]), .obj h1.size (.cells none 2 [.slice none 0]), .obj h.size (.cells none 2 (AO p0))] F := (HH.H2 ((((((A.front 6 rfl).front 6 rfl).front 6 rfl).front 6 rfl).front 6 rfl).front 6 rfl) 6)
   have e1 := Option.some.inj hm
   subst e1
   exact ⟨rfl, _, ⟨x4, rfl, r1, rfl⟩, A⟩
  ·intro h1 l F1 R hYR B A
   obtain ⟨v1, h2, hr, _, F2, B, A⟩ := IT (av := [.KJ l, .ptr (some (bqw4_10, 0)), .ptr (some (bqw4_11, 0))]) ho (by kernel_rfl) hYR B A
   exact ⟨v1, h2, F2, _, hr, B, rfl, A⟩
  ·clear ho A
   intro s2 h21 Lc Lu ey hP hU A
   subst ey
   obtain ⟨x4, rfl, r1, rfl⟩ := hP
   subst hU
   replace A : HH g h21 [.obj bqw4_10 (.cells none 2 [vs AA x3_10]), .obj bqw4_11 (.cells none 2 [.ptr (some (bx1w1, 0))]), .obj bx1w1 (.cells none 2 [vs AE x1w1.c_.Ah, vs AE x1w1.c_.Aj, vs AI x1w1.c_.Bj, .bool x1w1.c_.G1, .bool x1w1.c_.BE, Ai x1w1.c_.Bc, .bool x1w1.c_.B4, Ai x1w1.c_.Ay.Cf, Ai x1w1.c_.Ay.Bb, Ai x1w1.c_.Ge, Ai x1w1.c_.Bz, Ai x1w1.c_.Name, Ai x1w1.c_.Head, Ai x1w1.c_.BU, AF rx1w1_14 x1w1.AR.length, AF rx1w1_15 x1w1.AU.length, .ptr (some (bx1w1_16, 0)), .ptr (some (bx1w1_17, 0))]), .AL rx1w1_14 136 (AL (eP AB) x1w1.AR), .AL rx1w1_15 136 (AL (eP AB) x1w1.AU), .obj bx1w1_16 (.cells none 2 [AF rx1w1_16_0 x1w1.AX.l_.length, Ai x1w1.AX.BM]), .AL rx1w1_16_0 142 (AL (eP AJ) x1w1.AX.l_), .obj bx1w1_17 (.cells none 2 ([Ai x8.n_, Ai x8.An] ++ (CW 257 (AD.int .i64) x8.Aw ++ []))), .AL r1 44 (AL AA x4), .obj h5.size (.cells none 2 [AF r1 x4.length]), .obj h3.size (.cells none 2 [Ai 0]), .obj h2.size (.cells none 2 [Ai 0]), .obj h1.size (.cells none 2 [.slice none 0]), .obj h.size (.cells none 2 (AO p0))] F := A
   show AW _ _ _ _ _ _ _
   refine AH 4 (OE (v := AF r1 x4.length) (h1 := h21) [(4, .ptr (some (h1.size, 0))), (5, .ptr (some (h2.size, 0))), (6, .ptr (some (h3.size, 0))), (40, AF r1 x4.length)] H (fun fr => by kernel_rfl) (fun fr => .of (DU (by kernel_rfl) (A.l1 9 0))) ?_)
   intro fr t H
   obtain ⟨h22, hx, A1⟩ := A.st 12 rfl (o := 0) (new := [AF r1 x4.length]) (ds := [AF r1 x4.length]) (Nat.le_of_ble_eq_true rfl) rfl rfl
   replace A : HH g h22 [_, _, _, _, _, _, _, _, _, _, _, _, .obj h1.size (.cells none 2 [AF r1 x4.length]), _] F := A1
   refine Ep hx H fun fr t H => ?_
   obtain ⟨h23, hx, A1⟩ := A.st 11 rfl (o := 0) (new := [Ai 0]) (ds := [Ai 0]) (Nat.le_of_ble_eq_true rfl) rfl rfl
   replace A : HH g h23 [_, _, _, _, _, _, _, _, _, _, _, _, _, _] F := A1
   refine Ep hx H fun fr t H => ?_
   obtain ⟨h24, hx, A1⟩ := A.st 10 rfl (o := 0) (new := [Ai 0]) (ds := [Ai 0]) (Nat.le_of_ble_eq_true rfl) rfl rfl
   replace A : HH g h24 [_, _, _, _, _, _, _, _, _, _, _, _, _, _] F := A1
   refine Ep hx H fun fr t H => ?_
   refine BF id (AY ?_)
   obtain ⟨rfl, rfl, rfl⟩ := HY hm
   refine ⟨.inl rfl, .tuple [AF r1 x4.length, Ai 0, Ai 0], B8 (.cell (rT H) (C3 (by kernel_rfl) (A.l1 12 0)) (.cell (rT H) (C3 (by kernel_rfl) (A.l1 11 0)) (.cell (rT H) (C3 (by kernel_rfl) (A.l1 10 0)) .nil))), ?_⟩
   replace A := A.k1 8
   exact ⟨r1, rfl, A⟩
  ·clear ho A
   intro r2 h21 Lc Lu e ey he hP hU A
   subst ey
   subst hU
   rcases hP with ⟨x5, x6, x7, rfl, r2, rfl⟩ | hF
   ·obtain rfl := KA he
    replace A : HH g h21 [.obj bqw4_10 (.cells none 2 [vs AA x3_10]), .obj bqw4_11 (.cells none 2 [.ptr (some (bx1w1, 0))]), .obj bx1w1 (.cells none 2 [vs AE x1w1.c_.Ah, vs AE x1w1.c_.Aj, vs AI x1w1.c_.Bj, .bool x1w1.c_.G1, .bool x1w1.c_.BE, Ai x1w1.c_.Bc, .bool x1w1.c_.B4, Ai x1w1.c_.Ay.Cf, Ai x1w1.c_.Ay.Bb, Ai x1w1.c_.Ge, Ai x1w1.c_.Bz, Ai x1w1.c_.Name, Ai x1w1.c_.Head, Ai x1w1.c_.BU, AF rx1w1_14 x1w1.AR.length, AF rx1w1_15 x1w1.AU.length, .ptr (some (bx1w1_16, 0)), .ptr (some (bx1w1_17, 0))]), .AL rx1w1_14 136 (AL (eP AB) x1w1.AR), .AL rx1w1_15 136 (AL (eP AB) x1w1.AU), .obj bx1w1_16 (.cells none 2 [AF rx1w1_16_0 x1w1.AX.l_.length, Ai x1w1.AX.BM]), .AL rx1w1_16_0 142 (AL (eP AJ) x1w1.AX.l_), .obj bx1w1_17 (.cells none 2 ([Ai x8.n_, Ai x8.An] ++ (CW 257 (AD.int .i64) x8.Aw ++ []))), .AL r2 44 (AL AA x5), .obj h5.size (.cells none 2 [AF r2 x5.length]), .obj h3.size (.cells none 2 [Ai x6]), .obj h2.size (.cells none 2 [Ai x7]), .obj h1.size (.cells none 2 [AF r2 x5.length]), .obj h.size (.cells none 2 (AO p0))] F := A
    obtain ⟨rfl, rfl, rfl⟩ := HY hm
    refine ⟨.inl rfl, .tuple [AF r2 x5.length, Ai x7, Ai x6], B8 (.cell (rT H) (C3 (by kernel_rfl) (A.l1 12 0)) (.cell (rT H) (C3 (by kernel_rfl) (A.l1 11 0)) (.cell (rT H) (C3 (by kernel_rfl) (A.l1 10 0)) .nil))), ?_⟩
    replace A := A.k1 8
    exact ⟨r2, rfl, A⟩
   exact hF.elim
  exact fun _ => ⟨.ret, rfl⟩
 replace A : HH g h5 [.obj h3.size (.cells none 2 [Ai (0 : Int)]), .obj h2.size (.cells none 2 [Ai (0 : Int)]), .obj h1.size (.cells none 2 [.slice none 0]), .obj h.size (.cells none 2 (AO p0))] F := A.CY (n := 0) A1
 refine A8 14 hr H fun fr t H => ?_
 refine AP 5 [(7, .ptr none), (8, Ai x2)] H fun fr H => AV (AH 2 (AP 2 [(18, .bool (x2 != 0))] H fun fr H => Ak 18 H hm (fun hb hm H => ?_) fun hb hm H => ?_))
 ·refine AH 4 ?_
  obtain ⟨h25, hx, A⟩ := A.s2 0 [.slice none 0] [_]
  refine FH 1 [(19, Ai x2)] hx H fun fr t H => ?_
  obtain ⟨h26, hx, A⟩ := A.s1 0 [Ai 0] [_]
  refine Ep hx H fun fr t H => ?_
  obtain ⟨h27, hx, A⟩ := A.s0 0 [Ai x2] [_]
  refine Ep hx H fun fr t H => ?_
  refine BF id (AY ?_)
  obtain ⟨rfl, rfl, rfl⟩ := HY hm
  refine ⟨.inl rfl, .tuple [.slice none 0, Ai 0, Ai x2], B8 (.cell (rT H) (C3 (by kernel_rfl) (A.l1 2 0)) (.cell (rT H) (C3 (by kernel_rfl) (A.l1 1 0)) (.cell (rT H) (C3 (by kernel_rfl) (A.l1 0 0)) .nil))), ?_⟩
  replace A : HH g h27 [.AL none 44 (AL AA ([] : List AK)), _, _, _, _] F := A.I5 44
  replace A := A.d1
  exact ⟨none, rfl, A⟩
 refine Cc 1 id ?_
 obtain ⟨h28, e8, A⟩ := A.pu (.cells none 2 [.slice none 0])
 refine A7 9 (.ptr (some (h5.size, 0))) e8 H fun fr t H => ?_
 refine BF id (AV (AH 3 ?_))
 cases hm
def EC (p0 : AK) (p1 : AK) : Option (Bool) :=
 (Af ((((((((((p0.Name == p1.Name) && (p0.Be == p1.Be)) && (p0.Kind == p1.Kind)) && (p0.Mode == p1.Mode)) && (p0.De == p1.De)) && (p0.ET == p1.ET)) && (p0.B1 == p1.B1)) && (p0.CI == p1.CI)) && (p0.CG == p1.CG)) && (p0.Da == p1.Da)) ((TB cfg.P 23 [Ai p0.Time.Cf, Ai p0.Time.Bb] [Ai p1.Time.Cf, Ai p1.Time.Bb]).bind fun x2 => some x2) (some false) : Option (Bool)).bind fun x1 => (Af x1 ((D9 p0.Extra p1.Extra).bind fun x4 => some x4) (some false) : Option (Bool)).bind fun x3 => some (x3 && (p0.Data == p1.Data))
theorem K8 {p0 p1 q0} (hm : EC p0 p1 = some q0) (A : HH g h [] F) (hc : BH (cfg.still 17) av = [.agg (AA p0), .agg (AA p1)] := by kernel_rfl) : ∃ v h', BN cfg g h 17 av v h' ∧ v = .bool q0 ∧ HH g h' [] F := by
 refine Dr 94 [.tmp 4] hc ?_
 clear hc
 unfold EC at hm
 refine bg 94 [(0, .agg (AA p0)), (1, .agg (AA p1))] fun fr H => ?_
 refine AH 3 ?_
 obtain ⟨h1, e1, A⟩ := A.pu (.cells none 2 (AA p0))
 refine A7 2 (.ptr (some (h.size, 0))) e1 H fun fr t H => ?_
 obtain ⟨h2, e2, A⟩ := A.pu (.cells none 2 (AA p1))
 refine A7 3 (.ptr (some (h1.size, 0))) e2 H fun fr t H => ?_
 refine Bn 1 [] 90 H fun fr H => AZ 1 [] 6 1 0 A H fun fr t H => ?_
 refine AZ 1 [] 8 0 0 A H fun fr t H => ?_
 refine AG 2 [(10, .bool (p0.Name == p1.Name))] H fun fr H => Aq 6 (fun fr' h' => h2 = h' ∧ Has fr' 94 [(2, .ptr (some (h.size, 0))), (3, .ptr (some (h1.size, 0))), (16, .bool ((p0.Name == p1.Name) && (p0.Be == p1.Be)))]) ?_ ?_
 ·cases hb : (p0.Name == p1.Name : Bool) with
  | true =>
   replace H := H.kn 10 hb
   refine AZ 1 [] 12 1 1 A H fun fr t H => ?_
   refine AZ 1 [] 14 0 1 A H fun fr t H => ?_
   exact AG 2 [(16, .bool (p0.Be == p1.Be))] H fun fr H => Ap H hb
  | false =>
   replace H := H.kn 10 hb
   exact AG 6 [(16, .bool false)] H fun fr H => Ap H hb
 intro t fr h' hK
 obtain ⟨e, H⟩ := hK
 subst e
 refine AG 1 [(17, .bool ((p0.Name == p1.Name) && (p0.Be == p1.Be)))] H fun fr H => Aq 6 (fun fr' h' => h2 = h' ∧ Has fr' 94 [(2, .ptr (some (h.size, 0))), (3, .ptr (some (h1.size, 0))), (23, .bool (((p0.Name == p1.Name) && (p0.Be == p1.Be)) && (p0.Kind == p1.Kind)))]) ?_ ?_
 ·cases hb : ((p0.Name == p1.Name) && (p0.Be == p1.Be) : Bool) with
  | true =>
   replace H := H.kn 17 hb
   refine AZ 1 [] 19 1 2 A H fun fr t H => ?_
   refine AZ 1 [] 21 0 2 A H fun fr t H => ?_
   exact AG 2 [(23, .bool (p0.Kind == p1.Kind))] H fun fr H => Ap H hb
  | false =>
   replace H := H.kn 17 hb
   exact AG 6 [(23, .bool false)] H fun fr H => Ap H hb
 intro t fr h' hK
 obtain ⟨e, H⟩ := hK
 subst e
 refine AG 1 [(24, .bool (((p0.Name == p1.Name) && (p0.Be == p1.Be)) && (p0.Kind == p1.Kind)))] H fun fr H => Aq 6 (fun fr' h' => h2 = h' ∧ Has fr' 94 [(2, .ptr (some (h.size, 0))), (3, .ptr (some (h1.size, 0))), (30, .bool ((((p0.Name == p1.Name) && (p0.Be == p1.Be)) && (p0.Kind == p1.Kind)) && (p0.Mode == p1.Mode)))]) ?_ ?_
 ·cases hb : (((p0.Name == p1.Name) && (p0.Be == p1.Be)) && (p0.Kind == p1.Kind) : Bool) with
  | true =>
   replace H := H.kn 24 hb
   refine AZ 1 [] 26 1 3 A H fun fr t H => ?_
   refine AZ 1 [] 28 0 3 A H fun fr t H => ?_
   exact AG 2 [(30, .bool (p0.Mode == p1.Mode))] H fun fr H => Ap H hb
  | false =>
   replace H := H.kn 24 hb
   exact AG 6 [(30, .bool false)] H fun fr H => Ap H hb
 intro t fr h' hK
 obtain ⟨e, H⟩ := hK
 subst e
 refine AG 1 [(31, .bool ((((p0.Name == p1.Name) && (p0.Be == p1.Be)) && (p0.Kind == p1.Kind)) && (p0.Mode == p1.Mode)))] H fun fr H => Aq 6 (fun fr' h' => h2 = h' ∧ Has fr' 94 [(2, .ptr (some (h.size, 0))), (3, .ptr (some (h1.size, 0))), (37, .bool (((((p0.Name == p1.Name) && (p0.Be == p1.Be)) && (p0.Kind == p1.Kind)) && (p0.Mode == p1.Mode)) && (p0.De == p1.De)))]) ?_ ?_
 ·cases hb : ((((p0.Name == p1.Name) && (p0.Be == p1.Be)) && (p0.Kind == p1.Kind)) && (p0.Mode == p1.Mode) : Bool) with
  | true =>
   replace H := H.kn 31 hb
   refine AZ 1 [] 33 1 4 A H fun fr t H => ?_
   refine AZ 1 [] 35 0 4 A H fun fr t H => ?_
   exact AG 2 [(37, .bool (p0.De == p1.De))] H fun fr H => Ap H hb
  | false =>
   replace H := H.kn 31 hb
   exact AG 6 [(37, .bool false)] H fun fr H => Ap H hb
 intro t fr h' hK
 obtain ⟨e, H⟩ := hK
 subst e
 refine AG 1 [(38, .bool (((((p0.Name == p1.Name) && (p0.Be == p1.Be)) && (p0.Kind == p1.Kind)) && (p0.Mode == p1.Mode)) && (p0.De == p1.De)))] H fun fr H => Aq 6 (fun fr' h' => h2 = h' ∧ Has fr' 94 [(2, .ptr (some (h.size, 0))), (3, .ptr (some (h1.size, 0))), (44, .bool ((((((p0.Name == p1.Name) && (p0.Be == p1.Be)) && (p0.Kind == p1.Kind)) && (p0.Mode == p1.Mode)) && (p0.De == p1.De)) && (p0.ET == p1.ET)))]) ?_ ?_
 ·cases hb : (((((p0.Name == p1.Name) && (p0.Be == p1.Be)) && (p0.Kind == p1.Kind)) && (p0.Mode == p1.Mode)) && (p0.De == p1.De) : Bool) with
  | true =>
   replace H := H.kn 38 hb
   refine AZ 1 [] 40 1 5 A H fun fr t H => ?_
   refine AZ 1 [] 42 0 5 A H fun fr t H => ?_
   exact AG 2 [(44, .bool (p0.ET == p1.ET))] H fun fr H => Ap H hb
  | false =>
   replace H := H.kn 38 hb
   exact AG 6 [(44, .bool false)] H fun fr H => Ap H hb
 intro t fr h' hK
 obtain ⟨e, H⟩ := hK
 subst e
 refine AG 1 [(45, .bool ((((((p0.Name == p1.Name) && (p0.Be == p1.Be)) && (p0.Kind == p1.Kind)) && (p0.Mode == p1.Mode)) && (p0.De == p1.De)) && (p0.ET == p1.ET)))] H fun fr H => Aq 6 (fun fr' h' => h2 = h' ∧ Has fr' 94 [(2, .ptr (some (h.size, 0))), (3, .ptr (some (h1.size, 0))), (51, .bool (((((((p0.Name == p1.Name) && (p0.Be == p1.Be)) && (p0.Kind == p1.Kind)) && (p0.Mode == p1.Mode)) && (p0.De == p1.De)) && (p0.ET == p1.ET)) && (p0.B1 == p1.B1)))]) ?_ ?_
 ·cases hb : ((((((p0.Name == p1.Name) && (p0.Be == p1.Be)) && (p0.Kind == p1.Kind)) && (p0.Mode == p1.Mode)) && (p0.De == p1.De)) && (p0.ET == p1.ET) : Bool) with
  | true =>
   replace H := H.kn 45 hb
   refine AZ 1 [] 47 1 6 A H fun fr t H => ?_
   refine AZ 1 [] 49 0 6 A H fun fr t H => ?_
   exact AG 2 [(51, .bool (p0.B1 == p1.B1))] H fun fr H => Ap H hb
  | false =>
   replace H := H.kn 45 hb
   exact AG 6 [(51, .bool false)] H fun fr H => Ap H hb
 intro t fr h' hK
 obtain ⟨e, H⟩ := hK
 subst e
 refine AG 1 [(52, .bool (((((((p0.Name == p1.Name) && (p0.Be == p1.Be)) && (p0.Kind == p1.Kind)) && (p0.Mode == p1.Mode)) && (p0.De == p1.De)) && (p0.ET == p1.ET)) && (p0.B1 == p1.B1)))] H fun fr H => Aq 6 (fun fr' h' => h2 = h' ∧ Has fr' 94 [(2, .ptr (some (h.size, 0))), (3, .ptr (some (h1.size, 0))), (58, .bool ((((((((p0.Name == p1.Name) && (p0.Be == p1.Be)) && (p0.Kind == p1.Kind)) && (p0.Mode == p1.Mode)) && (p0.De == p1.De)) && (p0.ET == p1.ET)) && (p0.B1 == p1.B1)) && (p0.CI == p1.CI)))]) ?_ ?_
 ·cases hb : (((((((p0.Name == p1.Name) && (p0.Be == p1.Be)) && (p0.Kind == p1.Kind)) && (p0.Mode == p1.Mode)) && (p0.De == p1.De)) && (p0.ET == p1.ET)) && (p0.B1 == p1.B1) : Bool) with
  | true =>
   replace H := H.kn 52 hb
   refine AZ 1 [] 54 1 7 A H fun fr t H => ?_
   refine AZ 1 [] 56 0 7 A H fun fr t H => ?_
   exact AG 2 [(58, .bool (p0.CI == p1.CI))] H fun fr H => Ap H hb
  | false =>
   replace H := H.kn 52 hb
   exact AG 6 [(58, .bool false)] H fun fr H => Ap H hb
 intro t fr h' hK
 obtain ⟨e, H⟩ := hK
 subst e
 refine AG 1 [(59, .bool ((((((((p0.Name == p1.Name) && (p0.Be == p1.Be)) && (p0.Kind == p1.Kind)) && (p0.Mode == p1.Mode)) && (p0.De == p1.De)) && (p0.ET == p1.ET)) && (p0.B1 == p1.B1)) && (p0.CI == p1.CI)))] H fun fr H => Aq 6 (fun fr' h' => h2 = h' ∧ Has fr' 94 [(2, .ptr (some (h.size, 0))), (3, .ptr (some (h1.size, 0))), (65, .bool (((((((((p0.Name == p1.Name) && (p0.Be == p1.Be)) && (p0.Kind == p1.Kind)) && (p0.Mode == p1.Mode)) && (p0.De == p1.De)) && (p0.ET == p1.ET)) && (p0.B1 == p1.B1)) && (p0.CI == p1.CI)) && (p0.CG == p1.CG)))]) ?_ ?_
 ·cases hb : ((((((((p0.Name == p1.Name) && (p0.Be == p1.Be)) && (p0.Kind == p1.Kind)) && (p0.Mode == p1.Mode)) && (p0.De == p1.De)) && (p0.ET == p1.ET)) && (p0.B1 == p1.B1)) && (p0.CI == p1.CI) : Bool) with
  | true =>
   replace H := H.kn 59 hb
   refine AZ 1 [] 61 1 8 A H fun fr t H => ?_
   refine AZ 1 [] 63 0 8 A H fun fr t H => ?_
   exact AG 2 [(65, .bool (p0.CG == p1.CG))] H fun fr H => Ap H hb
  | false =>
   replace H := H.kn 59 hb
   exact AG 6 [(65, .bool false)] H fun fr H => Ap H hb
 intro t fr h' hK
 obtain ⟨e, H⟩ := hK
 subst e
 refine AG 1 [(66, .bool (((((((((p0.Name == p1.Name) && (p0.Be == p1.Be)) && (p0.Kind == p1.Kind)) && (p0.Mode == p1.Mode)) && (p0.De == p1.De)) && (p0.ET == p1.ET)) && (p0.B1 == p1.B1)) && (p0.CI == p1.CI)) && (p0.CG == p1.CG)))] H fun fr H => Aq 6 (fun fr' h' => h2 = h' ∧ Has fr' 94 [(2, .ptr (some (h.size, 0))), (3, .ptr (some (h1.size, 0))), (72, .bool ((((((((((p0.Name == p1.Name) && (p0.Be == p1.Be)) && (p0.Kind == p1.Kind)) && (p0.Mode == p1.Mode)) && (p0.De == p1.De)) && (p0.ET == p1.ET)) && (p0.B1 == p1.B1)) && (p0.CI == p1.CI)) && (p0.CG == p1.CG)) && (p0.Da == p1.Da)))]) ?_ ?_
 ·cases hb : (((((((((p0.Name == p1.Name) && (p0.Be == p1.Be)) && (p0.Kind == p1.Kind)) && (p0.Mode == p1.Mode)) && (p0.De == p1.De)) && (p0.ET == p1.ET)) && (p0.B1 == p1.B1)) && (p0.CI == p1.CI)) && (p0.CG == p1.CG) : Bool) with
  | true =>
   replace H := H.kn 66 hb
   refine AZ 1 [] 68 1 9 A H fun fr t H => ?_
   refine AZ 1 [] 70 0 9 A H fun fr t H => ?_
   exact AG 2 [(72, .bool (p0.Da == p1.Da))] H fun fr H => Ap H hb
  | false =>
   replace H := H.kn 66 hb
   exact AG 6 [(72, .bool false)] H fun fr H => Ap H hb
 intro t fr h' hK
 obtain ⟨e, H⟩ := hK
 subst e
 refine AG 1 [(73, .bool ((((((((((p0.Name == p1.Name) && (p0.Be == p1.Be)) && (p0.Kind == p1.Kind)) && (p0.Mode == p1.Mode)) && (p0.De == p1.De)) && (p0.ET == p1.ET)) && (p0.B1 == p1.B1)) && (p0.CI == p1.CI)) && (p0.CG == p1.CG)) && (p0.Da == p1.Da)))] H fun fr H => ?_
 obtain ⟨x1, ho, hm⟩ := bind_some hm
 refine Aq 6 (fun fr' h' => Has fr' 94 [(2, .ptr (some (h.size, 0))), (3, .ptr (some (h1.size, 0))), (79, .bool x1)] ∧ HH g h' [.obj h1.size (.cells none 2 (AA p1)), .obj h.size (.cells none 2 (AA p0))] F) ?_ ?_
 ·rcases Ac ho with ⟨hb, hm⟩ | ⟨hb, hm⟩
  ·replace H := H.kn 73 hb
   refine Ax 1 [] 75 _ _ H (fun fr => .of (B5 (by kernel_rfl) (A.GQ 1 rfl (o := 10) (n := 2) ⟨Nat.le_of_ble_eq_true rfl, rfl⟩))) fun fr t H => ?_
   refine Ax 1 [] 77 _ _ H (fun fr => .of (B5 (by kernel_rfl) (A.GQ 0 rfl (o := 10) (n := 2) ⟨Nat.le_of_ble_eq_true rfl, rfl⟩))) fun fr t H => ?_
   obtain ⟨x2, hx, hm⟩ := bind_some hm
   refine As 78 (.bool x2) h2 H (fun fr => .of (WW (by kernel_rfl) hx)) fun fr t H => ?_
   refine AG 1 [(79, .bool x2)] H fun fr H => ?_
   obtain rfl := Ag hm
   exact at_nil ⟨H.ls, A⟩
  replace H := H.kn 73 hb
  refine AG 6 [(79, .bool false)] H fun fr H => ?_
  obtain rfl := Ag hm
  exact at_nil ⟨H.ls, A⟩
 clear A
 intro t fr h3 hK
 obtain ⟨H, A⟩ := hK
 refine AG 1 [(80, .bool x1)] H fun fr H => ?_
 obtain ⟨x3, ho, hm⟩ := bind_some hm
 refine Aq 6 (fun fr' h' => Has fr' 94 [(2, .ptr (some (h.size, 0))), (3, .ptr (some (h1.size, 0))), (86, .bool x3)] ∧ HH g h' [.obj h1.size (.cells none 2 (AA p1)), .obj h.size (.cells none 2 (AA p0))] F) ?_ ?_
 ·rcases Ac ho with ⟨hb, hm⟩ | ⟨hb, hm⟩
  ·replace H := H.kn 80 hb
   refine AZ 1 [] 82 1 12 A H fun fr t H => ?_
   refine AZ 1 [] 84 0 12 A H fun fr t H => ?_
   obtain ⟨x4, hx, hm⟩ := bind_some hm
   obtain ⟨v1, h5, hr, rfl, A1⟩ := K1 (av := [vs Ad p0.Extra, vs Ad p1.Extra]) hx (A.cut 0)
   replace A := A.E8 A1
   refine A8 85 hr H fun fr t H => ?_
   refine AG 1 [(86, .bool x4)] H fun fr H => ?_
   obtain rfl := Ag hm
   exact at_nil ⟨H.ls, A⟩
  replace H := H.kn 80 hb
  refine AG 6 [(86, .bool false)] H fun fr H => ?_
  obtain rfl := Ag hm
  exact at_nil ⟨H.ls, A⟩
 clear A
 intro t fr h4 hK
 obtain ⟨H, A⟩ := hK
 refine AG 1 [(87, .bool x3)] H fun fr H => Aq 6 (fun fr' h' => h4 = h' ∧ Has fr' 94 [(93, .bool (x3 && (p0.Data == p1.Data)))]) ?_ ?_
 ·cases hb : (x3 : Bool) with
  | true =>
   replace H := H.kn 87 hb
   refine AZ 1 [] 89 1 13 A H fun fr t H => ?_
   refine AZ 1 [] 91 0 13 A H fun fr t H => ?_
   exact AG 2 [(93, .bool (p0.Data == p1.Data))] H fun fr H => Ap H hb
  | false =>
   replace H := H.kn 87 hb
   exact AG 6 [(93, .bool false)] H fun fr H => Ap H hb
 intro t fr h' hK
 obtain ⟨e, H⟩ := hK
 subst e
 refine AP 1 [(4, .bool (x3 && (p0.Data == p1.Data)))] H fun fr H => AY ?_
 obtain rfl := Ag hm
 refine ⟨.inl rfl, .bool (x3 && (p0.Data == p1.Data)), rH H, ?_⟩
 replace A := A.d0
 exact ⟨rfl, A⟩
end
end Go.Av.L
