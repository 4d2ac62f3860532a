/-
 Models of functions, and that the abstract run tells them. Written by lift2.py.
-/
import Derived.Test.YtipknimgfcokeaaGreatDoorKCfg
import Derived.Test.YtipknimgfcokeaaGreatDoorK0
import Derived.Test.YtipknimgfcokeaaGreatDoorK5
import Derived.Test.YtipknimgfcokeaaGreatDoorK7
import Derived.Test.YtipknimgfcokeaaGreatDoorK8
namespace Go.Av.L
open Go.Av Go.Lib
set_option maxRecDepth 10000
set_option linter.unusedVariables false
set_option linter.unusedSimpArgs false
variable {g : Gd} {h : AH} {F : List Ck} {av : List AB}
noncomputable section
def Ce : Option (Bool) :=
 (FN ([115, 47, 97, 42, 47, 120, 47, 103] : List UInt8)).bind fun (x1, x2, x3) => (CP x1 (100 : Int)).bind fun (w5, x5, x6) => (match w5 with | some x4 => (FN ([115, 44, 98, 92, 44, 99, 44, 45, 44, 50] : List UInt8)).bind fun (x7, x8, x9) => (CP x7 (100 : Int)).bind fun (w12, x11, x12) => (match w12 with | some x10 => (Af ((((((x3 == 0) && (x6 == 0)) && (x9 == 0)) && (x12 == 0)) || false) || false) ((Bp x4 ([98, 97, 97, 97, 99] : List UInt8)).bind fun x14 => some (x14 == ([120, 98, 120, 99, 120] : List UInt8))) (some false) : Option (Bool)).bind fun x13 => (Af x13 ((Bp x10 ([98, 44, 99, 98, 44, 99] : List UInt8)).bind fun x16 => some (x16 == ([98, 44, 99, 45] : List UInt8))) (some false) : Option (Bool)).bind fun x15 => some x15 | none => (Af ((((((x3 == 0) && (x6 == 0)) && (x9 == 0)) && (x12 == 0)) || false) && false) ((Bp x4 ([98, 97, 97, 97, 99] : List UInt8)).bind fun x18 => some (x18 == ([120, 98, 120, 99, 120] : List UInt8))) (some false) : Option (Bool)).bind fun x17 => Af x17 (none) (some false)) | none => (FN ([115, 44, 98, 92, 44, 99, 44, 45, 44, 50] : List UInt8)).bind fun (x19, x20, x21) => (CP x19 (100 : Int)).bind fun (w22, x23, x24) => (match w22 with | some x22 => Af ((((((x3 == 0) && (x6 == 0)) && (x21 == 0)) && (x24 == 0)) && false) || false) (none) (some false) | none => Af ((((((x3 == 0) && (x6 == 0)) && (x21 == 0)) && (x24 == 0)) && false) && false) (none) (some false)))
theorem Eg {q0} (hm : Ce = some q0) (A : HH g h [] F) (hc : BZ (cfg.still 4) av = [] := by kernel_rfl) : ∃ v h', Bg cfg g h 4 av v h' ∧ v = .bool q0 ∧ HH g h' [] F := by
 refine E5 67 [.tmp 0] hc ?_
 clear hc
 unfold Ce at hm
 refine bg 67 [] fun fr H => ?_
 refine AD 1 (Bw 1 [] 9 H fun fr H => ?_)
 obtain ⟨⟨x1, x2, x3⟩, hx, hm⟩ := bind_some hm
 obtain ⟨v1, h1, hr, rfl, A1⟩ := G5 (av := [.str ([115, 47, 97, 42, 47, 120, 47, 103] : List UInt8)]) hx (A.cut 0)
 replace A := A.Ea A1
 refine Be 14 hr H fun fr t H => ?_
 obtain ⟨h2, e1, A⟩ := A.pu (.cells none 2 [.str ([] : List UInt8), .str ([] : List UInt8), .bool false, .bool false, .bool false, Ai 0, .bool false, .bool false, .bool false])
 refine F8 4 [(15, .agg (BH x1)), (16, Ai x2), (17, Ai x3)] 1 (.ptr (some (h1.size, 0))) e1 H fun fr t H => ?_
 obtain ⟨h3, hx, A⟩ := A.s0 0 (BH x1) [_, _, _, _, _, _, _, _, _]
 refine DN hx H fun fr t H => ?_
 refine Bw 2 [(3, Ai x3)] 9 H fun fr H => Ax 19 _ _ H (fun fr => .of (CD (by kernel_rfl) (A.GX 0 rfl (o := 0) (n := 9) ⟨Nat.le_of_ble_eq_true rfl, rfl⟩))) fun fr t H => ?_
 obtain ⟨⟨w5, x5, x6⟩, hx, hm⟩ := bind_some hm
 obtain ⟨v1, h4, hr, hc⟩ := FE (av := [.agg (BH x1), Ai 100]) hx (A.cut 0)
 rcases hc with ⟨x4, rfl, rfl, A1⟩ | ⟨rfl, rfl, A1⟩
 ·replace A := A.Ea A1
  refine Be 20 hr H fun fr t H => ?_
  refine Bw 7 [(4, .Aq (AR x4)), (6, Ai x6)] 9 H fun fr H => ?_
  obtain ⟨⟨x7, x8, x9⟩, hx, hm⟩ := bind_some hm
  obtain ⟨v1, h5, hr, rfl, A1⟩ := G5 (av := [.str ([115, 44, 98, 92, 44, 99, 44, 45, 44, 50] : List UInt8)]) hx (A.cut 0)
  replace A := A.Ea A1
  refine Be 25 hr H fun fr t H => ?_
  obtain ⟨h6, e2, A⟩ := A.pu (.cells none 2 [.str ([] : List UInt8), .str ([] : List UInt8), .bool false, .bool false, .bool false, Ai 0, .bool false, .bool false, .bool false])
  refine F8 4 [(26, .agg (BH x7)), (27, Ai x8), (28, Ai x9)] 7 (.ptr (some (h5.size, 0))) e2 H fun fr t H => ?_
  obtain ⟨h7, hx, A⟩ := A.s0 0 (BH x7) [_, _, _, _, _, _, _, _, _]
  refine DN hx H fun fr t H => ?_
  refine Bw 2 [(9, Ai x9)] 9 H fun fr H => Ax 30 _ _ H (fun fr => .of (CD (by kernel_rfl) (A.GX 0 rfl (o := 0) (n := 9) ⟨Nat.le_of_ble_eq_true rfl, rfl⟩))) fun fr t H => ?_
  obtain ⟨⟨w12, x11, x12⟩, hx, hm⟩ := bind_some hm
  obtain ⟨v1, h8, hr, hc⟩ := FE (av := [.agg (BH x7), Ai 100]) hx (A.cut 0)
  rcases hc with ⟨x10, rfl, rfl, A1⟩ | ⟨rfl, rfl, A1⟩
  ·replace A := A.Ea A1
   refine Be 31 hr H fun fr t H => ?_
   refine Bw 7 [(10, .Aq (AR x10)), (12, Ai x12)] 33 H fun fr H => AE 3 [(37, .bool (x3 == 0))] H fun fr H => BD 3 (fun fr' h' => h8 = h' ∧ Has fr' 67 [(4, .Aq (AR x4)), (9, Ai x9), (10, .Aq (AR x10)), (12, Ai x12), (40, .bool ((x3 == 0) && (x6 == 0)))]) ?_ ?_
   ·cases hb : (x3 == 0 : Bool) with
    | true =>
     replace H := H.kn 37 hb
     exact AE 3 [(40, .bool (x6 == 0))] H fun fr H => Am H hb
    | false =>
     replace H := H.kn 37 hb
     exact AE 3 [(40, .bool false)] H fun fr H => Am H hb
   intro t fr h' hK
   obtain ⟨e, H⟩ := hK
   subst e
   refine AE 1 [(41, .bool ((x3 == 0) && (x6 == 0)))] H fun fr H => BD 3 (fun fr' h' => h8 = h' ∧ Has fr' 67 [(4, .Aq (AR x4)), (10, .Aq (AR x10)), (12, Ai x12), (44, .bool (((x3 == 0) && (x6 == 0)) && (x9 == 0)))]) ?_ ?_
   ·cases hb : ((x3 == 0) && (x6 == 0) : Bool) with
    | true =>
     replace H := H.kn 41 hb
     exact AE 3 [(44, .bool (x9 == 0))] H fun fr H => Am H hb
    | false =>
     replace H := H.kn 41 hb
     exact AE 3 [(44, .bool false)] H fun fr H => Am H hb
   intro t fr h' hK
   obtain ⟨e, H⟩ := hK
   subst e
   refine AE 1 [(45, .bool (((x3 == 0) && (x6 == 0)) && (x9 == 0)))] H fun fr H => BD 3 (fun fr' h' => h8 = h' ∧ Has fr' 67 [(4, .Aq (AR x4)), (10, .Aq (AR x10)), (48, .bool ((((x3 == 0) && (x6 == 0)) && (x9 == 0)) && (x12 == 0)))]) ?_ ?_
   ·cases hb : (((x3 == 0) && (x6 == 0)) && (x9 == 0) : Bool) with
    | true =>
     replace H := H.kn 45 hb
     exact AE 3 [(48, .bool (x12 == 0))] H fun fr H => Am H hb
    | false =>
     replace H := H.kn 45 hb
     exact AE 3 [(48, .bool false)] H fun fr H => Am H hb
   intro t fr h' hK
   obtain ⟨e, H⟩ := hK
   subst e
   refine AE 1 [(49, .bool ((((x3 == 0) && (x6 == 0)) && (x9 == 0)) && (x12 == 0)))] H fun fr H => BD 3 (fun fr' h' => h8 = h' ∧ Has fr' 67 [(4, .Aq (AR x4)), (10, .Aq (AR x10)), (52, .bool (((((x3 == 0) && (x6 == 0)) && (x9 == 0)) && (x12 == 0)) || false))]) ?_ ?_
   ·cases hb : ((((x3 == 0) && (x6 == 0)) && (x9 == 0)) && (x12 == 0) : Bool) with
    | true =>
     replace H := H.kn 49 hb
     exact AE 3 [(52, .bool true)] H fun fr H => Am H hb
    | false =>
     replace H := H.kn 49 hb
     exact AE 3 [(52, .bool false)] H fun fr H => Am H hb
   intro t fr h' hK
   obtain ⟨e, H⟩ := hK
   subst e
   refine AE 1 [(53, .bool (((((x3 == 0) && (x6 == 0)) && (x9 == 0)) && (x12 == 0)) || false))] H fun fr H => BD 3 (fun fr' h' => h8 = h' ∧ Has fr' 67 [(4, .Aq (AR x4)), (10, .Aq (AR x10)), (56, .bool ((((((x3 == 0) && (x6 == 0)) && (x9 == 0)) && (x12 == 0)) || false) || false))]) ?_ ?_
   ·cases hb : (((((x3 == 0) && (x6 == 0)) && (x9 == 0)) && (x12 == 0)) || false : Bool) with
    | true =>
     replace H := H.kn 53 hb
     exact AE 3 [(56, .bool true)] H fun fr H => Am H hb
    | false =>
     replace H := H.kn 53 hb
     exact AE 3 [(56, .bool false)] H fun fr H => Am H hb
   intro t fr h' hK
   obtain ⟨e, H⟩ := hK
   subst e
   refine AE 1 [(57, .bool ((((((x3 == 0) && (x6 == 0)) && (x9 == 0)) && (x12 == 0)) || false) || false))] H fun fr H => ?_
   obtain ⟨x13, ho, hm⟩ := bind_some hm
   refine BD 4 (fun fr' h' => Has fr' 67 [(10, .Aq (AR x10)), (61, .bool x13)] ∧ HH g h' [.obj h5.size (.cells none 2 (BH x7)), .obj h1.size (.cells none 2 (BH x1))] F) ?_ ?_
   ·rcases BJ ho with ⟨hb, hm⟩ | ⟨hb, hm⟩
    ·replace H := H.kn 57 hb
     obtain ⟨x14, hx, hm⟩ := bind_some hm
     obtain ⟨v1, h10, hr, rfl, A1⟩ := DD (av := [.Aq (AR x4), .str ([98, 97, 97, 97, 99] : List UInt8)]) hx (A.cut 0)
     replace A := A.Ea A1
     refine Ap 1 [] 59 hr H fun fr t H => ?_
     refine AE 2 [(61, .bool (x14 == ([120, 98, 120, 99, 120] : List UInt8)))] H fun fr H => ?_
     obtain rfl := Ah hm
     exact at_nil ⟨H.ls, A⟩
    replace H := H.kn 57 hb
    refine AE 4 [(61, .bool false)] H fun fr H => ?_
    obtain rfl := Ah hm
    exact at_nil ⟨H.ls, A⟩
   clear A
   intro t fr h9 hK
   obtain ⟨H, A⟩ := hK
   refine AE 1 [(62, .bool x13)] H fun fr H => ?_
   obtain ⟨x15, ho, hm⟩ := bind_some hm
   refine BD 4 (fun fr' h' => Has fr' 67 [(66, .bool x15)] ∧ HH g h' [.obj h5.size (.cells none 2 (BH x7)), .obj h1.size (.cells none 2 (BH x1))] F) ?_ ?_
   ·rcases BJ ho with ⟨hb, hm⟩ | ⟨hb, hm⟩
    ·replace H := H.kn 62 hb
     obtain ⟨x16, hx, hm⟩ := bind_some hm
     obtain ⟨v1, h12, hr, rfl, A1⟩ := DD (av := [.Aq (AR x10), .str ([98, 44, 99, 98, 44, 99] : List UInt8)]) hx (A.cut 0)
     replace A := A.Ea A1
     refine Ap 1 [] 64 hr H fun fr t H => ?_
     refine AE 2 [(66, .bool (x16 == ([98, 44, 99, 45] : List UInt8)))] H fun fr H => ?_
     obtain rfl := Ah hm
     exact at_nil ⟨H.ls, A⟩
    replace H := H.kn 62 hb
    refine AE 4 [(66, .bool false)] H fun fr H => ?_
    obtain rfl := Ah hm
    exact at_nil ⟨H.ls, A⟩
   clear A
   intro t fr h11 hK
   obtain ⟨H, A⟩ := hK
   refine AM 1 [(0, .bool x15)] H fun fr H => Ag ?_
   obtain rfl := Ah hm
   refine ⟨.inl rfl, .bool x15, rH H, ?_⟩
   replace A := A.d0
   exact ⟨rfl, A⟩
  replace A := A.Ea A1
  refine Be 31 hr H fun fr t H => ?_
  refine Bw 7 [(10, .ptr none), (12, Ai x12)] 33 H fun fr H => AE 3 [(37, .bool (x3 == 0))] H fun fr H => BD 3 (fun fr' h' => h8 = h' ∧ Has fr' 67 [(4, .Aq (AR x4)), (9, Ai x9), (10, .ptr none), (12, Ai x12), (40, .bool ((x3 == 0) && (x6 == 0)))]) ?_ ?_
  ·cases hb : (x3 == 0 : Bool) with
   | true =>
    replace H := H.kn 37 hb
    exact AE 3 [(40, .bool (x6 == 0))] H fun fr H => Am H hb
   | false =>
    replace H := H.kn 37 hb
    exact AE 3 [(40, .bool false)] H fun fr H => Am H hb
  intro t fr h' hK
  obtain ⟨e, H⟩ := hK
  subst e
  refine AE 1 [(41, .bool ((x3 == 0) && (x6 == 0)))] H fun fr H => BD 3 (fun fr' h' => h8 = h' ∧ Has fr' 67 [(4, .Aq (AR x4)), (10, .ptr none), (12, Ai x12), (44, .bool (((x3 == 0) && (x6 == 0)) && (x9 == 0)))]) ?_ ?_
  ·cases hb : ((x3 == 0) && (x6 == 0) : Bool) with
   | true =>
    replace H := H.kn 41 hb
    exact AE 3 [(44, .bool (x9 == 0))] H fun fr H => Am H hb
   | false =>
    replace H := H.kn 41 hb
    exact AE 3 [(44, .bool false)] H fun fr H => Am H hb
  intro t fr h' hK
  obtain ⟨e, H⟩ := hK
  subst e
  refine AE 1 [(45, .bool (((x3 == 0) && (x6 == 0)) && (x9 == 0)))] H fun fr H => BD 3 (fun fr' h' => h8 = h' ∧ Has fr' 67 [(4, .Aq (AR x4)), (10, .ptr none), (48, .bool ((((x3 == 0) && (x6 == 0)) && (x9 == 0)) && (x12 == 0)))]) ?_ ?_
  ·cases hb : (((x3 == 0) && (x6 == 0)) && (x9 == 0) : Bool) with
   | true =>
    replace H := H.kn 45 hb
    exact AE 3 [(48, .bool (x12 == 0))] H fun fr H => Am H hb
   | false =>
    replace H := H.kn 45 hb
    exact AE 3 [(48, .bool false)] H fun fr H => Am H hb
  intro t fr h' hK
  obtain ⟨e, H⟩ := hK
  subst e
  refine AE 1 [(49, .bool ((((x3 == 0) && (x6 == 0)) && (x9 == 0)) && (x12 == 0)))] H fun fr H => BD 3 (fun fr' h' => h8 = h' ∧ Has fr' 67 [(4, .Aq (AR x4)), (10, .ptr none), (52, .bool (((((x3 == 0) && (x6 == 0)) && (x9 == 0)) && (x12 == 0)) || false))]) ?_ ?_
  ·cases hb : ((((x3 == 0) && (x6 == 0)) && (x9 == 0)) && (x12 == 0) : Bool) with
   | true =>
    replace H := H.kn 49 hb
    exact AE 3 [(52, .bool true)] H fun fr H => Am H hb
   | false =>
    replace H := H.kn 49 hb
    exact AE 3 [(52, .bool false)] H fun fr H => Am H hb
  intro t fr h' hK
  obtain ⟨e, H⟩ := hK
  subst e
  refine AE 1 [(53, .bool (((((x3 == 0) && (x6 == 0)) && (x9 == 0)) && (x12 == 0)) || false))] H fun fr H => BD 3 (fun fr' h' => h8 = h' ∧ Has fr' 67 [(4, .Aq (AR x4)), (10, .ptr none), (56, .bool ((((((x3 == 0) && (x6 == 0)) && (x9 == 0)) && (x12 == 0)) || false) && false))]) ?_ ?_
  ·cases hb : (((((x3 == 0) && (x6 == 0)) && (x9 == 0)) && (x12 == 0)) || false : Bool) with
   | true =>
    replace H := H.kn 53 hb
    exact AE 3 [(56, .bool false)] H fun fr H => Am H hb
   | false =>
    replace H := H.kn 53 hb
    exact AE 3 [(56, .bool false)] H fun fr H => Am H hb
  intro t fr h' hK
  obtain ⟨e, H⟩ := hK
  subst e
  refine AE 1 [(57, .bool ((((((x3 == 0) && (x6 == 0)) && (x9 == 0)) && (x12 == 0)) || false) && false))] H fun fr H => ?_
  obtain ⟨x17, ho, hm⟩ := bind_some hm
  refine BD 4 (fun fr' h' => Has fr' 67 [(10, .ptr none), (61, .bool x17)] ∧ HH g h' [.obj h5.size (.cells none 2 (BH x7)), .obj h1.size (.cells none 2 (BH x1))] F) ?_ ?_
  ·rcases BJ ho with ⟨hb, hm⟩ | ⟨hb, hm⟩
   ·replace H := H.kn 57 hb
    obtain ⟨x18, hx, hm⟩ := bind_some hm
    obtain ⟨v1, h14, hr, rfl, A1⟩ := DD (av := [.Aq (AR x4), .str ([98, 97, 97, 97, 99] : List UInt8)]) hx (A.cut 0)
    replace A := A.Ea A1
    refine Ap 1 [] 59 hr H fun fr t H => ?_
    refine AE 2 [(61, .bool (x18 == ([120, 98, 120, 99, 120] : List UInt8)))] H fun fr H => ?_
    obtain rfl := Ah hm
    exact at_nil ⟨H.ls, A⟩
   replace H := H.kn 57 hb
   refine AE 4 [(61, .bool false)] H fun fr H => ?_
   obtain rfl := Ah hm
   exact at_nil ⟨H.ls, A⟩
  clear A
  intro t fr h13 hK
  obtain ⟨H, A⟩ := hK
  refine AE 1 [(62, .bool x17)] H fun fr H => ?_
  rcases BJ hm with ⟨hb, hm⟩ | ⟨hb, hm⟩
  ·replace H := H.kn 62 hb
   cases hm
  replace H := H.kn 62 hb
  refine AM 5 [(0, .bool false)] H fun fr H => Ag ?_
  obtain rfl := Ah hm
  refine ⟨.inl rfl, .bool false, rH H, ?_⟩
  replace A := A.d0
  exact ⟨rfl, A⟩
 replace A := A.Ea A1
 refine Be 20 hr H fun fr t H => ?_
 refine Bw 7 [(4, .ptr none), (6, Ai x6)] 9 H fun fr H => ?_
 obtain ⟨⟨x19, x20, x21⟩, hx, hm⟩ := bind_some hm
 obtain ⟨v1, h15, hr, rfl, A1⟩ := G5 (av := [.str ([115, 44, 98, 92, 44, 99, 44, 45, 44, 50] : List UInt8)]) hx (A.cut 0)
 replace A := A.Ea A1
 refine Be 25 hr H fun fr t H => ?_
 obtain ⟨h16, e3, A⟩ := A.pu (.cells none 2 [.str ([] : List UInt8), .str ([] : List UInt8), .bool false, .bool false, .bool false, Ai 0, .bool false, .bool false, .bool false])
 refine F8 4 [(26, .agg (BH x19)), (27, Ai x20), (28, Ai x21)] 7 (.ptr (some (h15.size, 0))) e3 H fun fr t H => ?_
 obtain ⟨h17, hx, A⟩ := A.s0 0 (BH x19) [_, _, _, _, _, _, _, _, _]
 refine DN hx H fun fr t H => ?_
 refine Bw 2 [(9, Ai x21)] 9 H fun fr H => Ax 30 _ _ H (fun fr => .of (CD (by kernel_rfl) (A.GX 0 rfl (o := 0) (n := 9) ⟨Nat.le_of_ble_eq_true rfl, rfl⟩))) fun fr t H => ?_
 obtain ⟨⟨w22, x23, x24⟩, hx, hm⟩ := bind_some hm
 obtain ⟨v1, h18, hr, hc⟩ := FE (av := [.agg (BH x19), Ai 100]) hx (A.cut 0)
 rcases hc with ⟨x22, rfl, rfl, A1⟩ | ⟨rfl, rfl, A1⟩
 ·replace A := A.Ea A1
  refine Be 31 hr H fun fr t H => ?_
  refine Bw 7 [(10, .Aq (AR x22)), (12, Ai x24)] 33 H fun fr H => AE 3 [(37, .bool (x3 == 0))] H fun fr H => BD 3 (fun fr' h' => h18 = h' ∧ Has fr' 67 [(4, .ptr none), (9, Ai x21), (10, .Aq (AR x22)), (12, Ai x24), (40, .bool ((x3 == 0) && (x6 == 0)))]) ?_ ?_
  ·cases hb : (x3 == 0 : Bool) with
   | true =>
    replace H := H.kn 37 hb
    exact AE 3 [(40, .bool (x6 == 0))] H fun fr H => Am H hb
   | false =>
    replace H := H.kn 37 hb
    exact AE 3 [(40, .bool false)] H fun fr H => Am H hb
  intro t fr h' hK
  obtain ⟨e, H⟩ := hK
  subst e
  refine AE 1 [(41, .bool ((x3 == 0) && (x6 == 0)))] H fun fr H => BD 3 (fun fr' h' => h18 = h' ∧ Has fr' 67 [(4, .ptr none), (10, .Aq (AR x22)), (12, Ai x24), (44, .bool (((x3 == 0) && (x6 == 0)) && (x21 == 0)))]) ?_ ?_
  ·cases hb : ((x3 == 0) && (x6 == 0) : Bool) with
   | true =>
    replace H := H.kn 41 hb
    exact AE 3 [(44, .bool (x21 == 0))] H fun fr H => Am H hb
   | false =>
    replace H := H.kn 41 hb
    exact AE 3 [(44, .bool false)] H fun fr H => Am H hb
  intro t fr h' hK
  obtain ⟨e, H⟩ := hK
  subst e
  refine AE 1 [(45, .bool (((x3 == 0) && (x6 == 0)) && (x21 == 0)))] H fun fr H => BD 3 (fun fr' h' => h18 = h' ∧ Has fr' 67 [(4, .ptr none), (10, .Aq (AR x22)), (48, .bool ((((x3 == 0) && (x6 == 0)) && (x21 == 0)) && (x24 == 0)))]) ?_ ?_
  ·cases hb : (((x3 == 0) && (x6 == 0)) && (x21 == 0) : Bool) with
   | true =>
    replace H := H.kn 45 hb
    exact AE 3 [(48, .bool (x24 == 0))] H fun fr H => Am H hb
   | false =>
    replace H := H.kn 45 hb
    exact AE 3 [(48, .bool false)] H fun fr H => Am H hb
  intro t fr h' hK
  obtain ⟨e, H⟩ := hK
  subst e
  refine AE 1 [(49, .bool ((((x3 == 0) && (x6 == 0)) && (x21 == 0)) && (x24 == 0)))] H fun fr H => BD 3 (fun fr' h' => h18 = h' ∧ Has fr' 67 [(4, .ptr none), (10, .Aq (AR x22)), (52, .bool (((((x3 == 0) && (x6 == 0)) && (x21 == 0)) && (x24 == 0)) && false))]) ?_ ?_
  ·cases hb : ((((x3 == 0) && (x6 == 0)) && (x21 == 0)) && (x24 == 0) : Bool) with
   | true =>
    replace H := H.kn 49 hb
    exact AE 3 [(52, .bool false)] H fun fr H => Am H hb
   | false =>
    replace H := H.kn 49 hb
    exact AE 3 [(52, .bool false)] H fun fr H => Am H hb
  intro t fr h' hK
  obtain ⟨e, H⟩ := hK
  subst e
  refine AE 1 [(53, .bool (((((x3 == 0) && (x6 == 0)) && (x21 == 0)) && (x24 == 0)) && false))] H fun fr H => BD 3 (fun fr' h' => h18 = h' ∧ Has fr' 67 [(4, .ptr none), (10, .Aq (AR x22)), (56, .bool ((((((x3 == 0) && (x6 == 0)) && (x21 == 0)) && (x24 == 0)) && false) || false))]) ?_ ?_
  ·cases hb : (((((x3 == 0) && (x6 == 0)) && (x21 == 0)) && (x24 == 0)) && false : Bool) with
   | true =>
    replace H := H.kn 53 hb
    exact AE 3 [(56, .bool true)] H fun fr H => Am H hb
   | false =>
    replace H := H.kn 53 hb
    exact AE 3 [(56, .bool false)] H fun fr H => Am H hb
  intro t fr h' hK
  obtain ⟨e, H⟩ := hK
  subst e
  refine AE 1 [(57, .bool ((((((x3 == 0) && (x6 == 0)) && (x21 == 0)) && (x24 == 0)) && false) || false))] H fun fr H => ?_
  rcases BJ hm with ⟨hb, hm⟩ | ⟨hb, hm⟩
  ·replace H := H.kn 57 hb
   cases hm
  replace H := H.kn 57 hb
  refine AM 10 [(0, .bool false)] H fun fr H => Ag ?_
  obtain rfl := Ah hm
  refine ⟨.inl rfl, .bool false, rH H, ?_⟩
  replace A := A.d0
  exact ⟨rfl, A⟩
 replace A := A.Ea A1
 refine Be 31 hr H fun fr t H => ?_
 refine Bw 7 [(10, .ptr none), (12, Ai x24)] 33 H fun fr H => AE 3 [(37, .bool (x3 == 0))] H fun fr H => BD 3 (fun fr' h' => h18 = h' ∧ Has fr' 67 [(4, .ptr none), (9, Ai x21), (10, .ptr none), (12, Ai x24), (40, .bool ((x3 == 0) && (x6 == 0)))]) ?_ ?_
 ·cases hb : (x3 == 0 : Bool) with
  | true =>
   replace H := H.kn 37 hb
   exact AE 3 [(40, .bool (x6 == 0))] H fun fr H => Am H hb
  | false =>
   replace H := H.kn 37 hb
   exact AE 3 [(40, .bool false)] H fun fr H => Am H hb
 intro t fr h' hK
 obtain ⟨e, H⟩ := hK
 subst e
 refine AE 1 [(41, .bool ((x3 == 0) && (x6 == 0)))] H fun fr H => BD 3 (fun fr' h' => h18 = h' ∧ Has fr' 67 [(4, .ptr none), (10, .ptr none), (12, Ai x24), (44, .bool (((x3 == 0) && (x6 == 0)) && (x21 == 0)))]) ?_ ?_
 ·cases hb : ((x3 == 0) && (x6 == 0) : Bool) with
  | true =>
   replace H := H.kn 41 hb
   exact AE 3 [(44, .bool (x21 == 0))] H fun fr H => Am H hb
  | false =>
   replace H := H.kn 41 hb
   exact AE 3 [(44, .bool false)] H fun fr H => Am H hb
 intro t fr h' hK
 obtain ⟨e, H⟩ := hK
 subst e
 refine AE 1 [(45, .bool (((x3 == 0) && (x6 == 0)) && (x21 == 0)))] H fun fr H => BD 3 (fun fr' h' => h18 = h' ∧ Has fr' 67 [(4, .ptr none), (10, .ptr none), (48, .bool ((((x3 == 0) && (x6 == 0)) && (x21 == 0)) && (x24 == 0)))]) ?_ ?_
 ·cases hb : (((x3 == 0) && (x6 == 0)) && (x21 == 0) : Bool) with
  | true =>
   replace H := H.kn 45 hb
   exact AE 3 [(48, .bool (x24 == 0))] H fun fr H => Am H hb
  | false =>
   replace H := H.kn 45 hb
   exact AE 3 [(48, .bool false)] H fun fr H => Am H hb
 intro t fr h' hK
 obtain ⟨e, H⟩ := hK
 subst e
 refine AE 1 [(49, .bool ((((x3 == 0) && (x6 == 0)) && (x21 == 0)) && (x24 == 0)))] H fun fr H => BD 3 (fun fr' h' => h18 = h' ∧ Has fr' 67 [(4, .ptr none), (10, .ptr none), (52, .bool (((((x3 == 0) && (x6 == 0)) && (x21 == 0)) && (x24 == 0)) && false))]) ?_ ?_
 ·cases hb : ((((x3 == 0) && (x6 == 0)) && (x21 == 0)) && (x24 == 0) : Bool) with
  | true =>
   replace H := H.kn 49 hb
   exact AE 3 [(52, .bool false)] H fun fr H => Am H hb
  | false =>
   replace H := H.kn 49 hb
   exact AE 3 [(52, .bool false)] H fun fr H => Am H hb
 intro t fr h' hK
 obtain ⟨e, H⟩ := hK
 subst e
 refine AE 1 [(53, .bool (((((x3 == 0) && (x6 == 0)) && (x21 == 0)) && (x24 == 0)) && false))] H fun fr H => BD 3 (fun fr' h' => h18 = h' ∧ Has fr' 67 [(4, .ptr none), (10, .ptr none), (56, .bool ((((((x3 == 0) && (x6 == 0)) && (x21 == 0)) && (x24 == 0)) && false) && false))]) ?_ ?_
 ·cases hb : (((((x3 == 0) && (x6 == 0)) && (x21 == 0)) && (x24 == 0)) && false : Bool) with
  | true =>
   replace H := H.kn 53 hb
   exact AE 3 [(56, .bool false)] H fun fr H => Am H hb
  | false =>
   replace H := H.kn 53 hb
   exact AE 3 [(56, .bool false)] H fun fr H => Am H hb
 intro t fr h' hK
 obtain ⟨e, H⟩ := hK
 subst e
 refine AE 1 [(57, .bool ((((((x3 == 0) && (x6 == 0)) && (x21 == 0)) && (x24 == 0)) && false) && false))] H fun fr H => ?_
 rcases BJ hm with ⟨hb, hm⟩ | ⟨hb, hm⟩
 ·replace H := H.kn 57 hb
  cases hm
 replace H := H.kn 57 hb
 refine AM 10 [(0, .bool false)] H fun fr H => Ag ?_
 obtain rfl := Ah hm
 refine ⟨.inl rfl, .bool false, rH H, ?_⟩
 replace A := A.d0
 exact ⟨rfl, A⟩
def DV (p0 : List UInt8) (p1 : Bool) (p2 : Int) (p3 : Bool) (p4 : List UInt8) : Option (Bool) :=
 Af ((decide ((p0.length : Int) > 40)) || (decide ((p4.length : Int) > 60))) ((Ce).bind fun x1 => some x1) ((CP (⟨p0, ([38] : List UInt8), p3, false, p1, mx p2 (1 : Int), false, false, false⟩ : Bc) (4096 : Int)).bind fun (w3, x3, x4) => (match w3 with | some x2 => Af (x4 != 0) (some false) ((CP (⟨p0, ([91, 120, 93] : List UInt8), p3, false, p1, mx p2 (1 : Int), false, false, false⟩ : Bc) (4096 : Int)).bind fun (w7, x6, x7) => (match w7 with | some x5 => (Af (((x7 != 0) || false) || false) (some true) ((Bp x2 p4).bind fun x9 => some (!(x9 == p4))) : Option (Bool)).bind fun x8 => Af x8 (some false) ((D2 p0 p1).bind fun (x10, x11, x12) => (DI x10 (4096 : Int)).bind fun (w15, x14) => (match w15 with | some x13 => (Af ((x14 == 0) || false) ((EW x13 p4).bind fun x16 => (Af x16 (some true) ((Bp x5 p4).bind fun x18 => some (x18 == p4)) : Option (Bool)).bind fun x17 => some x17) (some false) : Option (Bool)).bind fun x15 => (Af x15 ((Ce).bind fun x20 => some x20) (some false) : Option (Bool)).bind fun x19 => some x19 | none => Af ((x14 == 0) && false) (none) (some false))) | none => (Af (((x7 != 0) || false) || true) (some true) ((Bp x2 p4).bind fun x22 => some (!(x22 == p4))) : Option (Bool)).bind fun x21 => Af x21 (some false) ((D2 p0 p1).bind fun (x23, x24, x25) => (DI x23 (4096 : Int)).bind fun (w25, x27) => (match w25 with | some x26 => (Af ((x27 == 0) || false) ((EW x26 p4).bind fun x29 => Af x29 (some true) (none)) (some false) : Option (Bool)).bind fun x28 => (Af x28 ((Ce).bind fun x31 => some x31) (some false) : Option (Bool)).bind fun x30 => some x30 | none => Af ((x27 == 0) && false) (none) (some false))))) | none => Af (x4 != 0) ((Ce).bind fun x32 => some x32) ((CP (⟨p0, ([91, 120, 93] : List UInt8), p3, false, p1, mx p2 (1 : Int), false, false, false⟩ : Bc) (4096 : Int)).bind fun (w31, x34, x35) => (match w31 with | some x33 => Af (((x35 != 0) || true) || false) (some false) (none) | none => Af (((x35 != 0) || true) || true) (some false) (none)))))
theorem Hf {p0 p1 p2 p3 p4 q0} (hm : DV p0 p1 p2 p3 p4 = some q0) (A : HH g h [] F) (hc : BZ (cfg.still 3) av = [.str p0, .bool p1, Ai p2, .bool p3, .str p4] := by kernel_rfl) : ∃ v h', Bg cfg g h 3 av v h' ∧ v = .bool q0 ∧ HH g h' [] F := by
 refine E5 108 [.tmp 10] hc ?_
 clear hc
 unfold DV at hm
 refine bg 108 [(0, .str p0), (1, .bool p1), (2, Ai p2), (3, .bool p3), (4, .str p4)] fun fr H => ?_
 refine AD 1 (AM 1 [] H fun fr H => AQ (AD 8 (AE 4 [(26, .bool (decide ((p0.length : Int) > 40)))] H fun fr H => BD 4 (fun fr' h' => h = h' ∧ Has fr' 108 [(0, .str p0), (1, .bool p1), (2, Ai p2), (3, .bool p3), (4, .str p4), (30, .bool ((decide ((p0.length : Int) > 40)) || (decide ((p4.length : Int) > 60))))]) ?_ ?_)))
 ·cases hb : (decide ((p0.length : Int) > 40) : Bool) with
  | true =>
   replace H := H.kn 26 hb
   exact AE 4 [(30, .bool true)] H fun fr H => Am H hb
  | false =>
   replace H := H.kn 26 hb
   exact AE 4 [(30, .bool (decide ((p4.length : Int) > 60)))] H fun fr H => Am H hb
 intro t fr h' hK
 obtain ⟨e, H⟩ := hK
 subst e
 refine BK id (AV 30 H hm (fun hb hm H => ?_) fun hb hm H => ?_)
 ·refine AD 2 ?_
  obtain ⟨x1, hx, hm⟩ := bind_some hm
  obtain ⟨v1, h1, hr, rfl, A1⟩ := Eg (av := []) hx (A.cut 0)
  replace A := A.Ea A1
  refine Be 31 hr H fun fr t H => ?_
  refine AM 1 [(10, .bool x1)] H fun fr H => Ag ?_
  obtain rfl := Ah hm
  exact ⟨.inl rfl, _, rH H, rfl, A⟩
 refine Ca 8 id ?_
 obtain ⟨h2, e1, A⟩ := A.pu (.cells none 2 [.str ([] : List UInt8), .str ([] : List UInt8), .bool false, .bool false, .bool false, Ai 0, .bool false, .bool false, .bool false])
 refine F8 6 [(37, .agg [.str p0, .str ([38] : List UInt8), .bool p3, .bool false, .bool p1, Ai (mx p2 (1 : Int)), .bool false, .bool false, .bool false])] 11 (.ptr (some (h.size, 0))) e1 H fun fr t H => ?_
 obtain ⟨h3, hx, A⟩ := A.s0 0 [.str p0, .str ([38] : List UInt8), .bool p3, .bool false, .bool p1, Ai (mx p2 (1 : Int)), .bool false, .bool false, .bool false] [_, _, _, _, _, _, _, _, _]
 refine DN hx H fun fr t H => ?_
 refine CG 9 id (Ax 39 _ _ H (fun fr => .of (CD (by kernel_rfl) (A.GX 0 rfl (o := 0) (n := 9) ⟨Nat.le_of_ble_eq_true rfl, rfl⟩))) fun fr t H => ?_)
 obtain ⟨⟨w3, x3, x4⟩, hx, hm⟩ := bind_some hm
 obtain ⟨v1, h4, hr, hc⟩ := FE (av := [.agg [.str p0, .str ([38] : List UInt8), .bool p3, .bool false, .bool p1, Ai (mx p2 (1 : Int)), .bool false, .bool false, .bool false], Ai 4096]) hx (A.cut 0)
 rcases hc with ⟨x2, rfl, rfl, A1⟩ | ⟨rfl, rfl, A1⟩
 ·replace A := A.Ea A1
  refine Be 40 hr H fun fr t H => ?_
  refine AM 7 [(12, .Aq (AR x2)), (14, Ai x4)] H fun fr H => AQ (AD 2 (AM 2 [(45, .bool (x4 != 0))] H fun fr H => AV 45 H hm (fun hb hm H => ?_) fun hb hm H => ?_))
  ·refine AD 6 (AM 6 [(10, .bool false)] H fun fr H => Ag ?_)
   obtain rfl := Ah hm
   refine ⟨.inl rfl, .bool false, rH H, ?_⟩
   replace A := A.d0
   exact ⟨rfl, A⟩
  refine Ca 2 id ?_
  obtain ⟨h5, hx, A⟩ := A.s0 1 [.str ([91, 120, 93] : List UInt8)] [_, _, _, _, _, _, _, _, _]
  refine C1 1 [] hx H fun fr t H => ?_
  refine CG 9 id (Ax 53 _ _ H (fun fr => .of (CD (by kernel_rfl) (A.GX 0 rfl (o := 0) (n := 9) ⟨Nat.le_of_ble_eq_true rfl, rfl⟩))) fun fr t H => ?_)
  obtain ⟨⟨w7, x6, x7⟩, hx, hm⟩ := bind_some hm
  obtain ⟨v1, h6, hr, hc⟩ := FE (av := [.agg [.str p0, .str ([91, 120, 93] : List UInt8), .bool p3, .bool false, .bool p1, Ai (mx p2 (1 : Int)), .bool false, .bool false, .bool false], Ai 4096]) hx (A.cut 0)
  rcases hc with ⟨x5, rfl, rfl, A1⟩ | ⟨rfl, rfl, A1⟩
  ·replace A := A.Ea A1
   refine Be 54 hr H fun fr t H => ?_
   refine AM 7 [(15, .Aq (AR x5)), (17, Ai x7)] H fun fr H => AQ (AD 17 (AE 3 [(60, .bool (x7 != 0))] H fun fr H => BD 3 (fun fr' h' => h6 = h' ∧ Has fr' 108 [(0, .str p0), (1, .bool p1), (4, .str p4), (12, .Aq (AR x2)), (15, .Aq (AR x5)), (63, .bool ((x7 != 0) || false))]) ?_ ?_))
   ·cases hb : (x7 != 0 : Bool) with
    | true =>
     replace H := H.kn 60 hb
     exact AE 3 [(63, .bool true)] H fun fr H => Am H hb
    | false =>
     replace H := H.kn 60 hb
     exact AE 3 [(63, .bool false)] H fun fr H => Am H hb
   intro t fr h' hK
   obtain ⟨e, H⟩ := hK
   subst e
   refine AE 1 [(64, .bool ((x7 != 0) || false))] H fun fr H => BD 3 (fun fr' h' => h6 = h' ∧ Has fr' 108 [(0, .str p0), (1, .bool p1), (4, .str p4), (12, .Aq (AR x2)), (15, .Aq (AR x5)), (67, .bool (((x7 != 0) || false) || false))]) ?_ ?_
   ·cases hb : ((x7 != 0) || false : Bool) with
    | true =>
     replace H := H.kn 64 hb
     exact AE 3 [(67, .bool true)] H fun fr H => Am H hb
    | false =>
     replace H := H.kn 64 hb
     exact AE 3 [(67, .bool false)] H fun fr H => Am H hb
   intro t fr h' hK
   obtain ⟨e, H⟩ := hK
   subst e
   refine AE 1 [(68, .bool (((x7 != 0) || false) || false))] H fun fr H => ?_
   obtain ⟨x8, ho, hm⟩ := bind_some hm
   refine BD 6 (fun fr' h' => Has fr' 108 [(0, .str p0), (1, .bool p1), (4, .str p4), (15, .Aq (AR x5)), (74, .bool x8)] ∧ HH g h' [.obj h.size (.cells none 2 [.str p0, .str ([91, 120, 93] : List UInt8), .bool p3, .bool false, .bool p1, Ai (mx p2 (1 : Int)), .bool false, .bool false, .bool false])] F) ?_ ?_
   ·rcases BJ ho with ⟨hb, hm⟩ | ⟨hb, hm⟩
    ·replace H := H.kn 68 hb
     refine AE 6 [(74, .bool true)] H fun fr H => ?_
     obtain rfl := Ah hm
     exact at_nil ⟨H.ls, A⟩
    replace H := H.kn 68 hb
    obtain ⟨x9, hx, hm⟩ := bind_some hm
    obtain ⟨v1, h8, hr, rfl, A1⟩ := DD (av := [.Aq (AR x2), .str p4]) hx (A.cut 0)
    replace A := A.Ea A1
    refine Ap 2 [] 71 hr H fun fr t H => ?_
    refine AE 3 [(74, .bool (!(x9 == p4)))] H fun fr H => ?_
    obtain rfl := Ah hm
    exact at_nil ⟨H.ls, A⟩
   clear A
   intro t fr h7 hK
   obtain ⟨H, A⟩ := hK
   refine BK id (AV 74 H hm (fun hb hm H => ?_) fun hb hm H => ?_)
   ·refine AD 1 (AM 1 [(10, .bool false)] H fun fr H => Ag ?_)
    obtain rfl := Ah hm
    refine ⟨.inl rfl, .bool false, rH H, ?_⟩
    replace A := A.d0
    exact ⟨rfl, A⟩
   refine Ca 11 id ?_
   obtain ⟨⟨x10, x11, x12⟩, hx, hm⟩ := bind_some hm
   obtain ⟨v1, h9, hr, rfl, A1⟩ := Jl (av := [.str p0, .bool p1]) hx (A.cut 0)
   replace A := A.Ea A1
   refine Ap 2 [] 78 hr H fun fr t H => ?_
   obtain ⟨h10, e2, A⟩ := A.pu (.cells none 2 [.slice none 0, Ai 0])
   refine F8 4 [(79, .agg (Aa x10)), (80, Ai x11), (81, Ai x12)] 18 (.ptr (some (h9.size, 0))) e2 H fun fr t H => ?_
   obtain ⟨h11, hx, A⟩ := A.s0 0 (Aa x10) [_, _]
   refine DN hx H fun fr t H => ?_
   refine Bw 2 [] 7 H fun fr H => Ax 83 _ _ H (fun fr => .of (CD (by kernel_rfl) (A.GX 0 rfl (o := 0) (n := 2) ⟨Nat.le_of_ble_eq_true rfl, rfl⟩))) fun fr t H => ?_
   obtain ⟨⟨w15, x14⟩, hx, hm⟩ := bind_some hm
   obtain ⟨v1, h12, hr, hc⟩ := IE (av := [.agg (Aa x10), Ai 4096]) hx (A.cut 0)
   rcases hc with ⟨x13, rfl, rfl, A1⟩ | ⟨rfl, rfl, A1⟩
   ·replace A := A.Ea A1
    refine Be 84 hr H fun fr t H => ?_
    refine Bw 5 [(21, .Aq (Ej 256 (AB.int .u8) x13.Az ++ [Ai x13.Al, vs (eI .i32) x13.Ba, vs eB x13.BX, vs eB x13.BV, .int .i32 x13.Aj, .int .i32 x13.BN, .bool x13.BE])), (22, Ai x14)] 22 H fun fr H => AE 3 [(89, .bool (x14 == 0))] H fun fr H => BD 3 (fun fr' h' => h12 = h' ∧ Has fr' 108 [(4, .str p4), (15, .Aq (AR x5)), (21, .Aq (Ej 256 (AB.int .u8) x13.Az ++ [Ai x13.Al, vs (eI .i32) x13.Ba, vs eB x13.BX, vs eB x13.BV, .int .i32 x13.Aj, .int .i32 x13.BN, .bool x13.BE])), (92, .bool ((x14 == 0) || false))]) ?_ ?_
    ·cases hb : (x14 == 0 : Bool) with
     | true =>
      replace H := H.kn 89 hb
      exact AE 3 [(92, .bool true)] H fun fr H => Am H hb
     | false =>
      replace H := H.kn 89 hb
      exact AE 3 [(92, .bool false)] H fun fr H => Am H hb
    intro t fr h' hK
    obtain ⟨e, H⟩ := hK
    subst e
    refine AE 1 [(93, .bool ((x14 == 0) || false))] H fun fr H => ?_
    obtain ⟨x15, ho, hm⟩ := bind_some hm
    refine BD 11 (fun fr' h' => Has fr' 108 [(104, .bool x15)] ∧ HH g h' [.obj h9.size (.cells none 2 (Aa x10)), .obj h.size (.cells none 2 [.str p0, .str ([91, 120, 93] : List UInt8), .bool p3, .bool false, .bool p1, Ai (mx p2 (1 : Int)), .bool false, .bool false, .bool false])] F) ?_ ?_
    ·rcases BJ ho with ⟨hb, hm⟩ | ⟨hb, hm⟩
     ·replace H := H.kn 93 hb
      obtain ⟨x16, hx, hm⟩ := bind_some hm
      obtain ⟨v1, h14, hr, rfl, A1⟩ := Kd (av := [.Aq (Ej 256 (AB.int .u8) x13.Az ++ [Ai x13.Al, vs (eI .i32) x13.Ba, vs eB x13.BX, vs eB x13.BV, .int .i32 x13.Aj, .int .i32 x13.BN, .bool x13.BE]), .str p4]) hx (A.cut 0)
      replace A := A.Ea A1
      refine Ap 2 [] 96 hr H fun fr t H => ?_
      refine AE 1 [(97, .bool x16)] H fun fr H => ?_
      obtain ⟨x17, ho, hm⟩ := bind_some hm
      refine BD 6 (fun fr' h' => Has fr' 108 [(93, .bool true), (103, .bool x17)] ∧ HH g h' [.obj h9.size (.cells none 2 (Aa x10)), .obj h.size (.cells none 2 [.str p0, .str ([91, 120, 93] : List UInt8), .bool p3, .bool false, .bool p1, Ai (mx p2 (1 : Int)), .bool false, .bool false, .bool false])] F) ?_ ?_
      ·rcases BJ ho with ⟨hb, hm⟩ | ⟨hb, hm⟩
       ·replace H := H.kn 97 hb
        refine AE 6 [(103, .bool true)] H fun fr H => ?_
        obtain rfl := Ah hm
        exact at_nil ⟨H.ls, A⟩
       replace H := H.kn 97 hb
       obtain ⟨x18, hx, hm⟩ := bind_some hm
       obtain ⟨v1, h16, hr, rfl, A1⟩ := DD (av := [.Aq (AR x5), .str p4]) hx (A.cut 0)
       replace A := A.Ea A1
       refine Ap 2 [] 100 hr H fun fr t H => ?_
       refine AE 3 [(103, .bool (x18 == p4))] H fun fr H => ?_
       obtain rfl := Ah hm
       exact at_nil ⟨H.ls, A⟩
      clear A
      intro t fr h15 hK
      obtain ⟨H, A⟩ := hK
      refine AE 1 [(104, .bool x17)] H fun fr H => ?_
      obtain rfl := Ah hm
      exact at_nil ⟨H.ls, A⟩
     replace H := H.kn 93 hb
     refine AE 11 [(104, .bool false)] H fun fr H => ?_
     obtain rfl := Ah hm
     exact at_nil ⟨H.ls, A⟩
    clear A
    intro t fr h13 hK
    obtain ⟨H, A⟩ := hK
    refine AE 1 [(105, .bool x15)] H fun fr H => ?_
    obtain ⟨x19, ho, hm⟩ := bind_some hm
    refine BD 2 (fun fr' h' => Has fr' 108 [(107, .bool x19)] ∧ HH g h' [.obj h9.size (.cells none 2 (Aa x10)), .obj h.size (.cells none 2 [.str p0, .str ([91, 120, 93] : List UInt8), .bool p3, .bool false, .bool p1, Ai (mx p2 (1 : Int)), .bool false, .bool false, .bool false])] F) ?_ ?_
    ·rcases BJ ho with ⟨hb, hm⟩ | ⟨hb, hm⟩
     ·replace H := H.kn 105 hb
      obtain ⟨x20, hx, hm⟩ := bind_some hm
      obtain ⟨v1, h18, hr, rfl, A1⟩ := Eg (av := []) hx (A.cut 0)
      replace A := A.Ea A1
      refine Be 106 hr H fun fr t H => ?_
      refine AE 1 [(107, .bool x20)] H fun fr H => ?_
      obtain rfl := Ah hm
      exact at_nil ⟨H.ls, A⟩
     replace H := H.kn 105 hb
     refine AE 2 [(107, .bool false)] H fun fr H => ?_
     obtain rfl := Ah hm
     exact at_nil ⟨H.ls, A⟩
    clear A
    intro t fr h17 hK
    obtain ⟨H, A⟩ := hK
    refine AM 1 [(10, .bool x19)] H fun fr H => Ag ?_
    obtain rfl := Ah hm
    refine ⟨.inl rfl, .bool x19, rH H, ?_⟩
    replace A := A.d0
    exact ⟨rfl, A⟩
   replace A := A.Ea A1
   refine Be 84 hr H fun fr t H => ?_
   refine Bw 5 [(21, .ptr none), (22, Ai x14)] 22 H fun fr H => AE 3 [(89, .bool (x14 == 0))] H fun fr H => BD 3 (fun fr' h' => h12 = h' ∧ Has fr' 108 [(4, .str p4), (15, .Aq (AR x5)), (21, .ptr none), (92, .bool ((x14 == 0) && false))]) ?_ ?_
   ·cases hb : (x14 == 0 : Bool) with
    | true =>
     replace H := H.kn 89 hb
     exact AE 3 [(92, .bool false)] H fun fr H => Am H hb
    | false =>
     replace H := H.kn 89 hb
     exact AE 3 [(92, .bool false)] H fun fr H => Am H hb
   intro t fr h' hK
   obtain ⟨e, H⟩ := hK
   subst e
   refine AE 1 [(93, .bool ((x14 == 0) && false))] H fun fr H => ?_
   rcases BJ hm with ⟨hb, hm⟩ | ⟨hb, hm⟩
   ·replace H := H.kn 93 hb
    cases hm
   replace H := H.kn 93 hb
   refine AM 15 [(10, .bool false)] H fun fr H => Ag ?_
   obtain rfl := Ah hm
   refine ⟨.inl rfl, .bool false, rH H, ?_⟩
   replace A := A.d0
   exact ⟨rfl, A⟩
  replace A := A.Ea A1
  refine Be 54 hr H fun fr t H => ?_
  refine AM 7 [(15, .ptr none), (17, Ai x7)] H fun fr H => AQ (AD 17 (AE 3 [(60, .bool (x7 != 0))] H fun fr H => BD 3 (fun fr' h' => h6 = h' ∧ Has fr' 108 [(0, .str p0), (1, .bool p1), (4, .str p4), (12, .Aq (AR x2)), (15, .ptr none), (63, .bool ((x7 != 0) || false))]) ?_ ?_))
  ·cases hb : (x7 != 0 : Bool) with
   | true =>
    replace H := H.kn 60 hb
    exact AE 3 [(63, .bool true)] H fun fr H => Am H hb
   | false =>
    replace H := H.kn 60 hb
    exact AE 3 [(63, .bool false)] H fun fr H => Am H hb
  intro t fr h' hK
  obtain ⟨e, H⟩ := hK
  subst e
  refine AE 1 [(64, .bool ((x7 != 0) || false))] H fun fr H => BD 3 (fun fr' h' => h6 = h' ∧ Has fr' 108 [(0, .str p0), (1, .bool p1), (4, .str p4), (12, .Aq (AR x2)), (15, .ptr none), (67, .bool (((x7 != 0) || false) || true))]) ?_ ?_
  ·cases hb : ((x7 != 0) || false : Bool) with
   | true =>
    replace H := H.kn 64 hb
    exact AE 3 [(67, .bool true)] H fun fr H => Am H hb
   | false =>
    replace H := H.kn 64 hb
    exact AE 3 [(67, .bool true)] H fun fr H => Am H hb
  intro t fr h' hK
  obtain ⟨e, H⟩ := hK
  subst e
  refine AE 1 [(68, .bool (((x7 != 0) || false) || true))] H fun fr H => ?_
  obtain ⟨x21, ho, hm⟩ := bind_some hm
  refine BD 6 (fun fr' h' => Has fr' 108 [(0, .str p0), (1, .bool p1), (4, .str p4), (15, .ptr none), (74, .bool x21)] ∧ HH g h' [.obj h.size (.cells none 2 [.str p0, .str ([91, 120, 93] : List UInt8), .bool p3, .bool false, .bool p1, Ai (mx p2 (1 : Int)), .bool false, .bool false, .bool false])] F) ?_ ?_
  ·rcases BJ ho with ⟨hb, hm⟩ | ⟨hb, hm⟩
   ·replace H := H.kn 68 hb
    refine AE 6 [(74, .bool true)] H fun fr H => ?_
    obtain rfl := Ah hm
    exact at_nil ⟨H.ls, A⟩
   replace H := H.kn 68 hb
   obtain ⟨x22, hx, hm⟩ := bind_some hm
   obtain ⟨v1, h20, hr, rfl, A1⟩ := DD (av := [.Aq (AR x2), .str p4]) hx (A.cut 0)
   replace A := A.Ea A1
   refine Ap 2 [] 71 hr H fun fr t H => ?_
   refine AE 3 [(74, .bool (!(x22 == p4)))] H fun fr H => ?_
   obtain rfl := Ah hm
   exact at_nil ⟨H.ls, A⟩
  clear A
  intro t fr h19 hK
  obtain ⟨H, A⟩ := hK
  refine BK id (AV 74 H hm (fun hb hm H => ?_) fun hb hm H => ?_)
  ·refine AD 1 (AM 1 [(10, .bool false)] H fun fr H => Ag ?_)
   obtain rfl := Ah hm
   refine ⟨.inl rfl, .bool false, rH H, ?_⟩
   replace A := A.d0
   exact ⟨rfl, A⟩
  refine Ca 11 id ?_
  obtain ⟨⟨x23, x24, x25⟩, hx, hm⟩ := bind_some hm
  obtain ⟨v1, h21, hr, rfl, A1⟩ := Jl (av := [.str p0, .bool p1]) hx (A.cut 0)
  replace A := A.Ea A1
  refine Ap 2 [] 78 hr H fun fr t H => ?_
  obtain ⟨h22, e3, A⟩ := A.pu (.cells none 2 [.slice none 0, Ai 0])
  refine F8 4 [(79, .agg (Aa x23)), (80, Ai x24), (81, Ai x25)] 18 (.ptr (some (h21.size, 0))) e3 H fun fr t H => ?_
  obtain ⟨h23, hx, A⟩ := A.s0 0 (Aa x23) [_, _]
  refine DN hx H fun fr t H => ?_
  refine Bw 2 [] 7 H fun fr H => Ax 83 _ _ H (fun fr => .of (CD (by kernel_rfl) (A.GX 0 rfl (o := 0) (n := 2) ⟨Nat.le_of_ble_eq_true rfl, rfl⟩))) fun fr t H => ?_
  obtain ⟨⟨w25, x27⟩, hx, hm⟩ := bind_some hm
  obtain ⟨v1, h24, hr, hc⟩ := IE (av := [.agg (Aa x23), Ai 4096]) hx (A.cut 0)
  rcases hc with ⟨x26, rfl, rfl, A1⟩ | ⟨rfl, rfl, A1⟩
  ·replace A := A.Ea A1
   refine Be 84 hr H fun fr t H => ?_
   refine Bw 5 [(21, .Aq (Ej 256 (AB.int .u8) x26.Az ++ [Ai x26.Al, vs (eI .i32) x26.Ba, vs eB x26.BX, vs eB x26.BV, .int .i32 x26.Aj, .int .i32 x26.BN, .bool x26.BE])), (22, Ai x27)] 22 H fun fr H => AE 3 [(89, .bool (x27 == 0))] H fun fr H => BD 3 (fun fr' h' => h24 = h' ∧ Has fr' 108 [(4, .str p4), (15, .ptr none), (21, .Aq (Ej 256 (AB.int .u8) x26.Az ++ [Ai x26.Al, vs (eI .i32) x26.Ba, vs eB x26.BX, vs eB x26.BV, .int .i32 x26.Aj, .int .i32 x26.BN, .bool x26.BE])), (92, .bool ((x27 == 0) || false))]) ?_ ?_
   ·cases hb : (x27 == 0 : Bool) with
    | true =>
     replace H := H.kn 89 hb
     exact AE 3 [(92, .bool true)] H fun fr H => Am H hb
    | false =>
     replace H := H.kn 89 hb
     exact AE 3 [(92, .bool false)] H fun fr H => Am H hb
   intro t fr h' hK
   obtain ⟨e, H⟩ := hK
   subst e
   refine AE 1 [(93, .bool ((x27 == 0) || false))] H fun fr H => ?_
   obtain ⟨x28, ho, hm⟩ := bind_some hm
   refine BD 11 (fun fr' h' => Has fr' 108 [(104, .bool x28)] ∧ HH g h' [.obj h21.size (.cells none 2 (Aa x23)), .obj h.size (.cells none 2 [.str p0, .str ([91, 120, 93] : List UInt8), .bool p3, .bool false, .bool p1, Ai (mx p2 (1 : Int)), .bool false, .bool false, .bool false])] F) ?_ ?_
   ·rcases BJ ho with ⟨hb, hm⟩ | ⟨hb, hm⟩
    ·replace H := H.kn 93 hb
     obtain ⟨x29, hx, hm⟩ := bind_some hm
     obtain ⟨v1, h26, hr, rfl, A1⟩ := Kd (av := [.Aq (Ej 256 (AB.int .u8) x26.Az ++ [Ai x26.Al, vs (eI .i32) x26.Ba, vs eB x26.BX, vs eB x26.BV, .int .i32 x26.Aj, .int .i32 x26.BN, .bool x26.BE]), .str p4]) hx (A.cut 0)
     replace A := A.Ea A1
     refine Ap 2 [] 96 hr H fun fr t H => ?_
     refine AE 1 [(97, .bool x29)] H fun fr H => ?_
     rcases BJ hm with ⟨hb, hm⟩ | ⟨hb, hm⟩
     ·replace H := H.kn 97 hb
      refine AE 7 [(104, .bool true)] H fun fr H => ?_
      obtain rfl := Ah hm
      exact at_nil ⟨H.ls, A⟩
     replace H := H.kn 97 hb
     cases hm
    replace H := H.kn 93 hb
    refine AE 11 [(104, .bool false)] H fun fr H => ?_
    obtain rfl := Ah hm
    exact at_nil ⟨H.ls, A⟩
   clear A
   intro t fr h25 hK
   obtain ⟨H, A⟩ := hK
   refine AE 1 [(105, .bool x28)] H fun fr H => ?_
   obtain ⟨x30, ho, hm⟩ := bind_some hm
   refine BD 2 (fun fr' h' => Has fr' 108 [(107, .bool x30)] ∧ HH g h' [.obj h21.size (.cells none 2 (Aa x23)), .obj h.size (.cells none 2 [.str p0, .str ([91, 120, 93] : List UInt8), .bool p3, .bool false, .bool p1, Ai (mx p2 (1 : Int)), .bool false, .bool false, .bool false])] F) ?_ ?_
   ·rcases BJ ho with ⟨hb, hm⟩ | ⟨hb, hm⟩
    ·replace H := H.kn 105 hb
     obtain ⟨x31, hx, hm⟩ := bind_some hm
     obtain ⟨v1, h28, hr, rfl, A1⟩ := Eg (av := []) hx (A.cut 0)
     replace A := A.Ea A1
     refine Be 106 hr H fun fr t H => ?_
     refine AE 1 [(107, .bool x31)] H fun fr H => ?_
     obtain rfl := Ah hm
     exact at_nil ⟨H.ls, A⟩
    replace H := H.kn 105 hb
    refine AE 2 [(107, .bool false)] H fun fr H => ?_
    obtain rfl := Ah hm
    exact at_nil ⟨H.ls, A⟩
   clear A
   intro t fr h27 hK
   obtain ⟨H, A⟩ := hK
   refine AM 1 [(10, .bool x30)] H fun fr H => Ag ?_
   obtain rfl := Ah hm
   refine ⟨.inl rfl, .bool x30, rH H, ?_⟩
   replace A := A.d0
   exact ⟨rfl, A⟩
  replace A := A.Ea A1
  refine Be 84 hr H fun fr t H => ?_
  refine Bw 5 [(21, .ptr none), (22, Ai x27)] 22 H fun fr H => AE 3 [(89, .bool (x27 == 0))] H fun fr H => BD 3 (fun fr' h' => h24 = h' ∧ Has fr' 108 [(4, .str p4), (15, .ptr none), (21, .ptr none), (92, .bool ((x27 == 0) && false))]) ?_ ?_
  ·cases hb : (x27 == 0 : Bool) with
   | true =>
    replace H := H.kn 89 hb
    exact AE 3 [(92, .bool false)] H fun fr H => Am H hb
   | false =>
    replace H := H.kn 89 hb
    exact AE 3 [(92, .bool false)] H fun fr H => Am H hb
  intro t fr h' hK
  obtain ⟨e, H⟩ := hK
  subst e
  refine AE 1 [(93, .bool ((x27 == 0) && false))] H fun fr H => ?_
  rcases BJ hm with ⟨hb, hm⟩ | ⟨hb, hm⟩
  ·replace H := H.kn 93 hb
   cases hm
  replace H := H.kn 93 hb
  refine AM 15 [(10, .bool false)] H fun fr H => Ag ?_
  obtain rfl := Ah hm
  refine ⟨.inl rfl, .bool false, rH H, ?_⟩
  replace A := A.d0
  exact ⟨rfl, A⟩
 replace A := A.Ea A1
 refine Be 40 hr H fun fr t H => ?_
 refine AM 7 [(12, .ptr none), (14, Ai x4)] H fun fr H => AQ (AD 2 (AM 2 [(45, .bool (x4 != 0))] H fun fr H => AV 45 H hm (fun hb hm H => ?_) fun hb hm H => ?_))
 ·refine AD 6 ?_
  obtain ⟨x32, hx, hm⟩ := bind_some hm
  obtain ⟨v1, h29, hr, rfl, A1⟩ := Eg (av := []) hx (A.cut 0)
  replace A := A.Ea A1
  refine Ap 3 [(48, .bool true)] 49 hr H fun fr t H => ?_
  refine AM 2 [(10, .bool x32)] H fun fr H => Ag ?_
  obtain rfl := Ah hm
  refine ⟨.inl rfl, .bool x32, rH H, ?_⟩
  replace A := A.d0
  exact ⟨rfl, A⟩
 refine Ca 2 id ?_
 obtain ⟨h30, hx, A⟩ := A.s0 1 [.str ([91, 120, 93] : List UInt8)] [_, _, _, _, _, _, _, _, _]
 refine C1 1 [] hx H fun fr t H => ?_
 refine CG 9 id (Ax 53 _ _ H (fun fr => .of (CD (by kernel_rfl) (A.GX 0 rfl (o := 0) (n := 9) ⟨Nat.le_of_ble_eq_true rfl, rfl⟩))) fun fr t H => ?_)
 obtain ⟨⟨w31, x34, x35⟩, hx, hm⟩ := bind_some hm
 obtain ⟨v1, h31, hr, hc⟩ := FE (av := [.agg [.str p0, .str ([91, 120, 93] : List UInt8), .bool p3, .bool false, .bool p1, Ai (mx p2 (1 : Int)), .bool false, .bool false, .bool false], Ai 4096]) hx (A.cut 0)
 rcases hc with ⟨x33, rfl, rfl, A1⟩ | ⟨rfl, rfl, A1⟩
 ·replace A := A.Ea A1
  refine Be 54 hr H fun fr t H => ?_
  refine AM 7 [(15, .Aq (AR x33)), (17, Ai x35)] H fun fr H => AQ (AD 17 (AE 3 [(60, .bool (x35 != 0))] H fun fr H => BD 3 (fun fr' h' => h31 = h' ∧ Has fr' 108 [(0, .str p0), (1, .bool p1), (4, .str p4), (12, .ptr none), (15, .Aq (AR x33)), (63, .bool ((x35 != 0) || true))]) ?_ ?_))
  ·cases hb : (x35 != 0 : Bool) with
   | true =>
    replace H := H.kn 60 hb
    exact AE 3 [(63, .bool true)] H fun fr H => Am H hb
   | false =>
    replace H := H.kn 60 hb
    exact AE 3 [(63, .bool true)] H fun fr H => Am H hb
  intro t fr h' hK
  obtain ⟨e, H⟩ := hK
  subst e
  refine AE 1 [(64, .bool ((x35 != 0) || true))] H fun fr H => BD 3 (fun fr' h' => h31 = h' ∧ Has fr' 108 [(0, .str p0), (1, .bool p1), (4, .str p4), (12, .ptr none), (15, .Aq (AR x33)), (67, .bool (((x35 != 0) || true) || false))]) ?_ ?_
  ·cases hb : ((x35 != 0) || true : Bool) with
   | true =>
    replace H := H.kn 64 hb
    exact AE 3 [(67, .bool true)] H fun fr H => Am H hb
   | false =>
    replace H := H.kn 64 hb
    exact AE 3 [(67, .bool false)] H fun fr H => Am H hb
  intro t fr h' hK
  obtain ⟨e, H⟩ := hK
  subst e
  refine AE 1 [(68, .bool (((x35 != 0) || true) || false))] H fun fr H => ?_
  rcases BJ hm with ⟨hb, hm⟩ | ⟨hb, hm⟩
  ·replace H := H.kn 68 hb
   refine AM 6 [(74, .bool true)] H fun fr H => NC (x := .tmp 74) (by kernel_rfl) H (fun fr => by kernel_rfl) ?_
   refine AD 1 (AM 1 [(10, .bool false)] H fun fr H => Ag ?_)
   obtain rfl := Ah hm
   refine ⟨.inl rfl, .bool false, rH H, ?_⟩
   replace A := A.d0
   exact ⟨rfl, A⟩
  replace H := H.kn 68 hb
  cases hm
 replace A := A.Ea A1
 refine Be 54 hr H fun fr t H => ?_
 refine AM 7 [(15, .ptr none), (17, Ai x35)] H fun fr H => AQ (AD 17 (AE 3 [(60, .bool (x35 != 0))] H fun fr H => BD 3 (fun fr' h' => h31 = h' ∧ Has fr' 108 [(0, .str p0), (1, .bool p1), (4, .str p4), (12, .ptr none), (15, .ptr none), (63, .bool ((x35 != 0) || true))]) ?_ ?_))
 ·cases hb : (x35 != 0 : Bool) with
  | true =>
   replace H := H.kn 60 hb
   exact AE 3 [(63, .bool true)] H fun fr H => Am H hb
  | false =>
   replace H := H.kn 60 hb
   exact AE 3 [(63, .bool true)] H fun fr H => Am H hb
 intro t fr h' hK
 obtain ⟨e, H⟩ := hK
 subst e
 refine AE 1 [(64, .bool ((x35 != 0) || true))] H fun fr H => BD 3 (fun fr' h' => h31 = h' ∧ Has fr' 108 [(0, .str p0), (1, .bool p1), (4, .str p4), (12, .ptr none), (15, .ptr none), (67, .bool (((x35 != 0) || true) || true))]) ?_ ?_
 ·cases hb : ((x35 != 0) || true : Bool) with
  | true =>
   replace H := H.kn 64 hb
   exact AE 3 [(67, .bool true)] H fun fr H => Am H hb
  | false =>
   replace H := H.kn 64 hb
   exact AE 3 [(67, .bool true)] H fun fr H => Am H hb
 intro t fr h' hK
 obtain ⟨e, H⟩ := hK
 subst e
 refine AE 1 [(68, .bool (((x35 != 0) || true) || true))] H fun fr H => ?_
 rcases BJ hm with ⟨hb, hm⟩ | ⟨hb, hm⟩
 ·replace H := H.kn 68 hb
  refine AM 6 [(74, .bool true)] H fun fr H => NC (x := .tmp 74) (by kernel_rfl) H (fun fr => by kernel_rfl) ?_
  refine AD 1 (AM 1 [(10, .bool false)] H fun fr H => Ag ?_)
  obtain rfl := Ah hm
  refine ⟨.inl rfl, .bool false, rH H, ?_⟩
  replace A := A.d0
  exact ⟨rfl, A⟩
 replace H := H.kn 68 hb
 cases hm
end
end Go.Av.L
