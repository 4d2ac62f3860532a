/-
 Models of functions, and that the abstract run tells them. Written by lift2.py.
-/
import Derived.Test.YtiodcbipjnmpgaaDoorKCfg
import Derived.Test.YtiodcbipjnmpgaaDoorK1
import Derived.Test.YtiodcbipjnmpgaaDoorK2
import Derived.Test.YtiodcbipjnmpgaaDoorK3
namespace Go.Av.L
open Go.Av Go.Lib
set_option maxRecDepth 10000
set_option linter.unusedVariables false
set_option linter.unusedSimpArgs false
variable {g : Gd} {h : AHeap} {F : List Ck} {av : List AVal}
noncomputable section
def M_tree_Tree_Matches (p0 : S_tree_Tree) (p1 : List UInt8) (p2 : Int) (p3 : Int) : Option (Bool) :=
 (M_tree_Tree_Right p0).bind fun x1 => iteB ((((!x1) || (decide (p2 < 0))) || (decide (p3 < p2))) || (decide (p3 > (p1.length : Int)))) (some false) ((M_tree_asker_asks (⟨p0, p1, ([] : List (S_tree_question × Bool))⟩ : S_tree_asker) (⟨p0.Root, (0 : Int), p2, p3⟩ : S_tree_question)).bind fun (x2, x3) => some x2)
theorem ok_tree_Tree_Matches {p0 p1 p2 p3 q0} (hm : M_tree_Tree_Matches p0 p1 p2 p3 = some q0) (A : HH g h [] F) (hc : canL (cfg.still 11) av = [.agg (e_S_tree_Tree p0), .str p1, Ai p2, Ai p3] := by kernel_rfl) : ∃ v h', Runs cfg g h 11 av v h' ∧ v = .bool q0 ∧ HH g h' [] F := by
 refine rq1 40 [.tmp 8] hc ?_
 clear hc
 unfold M_tree_Tree_Matches at hm
 refine bg 40 [(0, .agg (e_S_tree_Tree p0)), (1, .str p1), (2, Ai p2), (3, Ai p3)] fun fr H => ?_
 refine aw_sr 2 ?_
 obtain ⟨h1, e1, A⟩ := A.pu (.cells none 2 (e_S_tree_Tree p0))
 refine at_ln 4 (.ptr (some (h.size, 0))) e1 H fun fr t H => ?_
 refine at_L 1 [] H fun fr H => aw_sq (aw_sr 18 (at_l1 10 _ _ H (fun fr => .of (s_ldA (by kernel_rfl) (A.ldA 0 rfl (o := 0) (n := 2) ⟨Nat.le_of_ble_eq_true rfl, rfl⟩))) fun fr t H => ?_))
 obtain ⟨x1, hx, hm⟩ := bind_some hm
 obtain ⟨v1, h2, hr, rfl, A1⟩ := ok_tree_Tree_Right (av := [.agg (e_S_tree_Tree p0)]) hx (A.cut 0)
 replace A : HH g h2 [.obj h.size (.cells none 2 (e_S_tree_Tree p0))] F := A.glue0 (n := 0) A1
 refine at_lc1 11 hr H fun fr t H => ?_
 refine at_sl 2 [(13, .bool (!x1))] H fun fr H => at_cl 3 (fun fr' h' => h2 = h' ∧ Has fr' 40 [(1, .str p1), (2, Ai p2), (3, Ai p3), (4, .ptr (some (h.size, 0))), (16, .bool ((!x1) || (decide (p2 < 0))))]) ?_ ?_
 ·cases hb : (!x1 : Bool) with
  | true =>
   replace H := H.kn 13 hb
   exact at_sl 3 [(16, .bool true)] H fun fr H => at_zb H hb
  | false =>
   replace H := H.kn 13 hb
   exact at_sl 3 [(16, .bool (decide (p2 < 0)))] H fun fr H => at_zb H hb
 intro t fr h' hK
 obtain ⟨e, H⟩ := hK
 subst e
 refine at_sl 1 [(17, .bool ((!x1) || (decide (p2 < 0))))] H fun fr H => at_cl 4 (fun fr' h' => h2 = h' ∧ Has fr' 40 [(1, .str p1), (2, Ai p2), (3, Ai p3), (4, .ptr (some (h.size, 0))), (21, .bool (((!x1) || (decide (p2 < 0))) || (decide (p3 < p2))))]) ?_ ?_
 ·cases hb : ((!x1) || (decide (p2 < 0)) : Bool) with
  | true =>
   replace H := H.kn 17 hb
   exact at_sl 4 [(21, .bool true)] H fun fr H => at_zb H hb
  | false =>
   replace H := H.kn 17 hb
   exact at_sl 4 [(21, .bool (decide (p3 < p2)))] H fun fr H => at_zb H hb
 intro t fr h' hK
 obtain ⟨e, H⟩ := hK
 subst e
 refine at_sl 1 [(22, .bool (((!x1) || (decide (p2 < 0))) || (decide (p3 < p2))))] H fun fr H => at_cl 5 (fun fr' h' => h2 = h' ∧ Has fr' 40 [(1, .str p1), (2, Ai p2), (3, Ai p3), (4, .ptr (some (h.size, 0))), (27, .bool ((((!x1) || (decide (p2 < 0))) || (decide (p3 < p2))) || (decide (p3 > (p1.length : Int)))))]) ?_ ?_
 ·cases hb : (((!x1) || (decide (p2 < 0))) || (decide (p3 < p2)) : Bool) with
  | true =>
   replace H := H.kn 22 hb
   exact at_sl 5 [(27, .bool true)] H fun fr H => at_zb H hb
  | false =>
   replace H := H.kn 22 hb
   exact at_sl 5 [(27, .bool (decide (p3 > (p1.length : Int))))] H fun fr H => at_zb H hb
 intro t fr h' hK
 obtain ⟨e, H⟩ := hK
 subst e
 refine at_nl id (aw_if 27 H hm (fun hb hm H => ?_) fun hb hm H => ?_)
 ·refine aw_sr 1 (at_L 1 [(8, .bool false)] H fun fr H => aw_rt ?_)
  obtain rfl := injA hm
  refine ⟨.inl rfl, .bool false, rH H, ?_⟩
  replace A := A.d0
  exact ⟨rfl, A⟩
 refine aw_ks 6 id (at_l1 28 _ _ H (fun fr => .of (s_ldA (by kernel_rfl) (A.ldA 0 rfl (o := 0) (n := 2) ⟨Nat.le_of_ble_eq_true rfl, rfl⟩))) fun fr t H => ?_)
 refine at_sl 1 [(29, .str p1)] H fun fr H => ?_
 obtain ⟨h3, e2⟩ : ∃ x, x = h2.push (.map 2 []) := ⟨_, rfl⟩
 replace A : HH g h3 [.obj h2.size (.map 2 (encM (fun k : S_tree_question => .agg (e_S_tree_question k)) (fun v : Bool => .bool v) ([] : List (S_tree_question × Bool)))), _] F := (A.push _).to e2
 refine at_ln 30 (.map (some h2.size)) e2 H fun fr t H => ?_
 obtain ⟨h4, e3, A⟩ := A.pu (.cells none 2 [vs e_S_tree_Node p0.Nodes, Ai p0.Root, .str p1, .map (some h2.size)])
 refine at_gn 1 [] 32 (.ptr (some (h3.size, 0))) e3 H fun fr t H => ?_
 refine at_S 1 [(9, .ptr (some (h3.size, 0)))] 8 H fun fr H => at_gl 2 [(33, .ptr (some (h3.size, 0)))] 35 2 1 A H fun fr t H => ?_
 obtain ⟨⟨x2, x3⟩, hx, hm⟩ := bind_some hm
 obtain ⟨v1, h5, hr, rfl, A1⟩ := ok_tree_asker_asks (av := [.ptr (some (h3.size, 0)), .agg [Ai p0.Root, Ai 0, Ai p2, Ai p3]]) hx (A.cut 2)
 replace A := A.g22 A1
 refine at_gc1 3 [] 39 hr H fun fr t H => ?_
 refine at_L 1 [(8, .bool x2)] H fun fr H => aw_rt ?_
 obtain rfl := injA hm
 refine ⟨.inl rfl, .bool x2, rH H, ?_⟩
 replace A := A.d0
 exact ⟨rfl, A⟩
def M_boulterlaw19_RexQuotes (p0 : List UInt8) (p1 : List UInt8) (p2 : Bool) : Option (Bool) :=
 iteB ((decide ((p0.length : Int) > 12)) || (decide ((p1.length : Int) > 12))) ((M_boulterlaw19_awake).bind fun x1 => some x1) ((M_rex_Quote p0 p2).bind fun x2 => (M_rex_Parse x2 p2).bind fun (x3, x4, x5) => (iteB ((x5 == 0) && (x4 == 0)) ((M_tree_Tree_Matches x3 p0 (0 : Int) (p0.length : Int)).bind fun x7 => some x7) (some false) : Option (Bool)).bind fun x6 => (iteB x6 ((M_tree_Tree_Matches x3 p1 (0 : Int) (p1.length : Int)).bind fun x9 => some (x9 == (p0 == p1))) (some false) : Option (Bool)).bind fun x8 => (iteB x8 ((M_tree_Tree_Groups x3).bind fun x11 => some (x11 == 0)) (some false) : Option (Bool)).bind fun x10 => (iteB x10 ((M_boulterlaw19_awake).bind fun x13 => some x13) (some false) : Option (Bool)).bind fun x12 => some x12)
theorem ok_boulterlaw19_RexQuotes {p0 p1 p2 q0} (hm : M_boulterlaw19_RexQuotes p0 p1 p2 = some q0) (A : HH g h [] F) (hc : canL (cfg.still 5) av = [.str p0, .str p1, .bool p2] := by kernel_rfl) : ∃ v h', Runs cfg g h 5 av v h' ∧ v = .bool q0 ∧ HH g h' [] F := by
 refine rq1 60 [.tmp 6] hc ?_
 clear hc
 unfold M_boulterlaw19_RexQuotes at hm
 refine bg 60 [(0, .str p0), (1, .str p1), (2, .bool p2)] fun fr H => ?_
 refine aw_sr 1 (at_L 1 [] H fun fr H => aw_sq (aw_sr 8 (at_sl 4 [(13, .bool (decide ((p0.length : Int) > 12)))] H fun fr H => at_cl 4 (fun fr' h' => h = h' ∧ Has fr' 60 [(0, .str p0), (1, .str p1), (2, .bool p2), (17, .bool ((decide ((p0.length : Int) > 12)) || (decide ((p1.length : Int) > 12))))]) ?_ ?_)))
 ·cases hb : (decide ((p0.length : Int) > 12) : Bool) with
  | true =>
   replace H := H.kn 13 hb
   exact at_sl 4 [(17, .bool true)] H fun fr H => at_zb H hb
  | false =>
   replace H := H.kn 13 hb
   exact at_sl 4 [(17, .bool (decide ((p1.length : Int) > 12)))] H fun fr H => at_zb H hb
 intro t fr h' hK
 obtain ⟨e, H⟩ := hK
 subst e
 refine at_nl id (aw_if 17 H hm (fun hb hm H => ?_) fun hb hm H => ?_)
 ·refine aw_sr 2 ?_
  obtain ⟨x1, hx, hm⟩ := bind_some hm
  obtain ⟨v1, h1, hr, rfl, A1⟩ := ok_boulterlaw19_awake (av := []) hx (A.cut 0)
  replace A := A.g00 A1
  refine at_lc1 18 hr H fun fr t H => ?_
  refine at_L 1 [(6, .bool x1)] H fun fr H => aw_rt ?_
  obtain rfl := injA hm
  exact ⟨.inl rfl, _, rH H, rfl, A⟩
 refine aw_ks 13 id ?_
 obtain ⟨x2, hx, hm⟩ := bind_some hm
 obtain ⟨v1, h2, hr, rfl, A1⟩ := ok_rex_Quote (av := [.str p0, .bool p2]) hx (A.cut 0)
 replace A := A.g00 A1
 refine at_gc1 2 [] 22 hr H fun fr t H => ?_
 obtain ⟨⟨x3, x4, x5⟩, hx, hm⟩ := bind_some hm
 obtain ⟨v1, h3, hr, rfl, A1⟩ := ok_rex_Parse (av := [.str x2, .bool p2]) hx (A.cut 0)
 replace A := A.g00 A1
 refine at_gc1 1 [] 24 hr H fun fr t H => ?_
 obtain ⟨h4, e1, A⟩ := A.pu (.cells none 2 [.slice none 0, Ai 0])
 refine at_gn 4 [(25, .agg (e_S_tree_Tree x3)), (26, Ai x4), (27, Ai x5)] 7 (.ptr (some (h3.size, 0))) e1 H fun fr t H => ?_
 obtain ⟨h5, hx, A⟩ := A.s0 0 (e_S_tree_Tree x3) [_, _]
 refine at_lS hx H fun fr t H => ?_
 refine at_S 2 [(8, Ai x4), (9, Ai x5)] 33 H fun fr H => at_sl 3 [(30, .bool (x5 == 0))] H fun fr H => at_cl 3 (fun fr' h' => h5 = h' ∧ Has fr' 60 [(0, .str p0), (1, .str p1), (7, .ptr (some (h3.size, 0))), (33, .bool ((x5 == 0) && (x4 == 0)))]) ?_ ?_
 ·cases hb : (x5 == 0 : Bool) with
  | true =>
   replace H := H.kn 30 hb
   exact at_sl 3 [(33, .bool (x4 == 0))] H fun fr H => at_zb H hb
  | false =>
   replace H := H.kn 30 hb
   exact at_sl 3 [(33, .bool false)] H fun fr H => at_zb H hb
 intro t fr h' hK
 obtain ⟨e, H⟩ := hK
 subst e
 refine at_sl 1 [(34, .bool ((x5 == 0) && (x4 == 0)))] H fun fr H => ?_
 obtain ⟨x6, ho, hm⟩ := bind_some hm
 refine at_cl 6 (fun fr' h' => Has fr' 60 [(0, .str p0), (1, .str p1), (7, .ptr (some (h3.size, 0))), (40, .bool x6)] ∧ HH g h' [.obj h3.size (.cells none 2 (e_S_tree_Tree x3))] F) ?_ ?_
 ·rcases iteB_some ho with ⟨hb, hm⟩ | ⟨hb, hm⟩
  ·replace H := H.kn 34 hb
   refine at_l1 35 _ _ H (fun fr => .of (s_ldA (by kernel_rfl) (A.ldA 0 rfl (o := 0) (n := 2) ⟨Nat.le_of_ble_eq_true rfl, rfl⟩))) fun fr t H => ?_
   obtain ⟨x7, hx, hm⟩ := bind_some hm
   obtain ⟨v1, h7, hr, rfl, A1⟩ := ok_tree_Tree_Matches (av := [.agg (e_S_tree_Tree x3), .str p0, Ai 0, Ai (p0.length : Int)]) hx (A.cut 0)
   replace A := A.g00 A1
   refine at_gc1 3 [] 39 hr H fun fr t H => ?_
   refine at_sl 1 [(40, .bool x7)] H fun fr H => ?_
   obtain rfl := injA hm
   exact at_nil ⟨H.ls, A⟩
  replace H := H.kn 34 hb
  refine at_sl 6 [(40, .bool false)] H fun fr H => ?_
  obtain rfl := injA hm
  exact at_nil ⟨H.ls, A⟩
 clear A
 intro t fr h6 hK
 obtain ⟨H, A⟩ := hK
 refine at_sl 1 [(41, .bool x6)] H fun fr H => ?_
 obtain ⟨x8, ho, hm⟩ := bind_some hm
 refine at_cl 10 (fun fr' h' => Has fr' 60 [(7, .ptr (some (h3.size, 0))), (51, .bool x8)] ∧ HH g h' [.obj h3.size (.cells none 2 (e_S_tree_Tree x3))] F) ?_ ?_
 ·rcases iteB_some ho with ⟨hb, hm⟩ | ⟨hb, hm⟩
  ·replace H := H.kn 41 hb
   refine at_l1 42 _ _ H (fun fr => .of (s_ldA (by kernel_rfl) (A.ldA 0 rfl (o := 0) (n := 2) ⟨Nat.le_of_ble_eq_true rfl, rfl⟩))) fun fr t H => ?_
   obtain ⟨x9, hx, hm⟩ := bind_some hm
   obtain ⟨v1, h9, hr, rfl, A1⟩ := ok_tree_Tree_Matches (av := [.agg (e_S_tree_Tree x3), .str p1, Ai 0, Ai (p1.length : Int)]) hx (A.cut 0)
   replace A := A.g00 A1
   refine at_gc1 3 [] 46 hr H fun fr t H => ?_
   refine at_sl 5 [(51, .bool (x9 == (p0 == p1)))] H fun fr H => ?_
   obtain rfl := injA hm
   exact at_nil ⟨H.ls, A⟩
  replace H := H.kn 41 hb
  refine at_sl 10 [(51, .bool false)] H fun fr H => ?_
  obtain rfl := injA hm
  exact at_nil ⟨H.ls, A⟩
 clear A
 intro t fr h8 hK
 obtain ⟨H, A⟩ := hK
 refine at_sl 1 [(52, .bool x8)] H fun fr H => ?_
 obtain ⟨x10, ho, hm⟩ := bind_some hm
 refine at_cl 4 (fun fr' h' => Has fr' 60 [(56, .bool x10)] ∧ HH g h' [.obj h3.size (.cells none 2 (e_S_tree_Tree x3))] F) ?_ ?_
 ·rcases iteB_some ho with ⟨hb, hm⟩ | ⟨hb, hm⟩
  ·replace H := H.kn 52 hb
   refine at_l1 53 _ _ H (fun fr => .of (s_ldA (by kernel_rfl) (A.ldA 0 rfl (o := 0) (n := 2) ⟨Nat.le_of_ble_eq_true rfl, rfl⟩))) fun fr t H => ?_
   obtain ⟨x11, hx, hm⟩ := bind_some hm
   obtain ⟨v1, h11, hr, rfl, A1⟩ := ok_tree_Tree_Groups (av := [.agg (e_S_tree_Tree x3)]) hx (A.cut 0)
   replace A := A.g00 A1
   refine at_lc1 54 hr H fun fr t H => ?_
   refine at_sl 2 [(56, .bool (x11 == 0))] H fun fr H => ?_
   obtain rfl := injA hm
   exact at_nil ⟨H.ls, A⟩
  replace H := H.kn 52 hb
  refine at_sl 4 [(56, .bool false)] H fun fr H => ?_
  obtain rfl := injA hm
  exact at_nil ⟨H.ls, A⟩
 clear A
 intro t fr h10 hK
 obtain ⟨H, A⟩ := hK
 refine at_sl 1 [(57, .bool x10)] H fun fr H => ?_
 obtain ⟨x12, ho, hm⟩ := bind_some hm
 refine at_cl 2 (fun fr' h' => Has fr' 60 [(59, .bool x12)] ∧ HH g h' [.obj h3.size (.cells none 2 (e_S_tree_Tree x3))] F) ?_ ?_
 ·rcases iteB_some ho with ⟨hb, hm⟩ | ⟨hb, hm⟩
  ·replace H := H.kn 57 hb
   obtain ⟨x13, hx, hm⟩ := bind_some hm
   obtain ⟨v1, h13, hr, rfl, A1⟩ := ok_boulterlaw19_awake (av := []) hx (A.cut 0)
   replace A := A.g00 A1
   refine at_lc1 58 hr H fun fr t H => ?_
   refine at_sl 1 [(59, .bool x13)] H fun fr H => ?_
   obtain rfl := injA hm
   exact at_nil ⟨H.ls, A⟩
  replace H := H.kn 57 hb
  refine at_sl 2 [(59, .bool false)] H fun fr H => ?_
  obtain rfl := injA hm
  exact at_nil ⟨H.ls, A⟩
 clear A
 intro t fr h12 hK
 obtain ⟨H, A⟩ := hK
 refine at_L 1 [(6, .bool x12)] H fun fr H => aw_rt ?_
 obtain rfl := injA hm
 refine ⟨.inl rfl, .bool x12, rH H, ?_⟩
 replace A := A.d0
 exact ⟨rfl, A⟩
end
end Go.Av.L
