/-
 Models of functions, and that the abstract run tells them. Written by lift2.py.
-/
import Derived.Test.YtiodcbipjnmpgaaKCfg
import Derived.Test.YtiodcbipjnmpgaaK0
import Derived.Test.YtiodcbipjnmpgaaK2
import Derived.Test.YtiodcbipjnmpgaaK4
import Derived.Test.YtiodcbipjnmpgaaK5
namespace Go.Av.L
open Go.Av Go.Lib
set_option maxRecDepth 10000
set_option linter.unusedVariables false
set_option linter.unusedSimpArgs false
variable {g : Gd} {h : AHeap} {F : List Ck} {av : List AVal}
noncomputable def M_boulterlaw21_DfaCaps (p0 : S_tree_Tree) (p1 : Int) : Option (Bool) :=
 (M_boulterlaw18_Plain p0).bind fun x1 => (M_boulterref18_Small x1).bind fun x2 => iteB (!x2) ((M_boulterlaw21_awake).bind fun x3 => some x3) ((M_boulterlaw18_Plain p0).bind fun x4 => (M_dfa_Compile p0 p1).bind fun (w6, x6) => (match w6 with | some x5 => iteB ((decide (p1 < (1 : Int))) || (decide (p1 > (4096 : Int)))) (some false) ((M_boulterref18_Right x4).bind fun x7 => iteB (!x7) (some false) ((M_boulterref20_Weight x4 x4.Root).bind fun x8 => iteB (x6 != (0 : Int)) ((iteB ((x6 == (7 : Int)) && false) ((iteB (decide (x8 > (5 : Int))) (some true) (need (decide (0 ≤ (IntKind.i64.wrap ((IntKind.i64.wrap ((2 : Int) * x8)) + (2 : Int))))) <| some (decide (p1 < (bShl .i64 (1 : Int) (IntKind.i64.wrap ((IntKind.i64.wrap ((2 : Int) * x8)) + (2 : Int))))))) : Option (Bool)).bind fun x10 => some x10) (some false) : Option (Bool)).bind fun x9 => (iteB x9 ((M_boulterlaw21_awake).bind fun x12 => some x12) (some false) : Option (Bool)).bind fun x11 => some x11) ((M_dfa_Dfa_States x5).bind fun x13 => (iteB (decide (x13 ≤ p1)) ((M_boulterlaw21_awake).bind fun x15 => some x15) (some false) : Option (Bool)).bind fun x14 => some x14))) | none => iteB ((decide (p1 < (1 : Int))) || (decide (p1 > (4096 : Int)))) ((iteB (x6 == (6 : Int)) ((M_boulterlaw21_awake).bind fun x17 => some x17) (some false) : Option (Bool)).bind fun x16 => some x16) ((M_boulterref18_Right x4).bind fun x18 => iteB (!x18) ((iteB (x6 == (1 : Int)) ((M_boulterlaw21_awake).bind fun x20 => some x20) (some false) : Option (Bool)).bind fun x19 => some x19) ((M_boulterref20_Weight x4 x4.Root).bind fun x21 => iteB (x6 != (0 : Int)) ((iteB ((x6 == (7 : Int)) || false) ((iteB (decide (x21 > (5 : Int))) (some true) (need (decide (0 ≤ (IntKind.i64.wrap ((IntKind.i64.wrap ((2 : Int) * x21)) + (2 : Int))))) <| some (decide (p1 < (bShl .i64 (1 : Int) (IntKind.i64.wrap ((IntKind.i64.wrap ((2 : Int) * x21)) + (2 : Int))))))) : Option (Bool)).bind fun x23 => some x23) (some false) : Option (Bool)).bind fun x22 => (iteB x22 ((M_boulterlaw21_awake).bind fun x25 => some x25) (some false) : Option (Bool)).bind fun x24 => some x24) (some false)))))
theorem ok_boulterlaw21_DfaCaps {p0 p1 q0} (hm : M_boulterlaw21_DfaCaps p0 p1 = some q0) (A : HH g h [] F) (hc : canL (cfg.still 9) av = [.agg [vs e_S_tree_Node p0.Nodes, .int .i64 p0.Root], .int .i64 p1] := by kernel_rfl) : ∃ v h', Runs cfg g h 9 av v h' ∧ v = .bool q0 ∧ HH g h' [] F := by
 refine rq1 87 [.tmp 4] hc ?_
 clear hc
 unfold M_boulterlaw21_DfaCaps at hm
 refine bg 87 [(0, .agg [vs e_S_tree_Node p0.Nodes, .int .i64 p0.Root]), (1, .int .i64 p1)] fun fr H => ?_
 refine aw_sr 2 ?_
 obtain ⟨h1, e1, A⟩ := A.pu (.cells none 2 [vs e_S_tree_Node p0.Nodes, .int .i64 p0.Root])
 refine at_ln 2 (.ptr (some (h.size, 0))) e1 H fun fr t H => ?_
 refine at_el 1 [] H (fun _ => id) fun fr H => ?_
 refine aw_sq ?_
 refine aw_sr 4 ?_
 refine at_l1 9 _ _ H (fun fr => .of (s_ldA (by kernel_rfl) (A.ldA 0 rfl (o := 0) (n := 2) ⟨Nat.le_of_ble_eq_true rfl, rfl⟩))) fun fr t H => ?_
 obtain ⟨x1, hx, hm⟩ := bind_some hm
 obtain ⟨v1, h2, hr, rfl, A1⟩ := ok_boulterlaw18_Plain (av := [.agg [vs e_S_tree_Node p0.Nodes, .int .i64 p0.Root]]) hx (A.cut 0)
 replace A : HH g h2 [.obj h.size (.cells none 2 [vs e_S_tree_Node p0.Nodes, .int .i64 p0.Root])] F := A.glue0 (n := 0) A1
 refine at_lc1 10 hr H fun fr t H => ?_
 obtain ⟨x2, hx, hm⟩ := bind_some hm
 obtain ⟨v1, h3, hr, rfl, A1⟩ := ok_boulterref18_Small (av := [.agg [vs e_S_boulterref18_Node x1.L, .int .i64 x1.Root]]) hx (A.cut 0)
 replace A := A.g00 A1
 refine at_lc1 11 hr H fun fr t H => ?_
 refine at_el 1 [(12, .bool (!x2))] H (fun _ => id) fun fr H => ?_
 refine aw_if 12 H hm (fun hb hm H => ?_) fun hb hm H => ?_
 ·refine aw_sr 2 ?_
  obtain ⟨x3, hx, hm⟩ := bind_some hm
  obtain ⟨v1, h4, hr, rfl, A1⟩ := ok_boulterlaw21_awake (av := []) hx (A.cut 0)
  replace A := A.g00 A1
  refine at_lc1 13 hr H fun fr t H => ?_
  refine at_el 1 [(4, .bool x3)] H (fun _ => id) fun fr H => ?_
  refine aw_rt ?_
  obtain rfl := injA hm
  refine ⟨.inl rfl, .bool x3, rH H, ?_⟩
  replace A := A.d0
  exact ⟨rfl, A⟩
 refine aw_ks 4 id ?_
 refine at_l1 14 _ _ H (fun fr => .of (s_ldA (by kernel_rfl) (A.ldA 0 rfl (o := 0) (n := 2) ⟨Nat.le_of_ble_eq_true rfl, rfl⟩))) fun fr t H => ?_
 obtain ⟨x4, hx, hm⟩ := bind_some hm
 obtain ⟨v1, h5, hr, rfl, A1⟩ := ok_boulterlaw18_Plain (av := [.agg [vs e_S_tree_Node p0.Nodes, .int .i64 p0.Root]]) hx (A.cut 0)
 replace A := A.g00 A1
 refine at_lc1 15 hr H fun fr t H => ?_
 obtain ⟨h6, e2, A⟩ := A.pu (.cells none 2 [.slice none 0, .int .i64 0])
 refine at_ln 5 (.ptr (some (h5.size, 0))) e2 H fun fr t H => ?_
 obtain ⟨h7, hx, A⟩ := A.s0 0 [vs e_S_boulterref18_Node x4.L, .int .i64 x4.Root] [_, _]
 refine at_lS hx H fun fr t H => ?_
 refine at_ns 8 id ?_
 refine at_l1 17 _ _ H (fun fr => .of (s_ldA (by kernel_rfl) (A.ldA 1 rfl (o := 0) (n := 2) ⟨Nat.le_of_ble_eq_true rfl, rfl⟩))) fun fr t H => ?_
 obtain ⟨⟨w6, x6⟩, hx, hm⟩ := bind_some hm
 obtain ⟨v1, h8, hr, hc⟩ := ok_dfa_Compile (av := [.agg [vs e_S_tree_Node p0.Nodes, .int .i64 p0.Root], .int .i64 p1]) hx (A.cut 0)
 rcases hc with ⟨x5, rfl, rfl, A1⟩ | ⟨rfl, rfl, A1⟩
 ·replace A := A.g00 A1
  refine at_gc1 1 [] 19 hr H fun fr t H => ?_
  refine at_el 5 [(6, .vptr (big 256 (AVal.int .u8) x5.column_ ++ [.int .i64 x5.columns_, vs (eI .i32) x5.next_, vs eB x5.ends_, vs eB x5.last_, .int .i32 x5.first_, .int .i32 x5.later_, .bool x5.empty_])), (7, .int .i64 x6)] H (fun _ => id) fun fr H => ?_
  refine aw_sq ?_
  refine aw_sr 6 ?_
  refine at_sl 3 [(24, .bool (decide (p1 < (1 : Int))))] H fun fr H => ?_
  refine at_cl 3 (fun fr' h' => h8 = h' ∧ Has fr' 87 [(1, .int .i64 p1), (5, .ptr (some (h5.size, 0))), (6, .vptr (big 256 (AVal.int .u8) x5.column_ ++ [.int .i64 x5.columns_, vs (eI .i32) x5.next_, vs eB x5.ends_, vs eB x5.last_, .int .i32 x5.first_, .int .i32 x5.later_, .bool x5.empty_])), (7, .int .i64 x6), (27, .bool ((decide (p1 < (1 : Int))) || (decide (p1 > (4096 : Int)))))]) ?_ ?_
  ·cases hb : (decide (p1 < (1 : Int)) : Bool) with
   | true =>
    replace H := H.kn 24 hb
    refine at_sl 3 [(27, .bool true)] H fun fr H => ?_
    exact at_zb H hb
   | false =>
    replace H := H.kn 24 hb
    refine at_sl 3 [(27, .bool (decide (p1 > (4096 : Int))))] H fun fr H => ?_
    exact at_zb H hb
  intro t fr h' hK
  obtain ⟨e, H⟩ := hK
  subst e
  refine at_nl id ?_
  refine aw_if 27 H hm (fun hb hm H => ?_) fun hb hm H => ?_
  ·refine aw_sr 10 ?_
   refine at_el 10 [(4, .bool false)] H (fun _ => id) fun fr H => ?_
   refine aw_rt ?_
   obtain rfl := injA hm
   refine ⟨.inl rfl, .bool false, rH H, ?_⟩
   replace A := A.d0
   exact ⟨rfl, A⟩
  refine aw_kn id ?_
  refine aw_sq ?_
  refine aw_sr 3 ?_
  refine at_l1 37 _ _ H (fun fr => .of (s_ldA (by kernel_rfl) (A.ldA 0 rfl (o := 0) (n := 2) ⟨Nat.le_of_ble_eq_true rfl, rfl⟩))) fun fr t H => ?_
  obtain ⟨x7, hx, hm⟩ := bind_some hm
  obtain ⟨v1, h9, hr, rfl, A1⟩ := ok_boulterref18_Right (av := [.agg [vs e_S_boulterref18_Node x4.L, .int .i64 x4.Root]]) hx (A.cut 0)
  replace A := A.g00 A1
  refine at_lc1 38 hr H fun fr t H => ?_
  refine at_el 1 [(39, .bool (!x7))] H (fun _ => id) fun fr H => ?_
  refine aw_if 39 H hm (fun hb hm H => ?_) fun hb hm H => ?_
  ·refine aw_sr 10 ?_
   refine at_el 10 [(4, .bool false)] H (fun _ => id) fun fr H => ?_
   refine aw_rt ?_
   obtain rfl := injA hm
   refine ⟨.inl rfl, .bool false, rH H, ?_⟩
   replace A := A.d0
   exact ⟨rfl, A⟩
  refine aw_ks 5 id ?_
  refine at_l1 49 _ _ H (fun fr => .of (s_ldA (by kernel_rfl) (A.ldA 0 rfl (o := 0) (n := 2) ⟨Nat.le_of_ble_eq_true rfl, rfl⟩))) fun fr t H => ?_
  refine at_gl 1 [] 51 0 1 A H fun fr t H => ?_
  obtain ⟨x8, hx, hm⟩ := bind_some hm
  obtain ⟨v1, h10, hr, rfl, A1⟩ := ok_boulterref20_Weight (av := [.agg [vs e_S_boulterref18_Node x4.L, .int .i64 x4.Root], .int .i64 x4.Root]) hx (A.cut 0)
  replace A := A.g00 A1
  refine at_lc1 52 hr H fun fr t H => ?_
  refine at_el 1 [(8, .int .i64 x8)] H (fun _ => id) fun fr H => ?_
  refine aw_sq ?_
  refine aw_sr 2 ?_
  refine at_el 2 [(54, .bool (x6 != (0 : Int)))] H (fun _ => id) fun fr H => ?_
  refine aw_if 54 H hm (fun hb hm H => ?_) fun hb hm H => ?_
  ·refine aw_sr 22 ?_
   refine at_sl 3 [(57, .bool (x6 == (7 : Int)))] H fun fr H => ?_
   refine at_cl 3 (fun fr' h' => h10 = h' ∧ Has fr' 87 [(1, .int .i64 p1), (8, .int .i64 x8), (60, .bool ((x6 == (7 : Int)) && false))]) ?_ ?_
   ·cases hb : (x6 == (7 : Int) : Bool) with
    | true =>
     replace H := H.kn 57 hb
     refine at_sl 3 [(60, .bool false)] H fun fr H => ?_
     exact at_zb H hb
    | false =>
     replace H := H.kn 57 hb
     refine at_sl 3 [(60, .bool false)] H fun fr H => ?_
     exact at_zb H hb
   intro t fr h' hK
   obtain ⟨e, H⟩ := hK
   subst e
   refine at_sl 1 [(61, .bool ((x6 == (7 : Int)) && false))] H fun fr H => ?_
   obtain ⟨x9, ho, hm⟩ := bind_some hm
   refine at_cl 11 (fun fr' h' => Has fr' 87 [(72, .bool x9)] ∧ HH g h' [.obj h5.size (.cells none 2 [vs e_S_boulterref18_Node x4.L, .int .i64 x4.Root]), .obj h.size (.cells none 2 [vs e_S_tree_Node p0.Nodes, .int .i64 p0.Root])] F) ?_ ?_
   ·rcases iteB_some ho with ⟨hb, hm⟩ | ⟨hb, hm⟩
    ·replace H := H.kn 61 hb
     refine at_sl 3 [(64, .bool (decide (x8 > (5 : Int))))] H fun fr H => ?_
     obtain ⟨x10, ho, hm⟩ := bind_some hm
     refine at_cl 7 (fun fr' h' => Has fr' 87 [(61, .bool true), (71, .bool x10)] ∧ HH g h' [.obj h5.size (.cells none 2 [vs e_S_boulterref18_Node x4.L, .int .i64 x4.Root]), .obj h.size (.cells none 2 [vs e_S_tree_Node p0.Nodes, .int .i64 p0.Root])] F) ?_ ?_
     ·rcases iteB_some ho with ⟨hb, hm⟩ | ⟨hb, hm⟩
      ·replace H := H.kn 64 hb
       refine at_sl 7 [(71, .bool true)] H fun fr H => ?_
       obtain rfl := injA hm
       exact at_nil ⟨H.ls, A⟩
      replace H := H.kn 64 hb
      refine at_sl 4 [(65, .int .i64 p1), (68, .int .i64 (IntKind.i64.wrap ((IntKind.i64.wrap ((2 : Int) * x8)) + (2 : Int))))] H fun fr H => ?_
      obtain ⟨hb, hm⟩ := need_some hm
      refine at_l1 69 (.int .i64 (bShl .i64 (1 : Int) (IntKind.i64.wrap ((IntKind.i64.wrap ((2 : Int) * x8)) + (2 : Int))))) h10 H (fun fr => .of (s_shl (by kernel_rfl) hb)) fun fr t H => ?_
      refine at_sl 2 [(71, .bool (decide (p1 < (bShl .i64 (1 : Int) (IntKind.i64.wrap ((IntKind.i64.wrap ((2 : Int) * x8)) + (2 : Int)))))))] H fun fr H => ?_
      obtain rfl := injA hm
      exact at_nil ⟨H.ls, A⟩
     clear A
     intro t fr h12 hK
     obtain ⟨H, A⟩ := hK
     refine at_sl 1 [(72, .bool x10)] H fun fr H => ?_
     obtain rfl := injA hm
     exact at_nil ⟨H.ls, A⟩
    replace H := H.kn 61 hb
    refine at_sl 11 [(72, .bool false)] H fun fr H => ?_
    obtain rfl := injA hm
    exact at_nil ⟨H.ls, A⟩
   clear A
   intro t fr h11 hK
   obtain ⟨H, A⟩ := hK
   refine at_sl 1 [(73, .bool x9)] H fun fr H => ?_
   obtain ⟨x11, ho, hm⟩ := bind_some hm
   refine at_cl 2 (fun fr' h' => Has fr' 87 [(75, .bool x11)] ∧ HH g h' [.obj h5.size (.cells none 2 [vs e_S_boulterref18_Node x4.L, .int .i64 x4.Root]), .obj h.size (.cells none 2 [vs e_S_tree_Node p0.Nodes, .int .i64 p0.Root])] F) ?_ ?_
   ·rcases iteB_some ho with ⟨hb, hm⟩ | ⟨hb, hm⟩
    ·replace H := H.kn 73 hb
     obtain ⟨x12, hx, hm⟩ := bind_some hm
     obtain ⟨v1, h14, hr, rfl, A1⟩ := ok_boulterlaw21_awake (av := []) hx (A.cut 0)
     replace A := A.g00 A1
     refine at_lc1 74 hr H fun fr t H => ?_
     refine at_sl 1 [(75, .bool x12)] H fun fr H => ?_
     obtain rfl := injA hm
     exact at_nil ⟨H.ls, A⟩
    replace H := H.kn 73 hb
    refine at_sl 2 [(75, .bool false)] H fun fr H => ?_
    obtain rfl := injA hm
    exact at_nil ⟨H.ls, A⟩
   clear A
   intro t fr h13 hK
   obtain ⟨H, A⟩ := hK
   refine at_el 1 [(4, .bool x11)] H (fun _ => id) fun fr H => ?_
   refine aw_rt ?_
   obtain rfl := injA hm
   refine ⟨.inl rfl, .bool x11, rH H, ?_⟩
   replace A := A.d0
   exact ⟨rfl, A⟩
  refine aw_ks 12 id ?_
  obtain ⟨x13, hx, hm⟩ := bind_some hm
  obtain ⟨v1, h15, hr, rfl, A1⟩ := ok_dfa_Dfa_States (av := [.vptr (big 256 (AVal.int .u8) x5.column_ ++ [.int .i64 x5.columns_, vs (eI .i32) x5.next_, vs eB x5.ends_, vs eB x5.last_, .int .i32 x5.first_, .int .i32 x5.later_, .bool x5.empty_])]) hx (A.cut 0)
  replace A := A.g00 A1
  refine at_gc1 4 [(78, .bool true)] 80 hr H fun fr t H => ?_
  refine at_sl 4 [(84, .bool (decide (x13 ≤ p1)))] H fun fr H => ?_
  obtain ⟨x14, ho, hm⟩ := bind_some hm
  refine at_cl 2 (fun fr' h' => Has fr' 87 [(86, .bool x14)] ∧ HH g h' [.obj h5.size (.cells none 2 [vs e_S_boulterref18_Node x4.L, .int .i64 x4.Root]), .obj h.size (.cells none 2 [vs e_S_tree_Node p0.Nodes, .int .i64 p0.Root])] F) ?_ ?_
  ·rcases iteB_some ho with ⟨hb, hm⟩ | ⟨hb, hm⟩
   ·replace H := H.kn 84 hb
    obtain ⟨x15, hx, hm⟩ := bind_some hm
    obtain ⟨v1, h17, hr, rfl, A1⟩ := ok_boulterlaw21_awake (av := []) hx (A.cut 0)
    replace A := A.g00 A1
    refine at_lc1 85 hr H fun fr t H => ?_
    refine at_sl 1 [(86, .bool x15)] H fun fr H => ?_
    obtain rfl := injA hm
    exact at_nil ⟨H.ls, A⟩
   replace H := H.kn 84 hb
   refine at_sl 2 [(86, .bool false)] H fun fr H => ?_
   obtain rfl := injA hm
   exact at_nil ⟨H.ls, A⟩
  clear A
  intro t fr h16 hK
  obtain ⟨H, A⟩ := hK
  refine at_el 1 [(4, .bool x14)] H (fun _ => id) fun fr H => ?_
  refine aw_rt ?_
  obtain rfl := injA hm
  refine ⟨.inl rfl, .bool x14, rH H, ?_⟩
  replace A := A.d0
  exact ⟨rfl, A⟩
 replace A := A.g00 A1
 refine at_gc1 1 [] 19 hr H fun fr t H => ?_
 refine at_el 5 [(6, .ptr none), (7, .int .i64 x6)] H (fun _ => id) fun fr H => ?_
 refine aw_sq ?_
 refine aw_sr 6 ?_
 refine at_sl 3 [(24, .bool (decide (p1 < (1 : Int))))] H fun fr H => ?_
 refine at_cl 3 (fun fr' h' => h8 = h' ∧ Has fr' 87 [(1, .int .i64 p1), (5, .ptr (some (h5.size, 0))), (6, .ptr none), (7, .int .i64 x6), (27, .bool ((decide (p1 < (1 : Int))) || (decide (p1 > (4096 : Int)))))]) ?_ ?_
 ·cases hb : (decide (p1 < (1 : Int)) : Bool) with
  | true =>
   replace H := H.kn 24 hb
   refine at_sl 3 [(27, .bool true)] H fun fr H => ?_
   exact at_zb H hb
  | false =>
   replace H := H.kn 24 hb
   refine at_sl 3 [(27, .bool (decide (p1 > (4096 : Int))))] H fun fr H => ?_
   exact at_zb H hb
 intro t fr h' hK
 obtain ⟨e, H⟩ := hK
 subst e
 refine at_nl id ?_
 refine aw_if 27 H hm (fun hb hm H => ?_) fun hb hm H => ?_
 ·refine aw_sr 10 ?_
  refine at_sl 7 [(34, .bool (x6 == (6 : Int)))] H fun fr H => ?_
  obtain ⟨x16, ho, hm⟩ := bind_some hm
  refine at_cl 2 (fun fr' h' => Has fr' 87 [(36, .bool x16)] ∧ HH g h' [.obj h5.size (.cells none 2 [vs e_S_boulterref18_Node x4.L, .int .i64 x4.Root]), .obj h.size (.cells none 2 [vs e_S_tree_Node p0.Nodes, .int .i64 p0.Root])] F) ?_ ?_
  ·rcases iteB_some ho with ⟨hb, hm⟩ | ⟨hb, hm⟩
   ·replace H := H.kn 34 hb
    obtain ⟨x17, hx, hm⟩ := bind_some hm
    obtain ⟨v1, h19, hr, rfl, A1⟩ := ok_boulterlaw21_awake (av := []) hx (A.cut 0)
    replace A := A.g00 A1
    refine at_lc1 35 hr H fun fr t H => ?_
    refine at_sl 1 [(36, .bool x17)] H fun fr H => ?_
    obtain rfl := injA hm
    exact at_nil ⟨H.ls, A⟩
   replace H := H.kn 34 hb
   refine at_sl 2 [(36, .bool false)] H fun fr H => ?_
   obtain rfl := injA hm
   exact at_nil ⟨H.ls, A⟩
  clear A
  intro t fr h18 hK
  obtain ⟨H, A⟩ := hK
  refine at_el 1 [(4, .bool x16)] H (fun _ => id) fun fr H => ?_
  refine aw_rt ?_
  obtain rfl := injA hm
  refine ⟨.inl rfl, .bool x16, rH H, ?_⟩
  replace A := A.d0
  exact ⟨rfl, A⟩
 refine aw_kn id ?_
 refine aw_sq ?_
 refine aw_sr 3 ?_
 refine at_l1 37 _ _ H (fun fr => .of (s_ldA (by kernel_rfl) (A.ldA 0 rfl (o := 0) (n := 2) ⟨Nat.le_of_ble_eq_true rfl, rfl⟩))) fun fr t H => ?_
 obtain ⟨x18, hx, hm⟩ := bind_some hm
 obtain ⟨v1, h20, hr, rfl, A1⟩ := ok_boulterref18_Right (av := [.agg [vs e_S_boulterref18_Node x4.L, .int .i64 x4.Root]]) hx (A.cut 0)
 replace A := A.g00 A1
 refine at_lc1 38 hr H fun fr t H => ?_
 refine at_el 1 [(39, .bool (!x18))] H (fun _ => id) fun fr H => ?_
 refine aw_if 39 H hm (fun hb hm H => ?_) fun hb hm H => ?_
 ·refine aw_sr 10 ?_
  refine at_sl 7 [(46, .bool (x6 == (1 : Int)))] H fun fr H => ?_
  obtain ⟨x19, ho, hm⟩ := bind_some hm
  refine at_cl 2 (fun fr' h' => Has fr' 87 [(48, .bool x19)] ∧ HH g h' [.obj h5.size (.cells none 2 [vs e_S_boulterref18_Node x4.L, .int .i64 x4.Root]), .obj h.size (.cells none 2 [vs e_S_tree_Node p0.Nodes, .int .i64 p0.Root])] F) ?_ ?_
  ·rcases iteB_some ho with ⟨hb, hm⟩ | ⟨hb, hm⟩
   ·replace H := H.kn 46 hb
    obtain ⟨x20, hx, hm⟩ := bind_some hm
    obtain ⟨v1, h22, hr, rfl, A1⟩ := ok_boulterlaw21_awake (av := []) hx (A.cut 0)
    replace A := A.g00 A1
    refine at_lc1 47 hr H fun fr t H => ?_
    refine at_sl 1 [(48, .bool x20)] H fun fr H => ?_
    obtain rfl := injA hm
    exact at_nil ⟨H.ls, A⟩
   replace H := H.kn 46 hb
   refine at_sl 2 [(48, .bool false)] H fun fr H => ?_
   obtain rfl := injA hm
   exact at_nil ⟨H.ls, A⟩
  clear A
  intro t fr h21 hK
  obtain ⟨H, A⟩ := hK
  refine at_el 1 [(4, .bool x19)] H (fun _ => id) fun fr H => ?_
  refine aw_rt ?_
  obtain rfl := injA hm
  refine ⟨.inl rfl, .bool x19, rH H, ?_⟩
  replace A := A.d0
  exact ⟨rfl, A⟩
 refine aw_ks 5 id ?_
 refine at_l1 49 _ _ H (fun fr => .of (s_ldA (by kernel_rfl) (A.ldA 0 rfl (o := 0) (n := 2) ⟨Nat.le_of_ble_eq_true rfl, rfl⟩))) fun fr t H => ?_
 refine at_gl 1 [] 51 0 1 A H fun fr t H => ?_
 obtain ⟨x21, hx, hm⟩ := bind_some hm
 obtain ⟨v1, h23, hr, rfl, A1⟩ := ok_boulterref20_Weight (av := [.agg [vs e_S_boulterref18_Node x4.L, .int .i64 x4.Root], .int .i64 x4.Root]) hx (A.cut 0)
 replace A := A.g00 A1
 refine at_lc1 52 hr H fun fr t H => ?_
 refine at_el 1 [(8, .int .i64 x21)] H (fun _ => id) fun fr H => ?_
 refine aw_sq ?_
 refine aw_sr 2 ?_
 refine at_el 2 [(54, .bool (x6 != (0 : Int)))] H (fun _ => id) fun fr H => ?_
 refine aw_if 54 H hm (fun hb hm H => ?_) fun hb hm H => ?_
 ·refine aw_sr 22 ?_
  refine at_sl 3 [(57, .bool (x6 == (7 : Int)))] H fun fr H => ?_
  refine at_cl 3 (fun fr' h' => h23 = h' ∧ Has fr' 87 [(1, .int .i64 p1), (8, .int .i64 x21), (60, .bool ((x6 == (7 : Int)) || false))]) ?_ ?_
  ·cases hb : (x6 == (7 : Int) : Bool) with
   | true =>
    replace H := H.kn 57 hb
    refine at_sl 3 [(60, .bool true)] H fun fr H => ?_
    exact at_zb H hb
   | false =>
    replace H := H.kn 57 hb
    refine at_sl 3 [(60, .bool false)] H fun fr H => ?_
    exact at_zb H hb
  intro t fr h' hK
  obtain ⟨e, H⟩ := hK
  subst e
  refine at_sl 1 [(61, .bool ((x6 == (7 : Int)) || false))] H fun fr H => ?_
  obtain ⟨x22, ho, hm⟩ := bind_some hm
  refine at_cl 11 (fun fr' h' => Has fr' 87 [(72, .bool x22)] ∧ HH g h' [.obj h5.size (.cells none 2 [vs e_S_boulterref18_Node x4.L, .int .i64 x4.Root]), .obj h.size (.cells none 2 [vs e_S_tree_Node p0.Nodes, .int .i64 p0.Root])] F) ?_ ?_
  ·rcases iteB_some ho with ⟨hb, hm⟩ | ⟨hb, hm⟩
   ·replace H := H.kn 61 hb
    refine at_sl 3 [(64, .bool (decide (x21 > (5 : Int))))] H fun fr H => ?_
    obtain ⟨x23, ho, hm⟩ := bind_some hm
    refine at_cl 7 (fun fr' h' => Has fr' 87 [(61, .bool true), (71, .bool x23)] ∧ HH g h' [.obj h5.size (.cells none 2 [vs e_S_boulterref18_Node x4.L, .int .i64 x4.Root]), .obj h.size (.cells none 2 [vs e_S_tree_Node p0.Nodes, .int .i64 p0.Root])] F) ?_ ?_
    ·rcases iteB_some ho with ⟨hb, hm⟩ | ⟨hb, hm⟩
     ·replace H := H.kn 64 hb
      refine at_sl 7 [(71, .bool true)] H fun fr H => ?_
      obtain rfl := injA hm
      exact at_nil ⟨H.ls, A⟩
     replace H := H.kn 64 hb
     refine at_sl 4 [(65, .int .i64 p1), (68, .int .i64 (IntKind.i64.wrap ((IntKind.i64.wrap ((2 : Int) * x21)) + (2 : Int))))] H fun fr H => ?_
     obtain ⟨hb, hm⟩ := need_some hm
     refine at_l1 69 (.int .i64 (bShl .i64 (1 : Int) (IntKind.i64.wrap ((IntKind.i64.wrap ((2 : Int) * x21)) + (2 : Int))))) h23 H (fun fr => .of (s_shl (by kernel_rfl) hb)) fun fr t H => ?_
     refine at_sl 2 [(71, .bool (decide (p1 < (bShl .i64 (1 : Int) (IntKind.i64.wrap ((IntKind.i64.wrap ((2 : Int) * x21)) + (2 : Int)))))))] H fun fr H => ?_
     obtain rfl := injA hm
     exact at_nil ⟨H.ls, A⟩
    clear A
    intro t fr h25 hK
    obtain ⟨H, A⟩ := hK
    refine at_sl 1 [(72, .bool x23)] H fun fr H => ?_
    obtain rfl := injA hm
    exact at_nil ⟨H.ls, A⟩
   replace H := H.kn 61 hb
   refine at_sl 11 [(72, .bool false)] H fun fr H => ?_
   obtain rfl := injA hm
   exact at_nil ⟨H.ls, A⟩
  clear A
  intro t fr h24 hK
  obtain ⟨H, A⟩ := hK
  refine at_sl 1 [(73, .bool x22)] H fun fr H => ?_
  obtain ⟨x24, ho, hm⟩ := bind_some hm
  refine at_cl 2 (fun fr' h' => Has fr' 87 [(75, .bool x24)] ∧ HH g h' [.obj h5.size (.cells none 2 [vs e_S_boulterref18_Node x4.L, .int .i64 x4.Root]), .obj h.size (.cells none 2 [vs e_S_tree_Node p0.Nodes, .int .i64 p0.Root])] F) ?_ ?_
  ·rcases iteB_some ho with ⟨hb, hm⟩ | ⟨hb, hm⟩
   ·replace H := H.kn 73 hb
    obtain ⟨x25, hx, hm⟩ := bind_some hm
    obtain ⟨v1, h27, hr, rfl, A1⟩ := ok_boulterlaw21_awake (av := []) hx (A.cut 0)
    replace A := A.g00 A1
    refine at_lc1 74 hr H fun fr t H => ?_
    refine at_sl 1 [(75, .bool x25)] H fun fr H => ?_
    obtain rfl := injA hm
    exact at_nil ⟨H.ls, A⟩
   replace H := H.kn 73 hb
   refine at_sl 2 [(75, .bool false)] H fun fr H => ?_
   obtain rfl := injA hm
   exact at_nil ⟨H.ls, A⟩
  clear A
  intro t fr h26 hK
  obtain ⟨H, A⟩ := hK
  refine at_el 1 [(4, .bool x24)] H (fun _ => id) fun fr H => ?_
  refine aw_rt ?_
  obtain rfl := injA hm
  refine ⟨.inl rfl, .bool x24, rH H, ?_⟩
  replace A := A.d0
  exact ⟨rfl, A⟩
 refine aw_ks 12 id ?_
 refine at_el 12 [(4, .bool false)] H (fun _ => id) fun fr H => ?_
 refine aw_rt ?_
 obtain rfl := injA hm
 refine ⟨.inl rfl, .bool false, rH H, ?_⟩
 replace A := A.d0
 exact ⟨rfl, A⟩
end Go.Av.L
