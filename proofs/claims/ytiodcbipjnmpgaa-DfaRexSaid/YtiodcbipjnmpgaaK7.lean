/-
 Models of functions, and that the abstract run tells them. Written by lift2.py.
-/
import Derived.Test.YtiodcbipjnmpgaaKCfg
import Derived.Test.YtiodcbipjnmpgaaK4
import Derived.Test.YtiodcbipjnmpgaaK5
import Derived.Test.YtiodcbipjnmpgaaK6
namespace Go.Av.L
open Go.Av Go.Lib
set_option maxRecDepth 10000
set_option linter.unusedVariables false
set_option linter.unusedSimpArgs false
variable {g : Gd} {h : AHeap} {F : List Ck} {av : List AVal}
noncomputable def M_boulterlaw21_DfaRex_L0 (p2 : List UInt8) (x8 : S_auto_Auto) (x12 : Int) (x13 : Int) (x14 : Bool) (s : Int) : Option ((Int) ⊕ ((Unit) ⊕ (Bool))) :=
 match s with
 | x15 => iteB (decide (x15 ≤ (p2.length : Int))) ((M_auto_Auto_Ends x8 p2 x15).bind fun x17 => iteB (decide ((x17.length : Int) > (0 : Int))) ((iteB (x14 && (x12 == x15)) ((ixV x17 (IntKind.i64.wrap ((x17.length : Int) - (1 : Int)))).bind fun x19 => some (x13 == x19)) (some false) : Option (Bool)).bind fun x18 => (iteB x18 ((M_boulterlaw21_awake).bind fun x21 => some x21) (some false) : Option (Bool)).bind fun x20 => some (.inr (.inr x20))) (some (.inl (IntKind.i64.wrap (x15 + (1 : Int)))))) (some (.inr (.inl ())))
noncomputable def M_boulterlaw21_DfaRex (p0 : List UInt8) (p1 : Bool) (p2 : List UInt8) (p3 : Int) : Option (Bool) :=
 iteB ((decide ((p0.length : Int) > (60 : Int))) || (decide ((p2.length : Int) > (60 : Int)))) ((M_boulterlaw21_awake).bind fun x1 => some x1) ((M_rex_Parse p0 p1).bind fun (x2, x3, x4) => iteB (x4 != (0 : Int)) ((M_boulterlaw21_awake).bind fun x5 => some x5) ((M_dfa_Compile x2 (4096 : Int)).bind fun (w7, x7) => (match w7 with | some x6 => (M_auto_Build x2 (4096 : Int)).bind fun (w10, x9) => (match w10 with | some x8 => iteB ((x7 != (0 : Int)) || (x9 != (0 : Int))) ((iteB ((x7 == (7 : Int)) && false) ((M_boulterlaw21_awake).bind fun x11 => some x11) (some false) : Option (Bool)).bind fun x10 => some x10) ((M_dfa_Dfa_Find x6 p2 p3).bind fun (x12, x13, x14) => (loop (M_boulterlaw21_DfaRex_L0 p2 x8 x12 x13 x14) (mx p3 (0 : Int))).bind fun o1 => (match o1 with | .inl _ => (iteB (((!x14) && (x12 == (0 : Int))) && (x13 == (0 : Int))) ((M_boulterlaw21_awake).bind fun x23 => some x23) (some false) : Option (Bool)).bind fun x22 => some x22 | .inr x16 => some x16)) | none => iteB ((x7 != (0 : Int)) || (x9 != (0 : Int))) ((iteB ((x7 == (7 : Int)) && false) ((M_boulterlaw21_awake).bind fun x25 => some x25) (some false) : Option (Bool)).bind fun x24 => some x24) (some false)) | none => (M_auto_Build x2 (4096 : Int)).bind fun (w21, x27) => (match w21 with | some x26 => iteB ((x7 != (0 : Int)) || (x27 != (0 : Int))) ((iteB ((x7 == (7 : Int)) || false) ((M_boulterlaw21_awake).bind fun x29 => some x29) (some false) : Option (Bool)).bind fun x28 => some x28) (some false) | none => iteB ((x7 != (0 : Int)) || (x27 != (0 : Int))) ((iteB ((x7 == (7 : Int)) || false) ((M_boulterlaw21_awake).bind fun x31 => some x31) (some false) : Option (Bool)).bind fun x30 => some x30) (some false)))))
theorem ok_boulterlaw21_DfaRex {p0 p1 p2 p3 q0} (hm : M_boulterlaw21_DfaRex p0 p1 p2 p3 = some q0) (A : HH g h [] F) (hc : canL (cfg.still 8) av = [.str p0, .bool p1, .str p2, .int .i64 p3] := by kernel_rfl) : ∃ v h', Runs cfg g h 8 av v h' ∧ v = .bool q0 ∧ HH g h' [] F := by
 refine rq1 126 [.tmp 8] hc ?_
 clear hc
 unfold M_boulterlaw21_DfaRex at hm
 refine bg 126 [(0, .str p0), (1, .bool p1), (2, .str p2), (3, .int .i64 p3)] fun fr H => ?_
 refine aw_sr 1 ?_
 refine at_el 1 [] H (fun _ => id) fun fr H => ?_
 refine aw_sq ?_
 refine aw_sr 8 ?_
 refine at_sl 4 [(24, .bool (decide ((p0.length : Int) > (60 : Int))))] H fun fr H => ?_
 refine at_cl 4 (fun fr' h' => h = h' ∧ Has fr' 126 [(0, .str p0), (1, .bool p1), (2, .str p2), (3, .int .i64 p3), (28, .bool ((decide ((p0.length : Int) > (60 : Int))) || (decide ((p2.length : Int) > (60 : Int)))))]) ?_ ?_
 ·cases hb : (decide ((p0.length : Int) > (60 : Int)) : Bool) with
  | true =>
   replace H := H.kn 24 hb
   refine at_sl 4 [(28, .bool true)] H fun fr H => ?_
   exact at_zb H hb
  | false =>
   replace H := H.kn 24 hb
   refine at_sl 4 [(28, .bool (decide ((p2.length : Int) > (60 : Int))))] H fun fr H => ?_
   exact at_zb H hb
 intro t fr h' hK
 obtain ⟨e, H⟩ := hK
 subst e
 refine at_nl id ?_
 refine aw_if 28 H hm (fun hb hm H => ?_) fun hb hm H => ?_
 ·refine aw_sr 2 ?_
  obtain ⟨x1, hx, hm⟩ := bind_some hm
  obtain ⟨v1, h1, hr, rfl, A1⟩ := ok_boulterlaw21_awake (av := []) hx (A.cut 0)
  replace A := A.g00 A1
  refine at_lc1 29 hr H fun fr t H => ?_
  refine at_el 1 [(8, .bool x1)] H (fun _ => id) fun fr H => ?_
  refine aw_rt ?_
  obtain rfl := injA hm
  exact ⟨.inl rfl, _, rH H, rfl, A⟩
 refine aw_ks 11 id ?_
 obtain ⟨⟨x2, x3, x4⟩, hx, hm⟩ := bind_some hm
 obtain ⟨v1, h2, hr, rfl, A1⟩ := ok_rex_Parse (av := [.str p0, .bool p1]) hx (A.cut 0)
 replace A := A.g00 A1
 refine at_gc1 2 [] 33 hr H fun fr t H => ?_
 obtain ⟨h3, e1, A⟩ := A.pu (.cells none 2 [.slice none 0, .int .i64 0])
 refine at_gn 4 [(34, .agg [vs e_S_tree_Node x2.Nodes, .int .i64 x2.Root]), (35, .int .i64 x3), (36, .int .i64 x4)] 9 (.ptr (some (h2.size, 0))) e1 H fun fr t H => ?_
 obtain ⟨h4, hx, A⟩ := A.s0 0 [vs e_S_tree_Node x2.Nodes, .int .i64 x2.Root] [_, _]
 refine at_lS hx H fun fr t H => ?_
 refine at_el 2 [(11, .int .i64 x4)] H (fun _ => id) fun fr H => ?_
 refine aw_sq ?_
 refine aw_sr 2 ?_
 refine at_el 2 [(38, .bool (x4 != (0 : Int)))] H (fun _ => id) fun fr H => ?_
 refine aw_if 38 H hm (fun hb hm H => ?_) fun hb hm H => ?_
 ·refine aw_sr 2 ?_
  obtain ⟨x5, hx, hm⟩ := bind_some hm
  obtain ⟨v1, h5, hr, rfl, A1⟩ := ok_boulterlaw21_awake (av := []) hx (A.cut 0)
  replace A := A.g00 A1
  refine at_lc1 39 hr H fun fr t H => ?_
  refine at_el 1 [(8, .bool x5)] H (fun _ => id) fun fr H => ?_
  refine aw_rt ?_
  obtain rfl := injA hm
  refine ⟨.inl rfl, .bool x5, rH H, ?_⟩
  replace A := A.d0
  exact ⟨rfl, A⟩
 refine aw_ks 7 id ?_
 refine at_l1 41 _ _ H (fun fr => .of (s_ldA (by kernel_rfl) (A.ldA 0 rfl (o := 0) (n := 2) ⟨Nat.le_of_ble_eq_true rfl, rfl⟩))) fun fr t H => ?_
 obtain ⟨⟨w7, x7⟩, hx, hm⟩ := bind_some hm
 obtain ⟨v1, h6, hr, hc⟩ := ok_dfa_Compile (av := [.agg [vs e_S_tree_Node x2.Nodes, .int .i64 x2.Root], .int .i64 4096]) hx (A.cut 0)
 rcases hc with ⟨x6, rfl, rfl, A1⟩ | ⟨rfl, rfl, A1⟩
 ·replace A := A.g00 A1
  refine at_lc1 42 hr H fun fr t H => ?_
  refine at_es 5 [(12, .vptr (big 256 (AVal.int .u8) x6.column_ ++ [.int .i64 x6.columns_, vs (eI .i32) x6.next_, vs eB x6.ends_, vs eB x6.last_, .int .i32 x6.first_, .int .i32 x6.later_, .bool x6.empty_])), (13, .int .i64 x7)] 7 H (fun _ => id) fun fr H => ?_
  refine at_l1 46 _ _ H (fun fr => .of (s_ldA (by kernel_rfl) (A.ldA 0 rfl (o := 0) (n := 2) ⟨Nat.le_of_ble_eq_true rfl, rfl⟩))) fun fr t H => ?_
  obtain ⟨⟨w10, x9⟩, hx, hm⟩ := bind_some hm
  obtain ⟨v1, h7, hr, hc⟩ := ok_auto_Build (av := [.agg [vs e_S_tree_Node x2.Nodes, .int .i64 x2.Root], .int .i64 4096]) hx (A.cut 0)
  rcases hc with ⟨x8, rfl, rfl, A1⟩ | ⟨rfl, rfl, A1⟩
  ·replace A := A.g00 A1
   refine at_lc1 47 hr H fun fr t H => ?_
   refine at_el 5 [(14, .vptr [vs e_S_auto_state x8.l_, .int .i64 x8.first_]), (15, .int .i64 x9)] H (fun _ => id) fun fr H => ?_
   refine aw_sq ?_
   refine aw_sr 6 ?_
   refine at_sl 3 [(52, .bool (x7 != (0 : Int)))] H fun fr H => ?_
   refine at_cl 3 (fun fr' h' => h7 = h' ∧ Has fr' 126 [(2, .str p2), (3, .int .i64 p3), (12, .vptr (big 256 (AVal.int .u8) x6.column_ ++ [.int .i64 x6.columns_, vs (eI .i32) x6.next_, vs eB x6.ends_, vs eB x6.last_, .int .i32 x6.first_, .int .i32 x6.later_, .bool x6.empty_])), (13, .int .i64 x7), (14, .vptr [vs e_S_auto_state x8.l_, .int .i64 x8.first_]), (55, .bool ((x7 != (0 : Int)) || (x9 != (0 : Int))))]) ?_ ?_
   ·cases hb : (x7 != (0 : Int) : Bool) with
    | true =>
     replace H := H.kn 52 hb
     refine at_sl 3 [(55, .bool true)] H fun fr H => ?_
     exact at_zb H hb
    | false =>
     replace H := H.kn 52 hb
     refine at_sl 3 [(55, .bool (x9 != (0 : Int)))] H fun fr H => ?_
     exact at_zb H hb
   intro t fr h' hK
   obtain ⟨e, H⟩ := hK
   subst e
   refine at_nl id ?_
   refine aw_if 55 H hm (fun hb hm H => ?_) fun hb hm H => ?_
   ·refine aw_sr 10 ?_
    refine at_sl 3 [(58, .bool (x7 == (7 : Int)))] H fun fr H => ?_
    refine at_cl 3 (fun fr' h' => h7 = h' ∧ Has fr' 126 [(61, .bool ((x7 == (7 : Int)) && false))]) ?_ ?_
    ·cases hb : (x7 == (7 : Int) : Bool) with
     | true =>
      replace H := H.kn 58 hb
      refine at_sl 3 [(61, .bool false)] H fun fr H => ?_
      exact at_zb H hb
     | false =>
      replace H := H.kn 58 hb
      refine at_sl 3 [(61, .bool false)] H fun fr H => ?_
      exact at_zb H hb
    intro t fr h' hK
    obtain ⟨e, H⟩ := hK
    subst e
    refine at_sl 1 [(62, .bool ((x7 == (7 : Int)) && false))] H fun fr H => ?_
    obtain ⟨x10, ho, hm⟩ := bind_some hm
    refine at_cl 2 (fun fr' h' => Has fr' 126 [(64, .bool x10)] ∧ HH g h' [.obj h2.size (.cells none 2 [vs e_S_tree_Node x2.Nodes, .int .i64 x2.Root])] F) ?_ ?_
    ·rcases iteB_some ho with ⟨hb, hm⟩ | ⟨hb, hm⟩
     ·replace H := H.kn 62 hb
      obtain ⟨x11, hx, hm⟩ := bind_some hm
      obtain ⟨v1, h9, hr, rfl, A1⟩ := ok_boulterlaw21_awake (av := []) hx (A.cut 0)
      replace A := A.g00 A1
      refine at_lc1 63 hr H fun fr t H => ?_
      refine at_sl 1 [(64, .bool x11)] H fun fr H => ?_
      obtain rfl := injA hm
      exact at_nil ⟨H.ls, A⟩
     replace H := H.kn 62 hb
     refine at_sl 2 [(64, .bool false)] H fun fr H => ?_
     obtain rfl := injA hm
     exact at_nil ⟨H.ls, A⟩
    clear A
    intro t fr h8 hK
    obtain ⟨H, A⟩ := hK
    refine at_el 1 [(8, .bool x10)] H (fun _ => id) fun fr H => ?_
    refine aw_rt ?_
    obtain rfl := injA hm
    refine ⟨.inl rfl, .bool x10, rH H, ?_⟩
    replace A := A.d0
    exact ⟨rfl, A⟩
   refine aw_kn id ?_
   refine aw_sq ?_
   refine aw_sr 6 ?_
   refine at_el 6 [(70, .bool false)] H (fun _ => id) fun fr H => ?_
   refine aw_false (x := .tmp 70) (by kernel_rfl) H (fun fr => by kernel_rfl) ?_
   refine aw_ks 11 id ?_
   obtain ⟨⟨x12, x13, x14⟩, hx, hm⟩ := bind_some hm
   obtain ⟨v1, h10, hr, rfl, A1⟩ := ok_dfa_Dfa_Find (av := [.vptr (big 256 (AVal.int .u8) x6.column_ ++ [.int .i64 x6.columns_, vs (eI .i32) x6.next_, vs eB x6.ends_, vs eB x6.last_, .int .i32 x6.first_, .int .i32 x6.later_, .bool x6.empty_]), .str p2, .int .i64 p3]) hx (A.cut 0)
   replace A := A.g00 A1
   refine at_gc1 3 [] 75 hr H fun fr t H => ?_
   refine at_el 7 [(16, .int .i64 x12), (17, .int .i64 x13), (18, .bool x14)] H (fun _ => id) fun fr H => ?_
   refine aw_sq ?_
   refine aw_sr 3 ?_
   refine at_el 3 [(19, .int .i64 (mx p3 (0 : Int)))] H (fun _ => id) fun fr H => ?_
   refine aw_block (id := 0) (by kernel_rfl) ?_
   obtain ⟨o1, ho, hm⟩ := bind_some hm
   refine aw_mono (Q' := fun e fr' h' => (e = .exit 0 ∧ .inl () = o1 ∧ Has fr' 126 [(16, .int .i64 x12), (17, .int .i64 x13), (18, .bool x14)] ∧ HH g h' [.obj h2.size (.cells none 2 [vs e_S_tree_Node x2.Nodes, .int .i64 x2.Root])] F) ∨ (∃ x16, e = .ret ∧ .inr x16 = o1 ∧ Has fr' 126 [(8, .bool x16)] ∧ HH g h' [.obj h2.size (.cells none 2 [vs e_S_tree_Node x2.Nodes, .int .i64 x2.Root])] F) ∨ False) ?_ ?_
   ·refine aw_loop (by kernel_rfl) (fun (s : Int) fr' h' => ∃ x15, x15 = s ∧ Has fr' 126 [(2, .str p2), (14, .vptr [vs e_S_auto_state x8.l_, .int .i64 x8.first_]), (16, .int .i64 x12), (17, .int .i64 x13), (18, .bool x14), (19, .int .i64 x15)] ∧ HH g h' [.obj h2.size (.cells none 2 [vs e_S_tree_Node x2.Nodes, .int .i64 x2.Root])] F) ho ⟨_, rfl, H.ls, A⟩ ?_
    clear ho hm H A
    intro s q fr h11 hI hm
    obtain ⟨x15, rfl, H, A⟩ := hI
    unfold M_boulterlaw21_DfaRex_L0 at hm
    refine aw_sq ?_
    refine aw_sr 4 ?_
    refine at_el 4 [(84, .bool (decide (x15 ≤ (p2.length : Int))))] H (fun _ => id) fun fr H => ?_
    refine aw_if 84 H hm (fun hb hm H => ?_) fun hb hm H => ?_
    ·refine aw_kn id ?_
     refine aw_sq ?_
     refine aw_block (id := 1) (by kernel_rfl) ?_
     refine aw_sr 5 ?_
     obtain ⟨x17, hx, hm⟩ := bind_some hm
     obtain ⟨v1, h12, hr, rqw16, rfl, A1⟩ := ok_auto_Auto_Ends (av := [.vptr [vs e_S_auto_state x8.l_, .int .i64 x8.first_], .str p2, .int .i64 x15]) hx (A.cut 0)
     replace A := A.g01 A1
     refine at_gc1 3 [] 90 hr H fun fr t H => ?_
     refine at_es 1 [(20, rowV rqw16 x17.length)] 3 H (fun _ => id) fun fr H => ?_
     refine at_el 3 [(93, .bool (decide ((x17.length : Int) > (0 : Int))))] H (fun _ => id) fun fr H => ?_
     refine aw_if 93 H hm (fun hb hm H => ?_) fun hb hm H => ?_
     ·refine aw_sr 20 ?_
      refine at_sl 2 [(95, .bool x14)] H fun fr H => ?_
      refine at_cl 4 (fun fr' h' => h12 = h' ∧ Has fr' 126 [(17, .int .i64 x13), (20, rowV rqw16 x17.length), (99, .bool (x14 && (x12 == x15)))]) ?_ ?_
      ·cases hb : (x14 : Bool) with
       | true =>
        replace H := H.kn 95 hb
        refine at_sl 4 [(99, .bool (x12 == x15))] H fun fr H => ?_
        exact at_zb H hb
       | false =>
        replace H := H.kn 95 hb
        refine at_sl 4 [(99, .bool false)] H fun fr H => ?_
        exact at_zb H hb
      intro t fr h' hK
      obtain ⟨e, H⟩ := hK
      subst e
      refine at_sl 1 [(100, .bool (x14 && (x12 == x15)))] H fun fr H => ?_
      obtain ⟨x18, ho, hm⟩ := bind_some hm
      refine at_cl 9 (fun fr' h' => Has fr' 126 [(109, .bool x18)] ∧ HH g h' [.obj h2.size (.cells none 2 [vs e_S_tree_Node x2.Nodes, .int .i64 x2.Root])] F) ?_ ?_
      ·rcases iteB_some ho with ⟨hb, hm⟩ | ⟨hb, hm⟩
       ·replace H := H.kn 100 hb
        obtain ⟨x19, hx, hm⟩ := bind_some hm
        obtain ⟨i1, er1, _, hx, hq1⟩ := HH.ixO (encI .i64) (by decide) A 0 (xs := x17) rfl hx
        refine at_g1 5 [(101, .int .i64 x13)] 106 (.ptr (some (i1, (IntKind.i64.wrap ((x17.length : Int) - (1 : Int))).toNat * 1))) h12 H (fun fr => .of (s_ixL (s := rowS rqw16 x17.length) (by kernel_rfl) hx)) fun fr t H => ?_
        refine at_l1 107 _ _ H (fun fr => .of (s_ld (by kernel_rfl) (row_ld1 (encI .i64) (HH.row A 0 rfl er1) hq1 (o := 0) rfl))) fun fr t H => ?_
        refine at_sl 2 [(109, .bool (x13 == x19))] H fun fr H => ?_
        obtain rfl := injA hm
        replace A := A.k1 1
        exact at_nil ⟨H.ls, A⟩
       replace H := H.kn 100 hb
       refine at_sl 9 [(109, .bool false)] H fun fr H => ?_
       obtain rfl := injA hm
       replace A := A.k1 1
       exact at_nil ⟨H.ls, A⟩
      clear A
      intro t fr h13 hK
      obtain ⟨H, A⟩ := hK
      refine at_sl 1 [(110, .bool x18)] H fun fr H => ?_
      obtain ⟨x20, ho, hm⟩ := bind_some hm
      refine at_cl 2 (fun fr' h' => Has fr' 126 [(112, .bool x20)] ∧ HH g h' [.obj h2.size (.cells none 2 [vs e_S_tree_Node x2.Nodes, .int .i64 x2.Root])] F) ?_ ?_
      ·rcases iteB_some ho with ⟨hb, hm⟩ | ⟨hb, hm⟩
       ·replace H := H.kn 110 hb
        obtain ⟨x21, hx, hm⟩ := bind_some hm
        obtain ⟨v1, h15, hr, rfl, A1⟩ := ok_boulterlaw21_awake (av := []) hx (A.cut 0)
        replace A := A.g00 A1
        refine at_lc1 111 hr H fun fr t H => ?_
        refine at_sl 1 [(112, .bool x21)] H fun fr H => ?_
        obtain rfl := injA hm
        exact at_nil ⟨H.ls, A⟩
       replace H := H.kn 110 hb
       refine at_sl 2 [(112, .bool false)] H fun fr H => ?_
       obtain rfl := injA hm
       exact at_nil ⟨H.ls, A⟩
      clear A
      intro t fr h14 hK
      obtain ⟨H, A⟩ := hK
      refine at_el 1 [(8, .bool x20)] H (fun _ => id) fun fr H => ?_
      refine aw_rt ?_
      exact nr hm fun e => Or.inr (.inl ⟨_, rfl, e, H.ls, A⟩)
     refine aw_kr 3 id ?_
     refine at_se 3 [(2, .str p2), (14, .vptr [vs e_S_auto_state x8.l_, .int .i64 x8.first_]), (16, .int .i64 x12), (17, .int .i64 x13), (18, .bool x14), (19, .int .i64 (IntKind.i64.wrap (x15 + (1 : Int))))] H fun fr H => ?_
     refine at_nil ?_
     replace A := A.k1 1
     exact nx hm ⟨_, rfl, H.ls, A⟩
    refine aw_exit (i := 0) (by kernel_rfl) ?_
    exact nr hm fun e => .inl ⟨rfl, e, H.ls, A⟩
   clear ho
   clear A
   intro e fr h16 hQ
   rcases hQ with ⟨rfl, rfl, H, A⟩ | ⟨x16, rfl, rfl, H, A⟩ | hF
   ·show AW _ _ _ _ _ _ _
    refine aw_sr 14 ?_
    refine at_sl 3 [(115, .bool (!x14))] H fun fr H => ?_
    refine at_cl 3 (fun fr' h' => h16 = h' ∧ Has fr' 126 [(17, .int .i64 x13), (118, .bool ((!x14) && (x12 == (0 : Int))))]) ?_ ?_
    ·cases hb : (!x14 : Bool) with
     | true =>
      replace H := H.kn 115 hb
      refine at_sl 3 [(118, .bool (x12 == (0 : Int)))] H fun fr H => ?_
      exact at_zb H hb
     | false =>
      replace H := H.kn 115 hb
      refine at_sl 3 [(118, .bool false)] H fun fr H => ?_
      exact at_zb H hb
    intro t fr h' hK
    obtain ⟨e, H⟩ := hK
    subst e
    refine at_sl 1 [(119, .bool ((!x14) && (x12 == (0 : Int))))] H fun fr H => ?_
    refine at_cl 3 (fun fr' h' => h16 = h' ∧ Has fr' 126 [(122, .bool (((!x14) && (x12 == (0 : Int))) && (x13 == (0 : Int))))]) ?_ ?_
    ·cases hb : ((!x14) && (x12 == (0 : Int)) : Bool) with
     | true =>
      replace H := H.kn 119 hb
      refine at_sl 3 [(122, .bool (x13 == (0 : Int)))] H fun fr H => ?_
      exact at_zb H hb
     | false =>
      replace H := H.kn 119 hb
      refine at_sl 3 [(122, .bool false)] H fun fr H => ?_
      exact at_zb H hb
    intro t fr h' hK
    obtain ⟨e, H⟩ := hK
    subst e
    refine at_sl 1 [(123, .bool (((!x14) && (x12 == (0 : Int))) && (x13 == (0 : Int))))] H fun fr H => ?_
    obtain ⟨x22, ho, hm⟩ := bind_some hm
    refine at_cl 2 (fun fr' h' => Has fr' 126 [(125, .bool x22)] ∧ HH g h' [.obj h2.size (.cells none 2 [vs e_S_tree_Node x2.Nodes, .int .i64 x2.Root])] F) ?_ ?_
    ·rcases iteB_some ho with ⟨hb, hm⟩ | ⟨hb, hm⟩
     ·replace H := H.kn 123 hb
      obtain ⟨x23, hx, hm⟩ := bind_some hm
      obtain ⟨v1, h18, hr, rfl, A1⟩ := ok_boulterlaw21_awake (av := []) hx (A.cut 0)
      replace A := A.g00 A1
      refine at_lc1 124 hr H fun fr t H => ?_
      refine at_sl 1 [(125, .bool x23)] H fun fr H => ?_
      obtain rfl := injA hm
      exact at_nil ⟨H.ls, A⟩
     replace H := H.kn 123 hb
     refine at_sl 2 [(125, .bool false)] H fun fr H => ?_
     obtain rfl := injA hm
     exact at_nil ⟨H.ls, A⟩
    clear A
    intro t fr h17 hK
    obtain ⟨H, A⟩ := hK
    refine at_el 1 [(8, .bool x22)] H (fun _ => id) fun fr H => ?_
    refine aw_rt ?_
    obtain rfl := injA hm
    refine ⟨.inl rfl, .bool x22, rH H, ?_⟩
    replace A := A.d0
    exact ⟨rfl, A⟩
   ·obtain rfl := injA hm
    refine ⟨.inl rfl, .bool x16, rH H, ?_⟩
    replace A := A.d0
    exact ⟨rfl, A⟩
   exact hF.elim
  replace A := A.g00 A1
  refine at_lc1 47 hr H fun fr t H => ?_
  refine at_el 5 [(14, .ptr none), (15, .int .i64 x9)] H (fun _ => id) fun fr H => ?_
  refine aw_sq ?_
  refine aw_sr 6 ?_
  refine at_sl 3 [(52, .bool (x7 != (0 : Int)))] H fun fr H => ?_
  refine at_cl 3 (fun fr' h' => h7 = h' ∧ Has fr' 126 [(2, .str p2), (3, .int .i64 p3), (12, .vptr (big 256 (AVal.int .u8) x6.column_ ++ [.int .i64 x6.columns_, vs (eI .i32) x6.next_, vs eB x6.ends_, vs eB x6.last_, .int .i32 x6.first_, .int .i32 x6.later_, .bool x6.empty_])), (13, .int .i64 x7), (14, .ptr none), (55, .bool ((x7 != (0 : Int)) || (x9 != (0 : Int))))]) ?_ ?_
  ·cases hb : (x7 != (0 : Int) : Bool) with
   | true =>
    replace H := H.kn 52 hb
    refine at_sl 3 [(55, .bool true)] H fun fr H => ?_
    exact at_zb H hb
   | false =>
    replace H := H.kn 52 hb
    refine at_sl 3 [(55, .bool (x9 != (0 : Int)))] H fun fr H => ?_
    exact at_zb H hb
  intro t fr h' hK
  obtain ⟨e, H⟩ := hK
  subst e
  refine at_nl id ?_
  refine aw_if 55 H hm (fun hb hm H => ?_) fun hb hm H => ?_
  ·refine aw_sr 10 ?_
   refine at_sl 3 [(58, .bool (x7 == (7 : Int)))] H fun fr H => ?_
   refine at_cl 3 (fun fr' h' => h7 = h' ∧ Has fr' 126 [(61, .bool ((x7 == (7 : Int)) && false))]) ?_ ?_
   ·cases hb : (x7 == (7 : Int) : Bool) with
    | true =>
     replace H := H.kn 58 hb
     refine at_sl 3 [(61, .bool false)] H fun fr H => ?_
     exact at_zb H hb
    | false =>
     replace H := H.kn 58 hb
     refine at_sl 3 [(61, .bool false)] H fun fr H => ?_
     exact at_zb H hb
   intro t fr h' hK
   obtain ⟨e, H⟩ := hK
   subst e
   refine at_sl 1 [(62, .bool ((x7 == (7 : Int)) && false))] H fun fr H => ?_
   obtain ⟨x24, ho, hm⟩ := bind_some hm
   refine at_cl 2 (fun fr' h' => Has fr' 126 [(64, .bool x24)] ∧ HH g h' [.obj h2.size (.cells none 2 [vs e_S_tree_Node x2.Nodes, .int .i64 x2.Root])] F) ?_ ?_
   ·rcases iteB_some ho with ⟨hb, hm⟩ | ⟨hb, hm⟩
    ·replace H := H.kn 62 hb
     obtain ⟨x25, hx, hm⟩ := bind_some hm
     obtain ⟨v1, h20, hr, rfl, A1⟩ := ok_boulterlaw21_awake (av := []) hx (A.cut 0)
     replace A := A.g00 A1
     refine at_lc1 63 hr H fun fr t H => ?_
     refine at_sl 1 [(64, .bool x25)] H fun fr H => ?_
     obtain rfl := injA hm
     exact at_nil ⟨H.ls, A⟩
    replace H := H.kn 62 hb
    refine at_sl 2 [(64, .bool false)] H fun fr H => ?_
    obtain rfl := injA hm
    exact at_nil ⟨H.ls, A⟩
   clear A
   intro t fr h19 hK
   obtain ⟨H, A⟩ := hK
   refine at_el 1 [(8, .bool x24)] H (fun _ => id) fun fr H => ?_
   refine aw_rt ?_
   obtain rfl := injA hm
   refine ⟨.inl rfl, .bool x24, rH H, ?_⟩
   replace A := A.d0
   exact ⟨rfl, A⟩
  refine aw_kn id ?_
  refine aw_sq ?_
  refine aw_sr 6 ?_
  refine at_el 6 [(70, .bool true)] H (fun _ => id) fun fr H => ?_
  refine aw_true (x := .tmp 70) (by kernel_rfl) H (fun fr => by kernel_rfl) ?_
  refine aw_sr 1 ?_
  refine at_el 1 [(8, .bool false)] H (fun _ => id) fun fr H => ?_
  refine aw_rt ?_
  obtain rfl := injA hm
  refine ⟨.inl rfl, .bool false, rH H, ?_⟩
  replace A := A.d0
  exact ⟨rfl, A⟩
 replace A := A.g00 A1
 refine at_lc1 42 hr H fun fr t H => ?_
 refine at_es 5 [(12, .ptr none), (13, .int .i64 x7)] 7 H (fun _ => id) fun fr H => ?_
 refine at_l1 46 _ _ H (fun fr => .of (s_ldA (by kernel_rfl) (A.ldA 0 rfl (o := 0) (n := 2) ⟨Nat.le_of_ble_eq_true rfl, rfl⟩))) fun fr t H => ?_
 obtain ⟨⟨w21, x27⟩, hx, hm⟩ := bind_some hm
 obtain ⟨v1, h21, hr, hc⟩ := ok_auto_Build (av := [.agg [vs e_S_tree_Node x2.Nodes, .int .i64 x2.Root], .int .i64 4096]) hx (A.cut 0)
 rcases hc with ⟨x26, rfl, rfl, A1⟩ | ⟨rfl, rfl, A1⟩
 ·replace A := A.g00 A1
  refine at_lc1 47 hr H fun fr t H => ?_
  refine at_el 5 [(14, .vptr [vs e_S_auto_state x26.l_, .int .i64 x26.first_]), (15, .int .i64 x27)] H (fun _ => id) fun fr H => ?_
  refine aw_sq ?_
  refine aw_sr 6 ?_
  refine at_sl 3 [(52, .bool (x7 != (0 : Int)))] H fun fr H => ?_
  refine at_cl 3 (fun fr' h' => h21 = h' ∧ Has fr' 126 [(2, .str p2), (3, .int .i64 p3), (12, .ptr none), (13, .int .i64 x7), (14, .vptr [vs e_S_auto_state x26.l_, .int .i64 x26.first_]), (55, .bool ((x7 != (0 : Int)) || (x27 != (0 : Int))))]) ?_ ?_
  ·cases hb : (x7 != (0 : Int) : Bool) with
   | true =>
    replace H := H.kn 52 hb
    refine at_sl 3 [(55, .bool true)] H fun fr H => ?_
    exact at_zb H hb
   | false =>
    replace H := H.kn 52 hb
    refine at_sl 3 [(55, .bool (x27 != (0 : Int)))] H fun fr H => ?_
    exact at_zb H hb
  intro t fr h' hK
  obtain ⟨e, H⟩ := hK
  subst e
  refine at_nl id ?_
  refine aw_if 55 H hm (fun hb hm H => ?_) fun hb hm H => ?_
  ·refine aw_sr 10 ?_
   refine at_sl 3 [(58, .bool (x7 == (7 : Int)))] H fun fr H => ?_
   refine at_cl 3 (fun fr' h' => h21 = h' ∧ Has fr' 126 [(61, .bool ((x7 == (7 : Int)) || false))]) ?_ ?_
   ·cases hb : (x7 == (7 : Int) : Bool) with
    | true =>
     replace H := H.kn 58 hb
     refine at_sl 3 [(61, .bool true)] H fun fr H => ?_
     exact at_zb H hb
    | false =>
     replace H := H.kn 58 hb
     refine at_sl 3 [(61, .bool false)] H fun fr H => ?_
     exact at_zb H hb
   intro t fr h' hK
   obtain ⟨e, H⟩ := hK
   subst e
   refine at_sl 1 [(62, .bool ((x7 == (7 : Int)) || false))] H fun fr H => ?_
   obtain ⟨x28, ho, hm⟩ := bind_some hm
   refine at_cl 2 (fun fr' h' => Has fr' 126 [(64, .bool x28)] ∧ HH g h' [.obj h2.size (.cells none 2 [vs e_S_tree_Node x2.Nodes, .int .i64 x2.Root])] F) ?_ ?_
   ·rcases iteB_some ho with ⟨hb, hm⟩ | ⟨hb, hm⟩
    ·replace H := H.kn 62 hb
     obtain ⟨x29, hx, hm⟩ := bind_some hm
     obtain ⟨v1, h23, hr, rfl, A1⟩ := ok_boulterlaw21_awake (av := []) hx (A.cut 0)
     replace A := A.g00 A1
     refine at_lc1 63 hr H fun fr t H => ?_
     refine at_sl 1 [(64, .bool x29)] H fun fr H => ?_
     obtain rfl := injA hm
     exact at_nil ⟨H.ls, A⟩
    replace H := H.kn 62 hb
    refine at_sl 2 [(64, .bool false)] H fun fr H => ?_
    obtain rfl := injA hm
    exact at_nil ⟨H.ls, A⟩
   clear A
   intro t fr h22 hK
   obtain ⟨H, A⟩ := hK
   refine at_el 1 [(8, .bool x28)] H (fun _ => id) fun fr H => ?_
   refine aw_rt ?_
   obtain rfl := injA hm
   refine ⟨.inl rfl, .bool x28, rH H, ?_⟩
   replace A := A.d0
   exact ⟨rfl, A⟩
  refine aw_kn id ?_
  refine aw_sq ?_
  refine aw_sr 6 ?_
  refine at_el 6 [(70, .bool true)] H (fun _ => id) fun fr H => ?_
  refine aw_true (x := .tmp 70) (by kernel_rfl) H (fun fr => by kernel_rfl) ?_
  refine aw_sr 1 ?_
  refine at_el 1 [(8, .bool false)] H (fun _ => id) fun fr H => ?_
  refine aw_rt ?_
  obtain rfl := injA hm
  refine ⟨.inl rfl, .bool false, rH H, ?_⟩
  replace A := A.d0
  exact ⟨rfl, A⟩
 replace A := A.g00 A1
 refine at_lc1 47 hr H fun fr t H => ?_
 refine at_el 5 [(14, .ptr none), (15, .int .i64 x27)] H (fun _ => id) fun fr H => ?_
 refine aw_sq ?_
 refine aw_sr 6 ?_
 refine at_sl 3 [(52, .bool (x7 != (0 : Int)))] H fun fr H => ?_
 refine at_cl 3 (fun fr' h' => h21 = h' ∧ Has fr' 126 [(2, .str p2), (3, .int .i64 p3), (12, .ptr none), (13, .int .i64 x7), (14, .ptr none), (55, .bool ((x7 != (0 : Int)) || (x27 != (0 : Int))))]) ?_ ?_
 ·cases hb : (x7 != (0 : Int) : Bool) with
  | true =>
   replace H := H.kn 52 hb
   refine at_sl 3 [(55, .bool true)] H fun fr H => ?_
   exact at_zb H hb
  | false =>
   replace H := H.kn 52 hb
   refine at_sl 3 [(55, .bool (x27 != (0 : Int)))] H fun fr H => ?_
   exact at_zb H hb
 intro t fr h' hK
 obtain ⟨e, H⟩ := hK
 subst e
 refine at_nl id ?_
 refine aw_if 55 H hm (fun hb hm H => ?_) fun hb hm H => ?_
 ·refine aw_sr 10 ?_
  refine at_sl 3 [(58, .bool (x7 == (7 : Int)))] H fun fr H => ?_
  refine at_cl 3 (fun fr' h' => h21 = h' ∧ Has fr' 126 [(61, .bool ((x7 == (7 : Int)) || false))]) ?_ ?_
  ·cases hb : (x7 == (7 : Int) : Bool) with
   | true =>
    replace H := H.kn 58 hb
    refine at_sl 3 [(61, .bool true)] H fun fr H => ?_
    exact at_zb H hb
   | false =>
    replace H := H.kn 58 hb
    refine at_sl 3 [(61, .bool false)] H fun fr H => ?_
    exact at_zb H hb
  intro t fr h' hK
  obtain ⟨e, H⟩ := hK
  subst e
  refine at_sl 1 [(62, .bool ((x7 == (7 : Int)) || false))] H fun fr H => ?_
  obtain ⟨x30, ho, hm⟩ := bind_some hm
  refine at_cl 2 (fun fr' h' => Has fr' 126 [(64, .bool x30)] ∧ HH g h' [.obj h2.size (.cells none 2 [vs e_S_tree_Node x2.Nodes, .int .i64 x2.Root])] F) ?_ ?_
  ·rcases iteB_some ho with ⟨hb, hm⟩ | ⟨hb, hm⟩
   ·replace H := H.kn 62 hb
    obtain ⟨x31, hx, hm⟩ := bind_some hm
    obtain ⟨v1, h25, hr, rfl, A1⟩ := ok_boulterlaw21_awake (av := []) hx (A.cut 0)
    replace A := A.g00 A1
    refine at_lc1 63 hr H fun fr t H => ?_
    refine at_sl 1 [(64, .bool x31)] H fun fr H => ?_
    obtain rfl := injA hm
    exact at_nil ⟨H.ls, A⟩
   replace H := H.kn 62 hb
   refine at_sl 2 [(64, .bool false)] H fun fr H => ?_
   obtain rfl := injA hm
   exact at_nil ⟨H.ls, A⟩
  clear A
  intro t fr h24 hK
  obtain ⟨H, A⟩ := hK
  refine at_el 1 [(8, .bool x30)] H (fun _ => id) fun fr H => ?_
  refine aw_rt ?_
  obtain rfl := injA hm
  refine ⟨.inl rfl, .bool x30, rH H, ?_⟩
  replace A := A.d0
  exact ⟨rfl, A⟩
 refine aw_kn id ?_
 refine aw_sq ?_
 refine aw_sr 6 ?_
 refine at_el 6 [(70, .bool true)] H (fun _ => id) fun fr H => ?_
 refine aw_true (x := .tmp 70) (by kernel_rfl) H (fun fr => by kernel_rfl) ?_
 refine aw_sr 1 ?_
 refine at_el 1 [(8, .bool false)] H (fun _ => id) fun fr H => ?_
 refine aw_rt ?_
 obtain rfl := injA hm
 refine ⟨.inl rfl, .bool false, rH H, ?_⟩
 replace A := A.d0
 exact ⟨rfl, A⟩
end Go.Av.L
