/-
  Models of functions, and that the abstract run tells them. Written by lift2.py.
-/
import Derived.Test.YtiodcbipjnmpgaaKCfg
import Derived.Test.YtiodcbipjnmpgaaK2
import Derived.Test.YtiodcbipjnmpgaaK4
namespace Go.Av.L
open Go.Av Go.Lib
set_option maxRecDepth 10000
set_option linter.unusedVariables false
set_option linter.unusedSimpArgs false
variable {g : Gd} {h : AHeap} {F : List Ck} {av : List AVal}
noncomputable section
def M_groups_ender_cut_L0 (p0 : S_groups_ender) (p2 : Int) (p3 : Int) (p4 : S_groups_job) (p5 : Int) (x1 : List Bool) (s : (List (S_groups_spot × (List Bool))) × Int) : Option (((List (S_groups_spot × (List Bool))) × Int) ⊕ (((List (S_groups_spot × (List Bool)))) ⊕ ((List (S_groups_spot × (List Bool))) × Int))) :=
 match s with
 | (x3, x4) => iteB (decide (x4 > p5)) ((ixV x1 x4).bind fun x8 => (iteB x8 ((M_groups_ender_ends (⟨p0.t_, p0.s_, x3⟩ : S_groups_ender) p2 p3 x4).bind fun (x11, x12) => (ixV x11 p4.to_).bind fun x13 => some (x12, x13)) (some (x3, false)) : Option ((List (S_groups_spot × (List Bool))) × Bool)).bind fun (x9, x10) => iteB x10 (some (.inr (.inr (x9, x4)))) (some (.inl (x9, IntKind.i64.wrap (x4 - 1))))) (some (.inr (.inl x3)))
def M_groups_ender_cut (p0 : S_groups_ender) (p1 : Int) (p2 : Int) (p3 : Int) (p4 : S_groups_job) (p5 : Int) : Option (Int × (List (S_groups_spot × (List Bool)))) :=
 (M_groups_ender_ends p0 p1 (0 : Int) p4.from_).bind fun (x1, x2) => (loop (M_groups_ender_cut_L0 p0 p2 p3 p4 p5 x1) (x2, p4.to_)).bind fun o1 => (match o1 with | .inl x5 => some (p5, x5) | .inr (x6, x7) => some (x7, x6))
theorem ok_groups_ender_cut {p0 p1 p2 p3 p4 p5 bp0 bp0_3 q0 u1} (hm : M_groups_ender_cut p0 p1 p2 p3 p4 p5 = some (q0, u1)) (A : HH g h [.obj bp0 (.cells none 2 [vs e_S_tree_Node p0.t_.Nodes, Ai p0.t_.Root, .str p0.s_, .map (some bp0_3)]), .obj bp0_3 (.map 2 (encM (fun k : S_groups_spot => .agg (e_S_groups_spot k)) (fun v : List Bool => vs eB v) p0.told_))] F) (hc : canL (cfg.still 63) av = [.ptr (some (bp0, 0)), Ai p1, Ai p2, Ai p3, .agg (e_S_groups_job p4), Ai p5] := by kernel_rfl) : ∃ v h', Runs cfg g h 63 av v h' ∧ v = Ai q0 ∧ HH g h' [.obj bp0 (.cells none 2 [vs e_S_tree_Node p0.t_.Nodes, Ai p0.t_.Root, .str p0.s_, .map (some bp0_3)]), .obj bp0_3 (.map 2 (encM (fun k : S_groups_spot => .agg (e_S_groups_spot k)) (fun v : List Bool => vs eB v) u1))] F := by
 refine rq1 44 [.tmp 12] hc ?_
 clear hc
 unfold M_groups_ender_cut at hm
 refine bg 44 [(0, .ptr (some (bp0, 0))), (1, Ai p1), (2, Ai p2), (3, Ai p3), (4, .agg (e_S_groups_job p4)), (5, Ai p5)] fun fr H => ?_
 refine aw_sr 2 ?_
 obtain ⟨h1, e1, A⟩ := A.pu (.cells none 2 (e_S_groups_job p4))
 refine at_ln 10 (.ptr (some (h.size, 0))) e1 H fun fr t H => ?_
 refine at_S 1 [] 6 H fun fr H => at_gl 3 [(15, .ptr (some (bp0, 0))), (16, Ai p1)] 18 0 2 A H fun fr t H => ?_
 replace A : HH g h1 [_, _, .obj h.size (.cells none 2 (e_S_groups_job p4))] F := ((A.front 2 rfl).front 2 rfl)
 obtain ⟨⟨x1, x2⟩, hx, hm⟩ := bind_some hm
 obtain ⟨v1, h2, hr, rfl, A1⟩ := ok_groups_ender_ends (av := [.ptr (some (bp0, 0)), Ai p1, Ai 0, Ai p4.from_]) hx (A.cut 2)
 replace A := A.g22 A1
 refine at_lc1 19 hr H fun fr t H => ?_
 refine at_L 1 [(13, vs eB x1)] H fun fr H => aw_sq (aw_sr 3 (at_gl 1 [] 21 2 3 A H fun fr t H => ?_))
 refine at_L 1 [(14, Ai p4.to_)] H fun fr H => aw_block (id := 0) (by kernel_rfl) ?_
 obtain ⟨o1, ho, hm⟩ := bind_some hm
 refine aw_mono (Q' := fun e fr' h' => (∃ x5, e = .exit 0 ∧ .inl x5 = o1 ∧ Has fr' 44 [(5, Ai p5)] ∧ HH g h' [.obj bp0 (.cells none 2 [vs e_S_tree_Node p0.t_.Nodes, Ai p0.t_.Root, .str p0.s_, .map (some bp0_3)]), .obj bp0_3 (.map 2 (encM (fun k : S_groups_spot => .agg (e_S_groups_spot k)) (fun v : List Bool => vs eB v) x5)), .obj h.size (.cells none 2 (e_S_groups_job p4))] F) ∨ (∃ x6 x7, e = .ret ∧ .inr (x6, x7) = o1 ∧ Has fr' 44 [(12, Ai x7)] ∧ HH g h' [.obj bp0 (.cells none 2 [vs e_S_tree_Node p0.t_.Nodes, Ai p0.t_.Root, .str p0.s_, .map (some bp0_3)]), .obj bp0_3 (.map 2 (encM (fun k : S_groups_spot => .agg (e_S_groups_spot k)) (fun v : List Bool => vs eB v) x6)), .obj h.size (.cells none 2 (e_S_groups_job p4))] F) ∨ False) ?_ ?_
 ·refine aw_loop (by kernel_rfl) (fun (s : (List (S_groups_spot × (List Bool))) × Int) fr' h' => ∃ x3 x4, (x3, x4) = s ∧ Has fr' 44 [(0, .ptr (some (bp0, 0))), (2, Ai p2), (3, Ai p3), (5, Ai p5), (10, .ptr (some (h.size, 0))), (13, vs eB x1), (14, Ai x4)] ∧ HH g h' [.obj bp0 (.cells none 2 [vs e_S_tree_Node p0.t_.Nodes, Ai p0.t_.Root, .str p0.s_, .map (some bp0_3)]), .obj bp0_3 (.map 2 (encM (fun k : S_groups_spot => .agg (e_S_groups_spot k)) (fun v : List Bool => vs eB v) x3)), .obj h.size (.cells none 2 (e_S_groups_job p4))] F) ho ⟨_, _, rfl, H.ls, A⟩ ?_
  clear ho hm H A
  intro s q fr h3 hI hm
  obtain ⟨x3, x4, rfl, H, A⟩ := hI
  unfold M_groups_ender_cut_L0 at hm
  refine aw_sq (aw_sr 3 (at_L 3 [(24, .bool (decide (x4 > p5)))] H fun fr H => aw_if 24 H hm (fun hb hm H => ?_) fun hb hm H => ?_))
  ·refine aw_kn id (aw_sq (aw_block (id := 1) (by kernel_rfl) ?_))
   refine aw_sq (aw_dw 5 15 [(0, []), (1, []), (2, []), (3, []), (4, []), (5, []), (6, []), (7, []), (8, []), (10, []), (11, []), (9, [11]), (12, []), (13, []), (14, [])] ?_)
   refine at_sl 2 [(27, vs eB x1), (28, Ai x4)] H fun fr H => ?_
   obtain ⟨x8, hx, hm⟩ := bind_some hm
   refine at_t1 29 (.vptr [.bool x8]) h3 [] (g.prot) H (fun fr => .of (s_ixV (e := eB) (x := x8) encB (by decide) (by kernel_rfl) hx)) (fun fr H => ?_)
   refine at_t1 30 (.bool x8) h3 [] (g.prot) H (fun fr => .of (s_lv (by kernel_rfl))) (fun fr H => ?_)
   refine at_sl 1 [(31, .bool x8)] H fun fr H => ?_
   obtain ⟨⟨x9, x10⟩, ho, hm⟩ := bind_some hm
   refine at_cl 10 (fun fr' h' => Has fr' 44 [(0, .ptr (some (bp0, 0))), (2, Ai p2), (3, Ai p3), (5, Ai p5), (10, .ptr (some (h.size, 0))), (13, vs eB x1), (14, Ai x4), (41, .bool x10)] ∧ HH g h' [.obj bp0 (.cells none 2 [vs e_S_tree_Node p0.t_.Nodes, Ai p0.t_.Root, .str p0.s_, .map (some bp0_3)]), .obj bp0_3 (.map 2 (encM (fun k : S_groups_spot => .agg (e_S_groups_spot k)) (fun v : List Bool => vs eB v) x9)), .obj h.size (.cells none 2 (e_S_groups_job p4))] F) ?_ ?_
   ·rcases iteB_some ho with ⟨hb, hm⟩ | ⟨hb, hm⟩
    ·replace H := H.kn 31 hb
     refine at_sl 5 [(32, .ptr (some (bp0, 0))), (33, Ai p2), (34, Ai p3), (35, Ai x4), (37, .ptr (some (h.size, 3)))] H fun fr H => at_t1 38 (Ai p4.to_) h3 [(11, h.size)] (g.prot) H (fun fr => .of (s_ld (by kernel_rfl) (A.l1 2 3))) (fun fr H => ?_)
     have A1 := A.prot2 2 (pr := [h.size]) (.cons 0 rfl (by simp [Ck.ids]) .nil)
     obtain ⟨⟨x11, x12⟩, hx, hm⟩ := bind_some hm
     obtain ⟨v1, h5, hr, rfl, A1⟩ := ok_groups_ender_ends (av := [.ptr (some (bp0, 0)), Ai p2, Ai p3, Ai x4]) hx A1
     replace A := A.p22 A1
     refine at_t1 36 (vs eB x11) h5 [(11, h.size)] (h.size :: g.prot) H (fun fr => Steps.call (by kernel_rfl) hr) (fun fr H => ?_)
     obtain ⟨x13, hx, hm⟩ := bind_some hm
     refine at_t1 39 (.vptr [.bool x13]) h5 [(11, h.size)] (g.prot) H (fun fr => .of (s_ixV (e := eB) (x := x13) encB (by decide) (by kernel_rfl) hx)) (fun fr H => ?_)
     refine at_t1 40 (.bool x13) h5 [(11, h.size)] (g.prot) H (fun fr => .of (s_lv (by kernel_rfl))) (fun fr H => ?_)
     refine at_sl 1 [(41, .bool x13)] H fun fr H => ?_
     obtain ⟨rfl, rfl⟩ := injB hm
     exact at_nil ⟨H.ls, A⟩
    replace H := H.kn 31 hb
    refine at_sl 6 [(32, .tuple []), (33, .tuple []), (34, .tuple []), (35, .tuple []), (38, .tuple [])] H fun fr H => at_skip [(0, .ptr (some (bp0, 0))), (2, Ai p2), (3, Ai p3), (5, Ai p5), (10, .ptr (some (h.size, 0))), (13, vs eB x1), (14, Ai x4), (31, .bool false), (36, .tuple []), (38, .tuple [])] H (fun fr => by kernel_rfl) ?_
    intro fr H
    refine at_sl 3 [(41, .bool false)] H fun fr H => ?_
    obtain ⟨rfl, rfl⟩ := injB hm
    exact at_nil ⟨H.ls, A⟩
   clear A
   intro t fr h4 hK
   obtain ⟨H, A⟩ := hK
   refine at_nl id (aw_if 41 H hm (fun hb hm H => ?_) fun hb hm H => ?_)
   ·refine aw_sr 2 (at_L 2 [(12, Ai x4)] H fun fr H => aw_rt ?_)
    exact nr hm fun e => Or.inr (.inl ⟨_, _, rfl, e, H.ls, A⟩)
   refine aw_kr 3 id (at_se 3 [(0, .ptr (some (bp0, 0))), (2, Ai p2), (3, Ai p3), (5, Ai p5), (10, .ptr (some (h.size, 0))), (13, vs eB x1), (14, Ai (IntKind.i64.wrap (x4 - 1)))] H fun fr H => at_nil ?_)
   exact nx hm ⟨_, _, rfl, H.ls, A⟩
  refine aw_exit (i := 0) (by kernel_rfl) ?_
  exact nr hm fun e => .inl ⟨_, rfl, e, H.ls, A⟩
 clear ho
 clear A
 intro e fr h6 hQ
 rcases hQ with ⟨x5, rfl, rfl, H, A⟩ | ⟨x6, x7, rfl, rfl, H, A⟩ | hF
 ·show AW _ _ _ _ _ _ _
  refine aw_sr 2 (at_L 2 [(12, Ai p5)] H fun fr H => aw_rt ?_)
  obtain ⟨rfl, rfl⟩ := injB hm
  refine ⟨.inl rfl, Ai p5, rH H, ?_⟩
  replace A := A.d2
  exact ⟨rfl, A⟩
 ·obtain ⟨rfl, rfl⟩ := injB hm
  refine ⟨.inl rfl, Ai x7, rH H, ?_⟩
  replace A := A.d2
  exact ⟨rfl, A⟩
 exact hF.elim
def M_groups_ender_make_sPOFPO_L0 (p0 : S_groups_ender) (s : (List (S_groups_spot × (List Bool))) × (List S_groups_job) × (List S_groups_Span)) : Option (((List (S_groups_spot × (List Bool))) × (List S_groups_job) × (List S_groups_Span)) ⊕ (((List (S_groups_spot × (List Bool))) × (List S_groups_job) × (List S_groups_Span)))) :=
 match s with
 | (x1, x2, x3) => iteB (decide ((x2.length : Int) > 0)) ((ixV x2 (IntKind.i64.wrap ((x2.length : Int) - 1))).bind fun x7 => (subV x2 none (some (IntKind.i64.wrap ((x2.length : Int) - 1)))).bind fun x8 => (ixV p0.t_.Nodes x7.node_).bind fun x9 => iteB (x9.Kind == 5) ((M_groups_Spans_1_sIIIPO x9.Group x7.from_ x7.to_ x3).bind fun x10 => need (okN 32 (x8.length + ([(⟨x9.A, (0 : Int), x7.from_, x7.to_⟩ : S_groups_job)] : List S_groups_job).length)) <| some (.inl (x1, (x8 ++ ([(⟨x9.A, (0 : Int), x7.from_, x7.to_⟩ : S_groups_job)] : List S_groups_job)), x10))) (iteB (x9.Kind == 3) (((M_groups_ender_ends (⟨p0.t_, p0.s_, x1⟩ : S_groups_ender) x9.A (0 : Int) x7.from_).bind fun (x13, x14) => (ixV x13 x7.to_).bind fun x15 => iteB (!x15) (some (x14, x9.B)) (some (x14, x9.A)) : Option (((List (S_groups_spot × (List Bool))) × Int))).bind fun (x11, x12) => need (okN 32 (x8.length + ([(⟨x12, (0 : Int), x7.from_, x7.to_⟩ : S_groups_job)] : List S_groups_job).length)) <| some (.inl (x11, (x8 ++ ([(⟨x12, (0 : Int), x7.from_, x7.to_⟩ : S_groups_job)] : List S_groups_job)), x3))) (iteB (x9.Kind == 2) ((M_groups_ender_cut (⟨p0.t_, p0.s_, x1⟩ : S_groups_ender) x9.A x9.B (0 : Int) x7 x7.from_).bind fun (x16, x17) => need (okN 32 (x8.length + ([(⟨x9.B, (0 : Int), x16, x7.to_⟩ : S_groups_job), (⟨x9.A, (0 : Int), x7.from_, x16⟩ : S_groups_job)] : List S_groups_job).length)) <| some (.inl (x17, (x8 ++ ([(⟨x9.B, (0 : Int), x16, x7.to_⟩ : S_groups_job), (⟨x9.A, (0 : Int), x7.from_, x16⟩ : S_groups_job)] : List S_groups_job)), x3))) (iteB (x9.Kind == 4) (iteB ((decide (x7.turns_ ≥ x9.Min)) && (x7.from_ == x7.to_)) (some (.inl (x1, x8, x3))) ((M_groups_after x9 x7.turns_).bind fun x18 => (M_groups_ender_cut (⟨p0.t_, p0.s_, x1⟩ : S_groups_ender) x9.A x7.node_ x18 x7 x7.from_).bind fun (x19, x20) => need (okN 32 (x8.length + ([(⟨x7.node_, x18, x19, x7.to_⟩ : S_groups_job), (⟨x9.A, (0 : Int), x7.from_, x19⟩ : S_groups_job)] : List S_groups_job).length)) <| some (.inl (x20, (x8 ++ ([(⟨x7.node_, x18, x19, x7.to_⟩ : S_groups_job), (⟨x9.A, (0 : Int), x7.from_, x19⟩ : S_groups_job)] : List S_groups_job)), x3)))) (some (.inl (x1, x8, x3))))))) (some (.inr (x1, x2, x3)))
def M_groups_ender_make_sPOFPO (p0 : S_groups_ender) (p1 : List S_groups_job) (p2_10 : List S_groups_Span) : Option ((List (S_groups_spot × (List Bool))) × (List S_groups_job) × (List S_groups_Span)) :=
 (loop (M_groups_ender_make_sPOFPO_L0 p0) (p0.told_, p1, p2_10)).bind fun (x4, x5, x6) => some (x4, x5, x6)
theorem ok_groups_ender_make_sPOFPO {p0 p1 p2_10 bp0 bp0_3 rp1 bp2_10 rp2_10_0 u1 u2 u4} (hm : M_groups_ender_make_sPOFPO p0 p1 p2_10 = some (u1, u2, u4)) (A : HH g h [.obj bp0 (.cells none 2 [vs e_S_tree_Node p0.t_.Nodes, Ai p0.t_.Root, .str p0.s_, .map (some bp0_3)]), .obj bp0_3 (.map 2 (encM (fun k : S_groups_spot => .agg (e_S_groups_spot k)) (fun v : List Bool => vs eB v) p0.told_)), .lst rp1 91 (lst e_S_groups_job p1), .obj bp2_10 (.cells none 2 [rowV rp2_10_0 p2_10.length]), .lst rp2_10_0 32 (lst e_S_groups_Span p2_10)] F) (hc : canL (cfg.still 42) av = [.ptr (some (bp0, 0)), rowV rp1 p1.length, .func (.func 43) [] [.ptr (some (bp2_10, 0))]] := by kernel_rfl) : ∃ v h', Runs cfg g h 42 av v h' ∧ ∃ (r'2 : Option Nat) (tl'2 : List S_groups_job) (hl'4 : u4.length = p2_10.length), v = .tuple [] ∧ HH g h' [.obj bp0 (.cells none 2 [vs e_S_tree_Node p0.t_.Nodes, Ai p0.t_.Root, .str p0.s_, .map (some bp0_3)]), .obj bp0_3 (.map 2 (encM (fun k : S_groups_spot => .agg (e_S_groups_spot k)) (fun v : List Bool => vs eB v) u1)), .lst r'2 91 (lst e_S_groups_job (u2 ++ tl'2)), .obj bp2_10 (.cells none 2 [rowV rp2_10_0 u4.length]), .lst rp2_10_0 32 (lst e_S_groups_Span u4)] F := by
 refine rq1 153 [] hc ?_
 clear hc
 unfold M_groups_ender_make_sPOFPO at hm
 refine bg 153 [(0, .ptr (some (bp0, 0))), (1, rowV rp1 p1.length), (2, .func (.func 43) [] [.ptr (some (bp2_10, 0))])] fun fr H => ?_
 refine aw_block (id := 0) (by kernel_rfl) ?_
 replace A : HH g h [_, _, .lst rp1 91 (lst e_S_groups_job (p1 ++ [])), _, _] F := A.tl0 2 rfl
 obtain ⟨o1, ho, hm⟩ := bind_some hm
 refine aw_mono (Q' := fun e fr' h' => (∃ x4 x5 x6, e = .exit 0 ∧ (x4, x5, x6) = o1 ∧ ∃ r2 tl2, ∃ (hl2 : x6.length = p2_10.length), Has fr' 153 [] ∧ HH g h' [.obj bp0 (.cells none 2 [vs e_S_tree_Node p0.t_.Nodes, Ai p0.t_.Root, .str p0.s_, .map (some bp0_3)]), .obj bp0_3 (.map 2 (encM (fun k : S_groups_spot => .agg (e_S_groups_spot k)) (fun v : List Bool => vs eB v) x4)), .lst r2 91 (lst e_S_groups_job (x5 ++ tl2)), .obj bp2_10 (.cells none 2 [rowV rp2_10_0 x6.length]), .lst rp2_10_0 32 (lst e_S_groups_Span x6)] F) ∨ False) ?_ ?_
 ·refine aw_loop (by kernel_rfl) (fun (s : (List (S_groups_spot × (List Bool))) × (List S_groups_job) × (List S_groups_Span)) fr' h' => ∃ x1 x2 x3, (x1, x2, x3) = s ∧ ∃ r1 tl1, ∃ (hl1 : x3.length = p2_10.length), Has fr' 153 [(0, .ptr (some (bp0, 0))), (1, rowV r1 x2.length), (2, .func (.func 43) [] [.ptr (some (bp2_10, 0))])] ∧ HH g h' [.obj bp0 (.cells none 2 [vs e_S_tree_Node p0.t_.Nodes, Ai p0.t_.Root, .str p0.s_, .map (some bp0_3)]), .obj bp0_3 (.map 2 (encM (fun k : S_groups_spot => .agg (e_S_groups_spot k)) (fun v : List Bool => vs eB v) x1)), .lst r1 91 (lst e_S_groups_job (x2 ++ tl1)), .obj bp2_10 (.cells none 2 [rowV rp2_10_0 x3.length]), .lst rp2_10_0 32 (lst e_S_groups_Span x3)] F) ho ⟨_, _, _, rfl, rp1, [], rfl, H.ls, A⟩ ?_
  clear ho hm H A
  intro s q fr h1 hI hm
  obtain ⟨x1, x2, x3, rfl, r1, tl1, hl1, H, A⟩ := hI
  unfold M_groups_ender_make_sPOFPO_L0 at hm
  refine aw_sq (aw_sr 3 (at_L 3 [(14, .bool (decide ((x2.length : Int) > 0)))] H fun fr H => aw_if 14 H hm (fun hb hm H => ?_) fun hb hm H => ?_))
  ·refine aw_kn id (aw_block (id := 1) (by kernel_rfl) ?_)
   refine aw_sr 8 ?_
   obtain ⟨x7, hx, hm⟩ := bind_some hm
   obtain ⟨i1, er1, _, hx, hq1⟩ := HH.ixT enc_S_groups_job (by decide) A 2 (xs := x2) (tl := tl1) rfl hx
   refine at_g1 4 [] 19 (.ptr (some (i1, (IntKind.i64.wrap ((x2.length : Int) - 1)).toNat * 4))) h1 H (fun fr => .of (s_ixL (s := rowS r1 x2.length) (by kernel_rfl) hx)) fun fr t H => ?_
   refine at_l1 20 _ _ H (fun fr => .of (s_ldA (by kernel_rfl) (row_ldA enc_S_groups_job (HH.row A 2 rfl er1) hq1 0 4 (Nat.le_of_ble_eq_true rfl)))) fun fr t H => ?_
   obtain ⟨h2, e1, A⟩ := A.pu (.cells none 2 [Ai 0, Ai 0, Ai 0, Ai 0])
   refine at_ln 6 (.ptr (some (h1.size, 0))) e1 H fun fr t H => ?_
   obtain ⟨h3, hx, A⟩ := A.s0 0 (e_S_groups_job x7) [_, _, _, _]
   refine at_lS hx H fun fr t H => ?_
   refine at_ns 6 id ?_
   obtain ⟨x8, hx, hm⟩ := bind_some hm
   have Aw1 := A
   obtain ⟨tl3, A1⟩ := HH.cutT A 3 (xs := x2) (tl := tl1) rfl hx
   replace A : HH g h3 [_, _, _, .lst r1 91 (lst e_S_groups_job (x8 ++ tl3)), _, _] F := A1
   refine at_g1 4 [] 25 (rowV r1 x8.length) h3 H (fun fr => .of (s_subT enc_S_groups_job (by decide) Aw1 3 (xs := x2) (tl := tl1) (k' := .i64) rfl (by kernel_rfl) (by kernel_rfl) hx)) fun fr t H => ?_
   refine at_se 1 [(0, .ptr (some (bp0, 0))), (1, rowV r1 x8.length), (2, .func (.func 43) [] [.ptr (some (bp2_10, 0))]), (6, .ptr (some (h1.size, 0)))] H fun fr H => at_nl id (aw_sq (aw_dg 3 11 ?_))
   refine at_gl 4 [] 30 1 0 A H fun fr t H => ?_
   refine at_gl 1 [] 32 0 0 A H fun fr t H => ?_
   obtain ⟨x9, hx, hm⟩ := bind_some hm
   refine at_l1 33 (.vptr (e_S_tree_Node x9)) h3 H (fun fr => .of (s_ixV (e := e_S_tree_Node) (x := x9) enc_S_tree_Node (by decide) (by kernel_rfl) hx)) fun fr t H => ?_
   refine at_l1 34 (.agg (e_S_tree_Node x9)) h3 H (fun fr => .of (s_lv (by kernel_rfl))) fun fr t H => ?_
   obtain ⟨h4, e2, A⟩ := A.pu (.cells none 2 [Ai 0, Ai 0, Ai 0, Ai 0, Ai 0, Ai 0, Au 0, Au 0, Au 0, Au 0])
   refine at_ln 7 (.ptr (some (h3.size, 0))) e2 H fun fr t H => ?_
   obtain ⟨h5, hx, A⟩ := A.s0 0 (e_S_tree_Node x9) [_, _, _, _, _, _, _, _, _, _]
   refine at_lS hx H fun fr t H => ?_
   refine at_ns 2 id (at_gl 1 [] 36 0 0 A H fun fr t H => ?_)
   refine at_nl id (aw_block (id := 2) (by kernel_rfl) ?_)
   refine aw_sr 2 (at_L 2 [(37, .bool (x9.Kind == 5))] H fun fr H => aw_if 37 H hm (fun hb hm H => ?_) fun hb hm H => ?_)
   ·refine aw_sr 8 (at_gl 2 [(39, .func (.func 43) [] [.ptr (some (bp2_10, 0))])] 41 0 5 A H fun fr t H => ?_)
    refine at_gl 1 [] 43 1 2 A H fun fr t H => ?_
    refine at_gl 1 [] 45 1 3 A H fun fr t H => ?_
    replace A := A.k7 5 6 0 1 2 3 4
    obtain ⟨x10, hx, hm⟩ := bind_some hm
    obtain ⟨v1, h6, hr, hl3, rfl, A1⟩ := ok_groups_Spans_1_sIIIPO (av := [Ai x9.Group, Ai x7.from_, Ai x7.to_, .ptr (some (bp2_10, 0))]) hx (A.cut 2)
    have hl4 : x10.length = p2_10.length := hl3.trans hl1
    have el : rowV rp2_10_0 x3.length = rowV rp2_10_0 x10.length := congrArg _ hl3.symm
    try rw [el] at H
    try rw [el] at hr
    try rw [el] at A1
    replace A := A.g22 A1
    refine at_lc0 hr H fun fr t H => ?_
    refine at_nr 11 id (at_gl 2 [(47, rowV r1 x8.length)] 49 2 1 A H fun fr t H => ?_)
    refine at_gl 1 [] 51 3 2 A H fun fr t H => ?_
    refine at_gl 1 [] 53 3 3 A H fun fr t H => ?_
    refine at_sl 1 [(54, .agg [Ai x9.A, Ai 0, Ai x7.from_, Ai x7.to_])] H fun fr H => ?_
    obtain ⟨h7, e3, A⟩ := A.pL 91 [Ai x9.A, Ai 0, Ai x7.from_, Ai x7.to_]
    refine at_ln 55 (rowV (some h6.size) (([(⟨x9.A, (0 : Int), x7.from_, x7.to_⟩ : S_groups_job)] : List S_groups_job).length)) e3 H fun fr t H => ?_
    obtain ⟨hb, hm⟩ := need_some hm
    obtain ⟨r3, tl4, h8, hx, A1⟩ := HH.appT enc_S_groups_job (by decide) A 7 (xs := x8) (tl := tl3) (ys := ([(⟨x9.A, (0 : Int), x7.from_, x7.to_⟩ : S_groups_job)] : List S_groups_job)) rfl (row_first A 0 rfl (n := ([(⟨x9.A, (0 : Int), x7.from_, x7.to_⟩ : S_groups_job)] : List S_groups_job).length) (z := 4) rfl (by decide)) rfl rfl hb
    replace A : HH g h8 [.lst (some h6.size) 91 ([Ai x9.A, Ai 0, Ai x7.from_, Ai x7.to_]), _, _, _, _, _, _, .lst r3 91 (lst e_S_groups_job ((x8 ++ ([(⟨x9.A, (0 : Int), x7.from_, x7.to_⟩ : S_groups_job)] : List S_groups_job)) ++ tl4))] F := A1
    replace A := A.k7 1 2 3 4 5 6 7
    refine at_l1 56 _ _ H (fun fr => .of (s_app (s := rowS r1 x8.length) (by kernel_rfl) hx)) fun fr t H => ?_
    refine at_se 1 [(0, .ptr (some (bp0, 0))), (1, rowV r3 ((x8 ++ ([(⟨x9.A, (0 : Int), x7.from_, x7.to_⟩ : S_groups_job)] : List S_groups_job)).length)), (2, .func (.func 43) [] [.ptr (some (bp2_10, 0))])] H fun fr H => at_nil ?_
    replace A := A.k5 4 5 6 0 1
    exact nx hm ⟨_, _, _, rfl, _, tl4, hl4, H.ls, A⟩
   refine aw_sr 2 (at_L 2 [(57, .bool (x9.Kind == 3))] H fun fr H => aw_if 57 H hm (fun hb hm H => ?_) fun hb hm H => ?_)
   ·refine aw_sr 3 (at_gl 1 [] 60 0 1 A H fun fr t H => ?_)
    refine at_L 1 [(8, Ai x9.A)] H fun fr H => aw_sq ?_
    obtain ⟨o2, ho, hm⟩ := bind_some hm
    refine aw_mono (Q' := fun e fr' h' => (∃ x11 x12, e = .normal ∧ (x11, x12) = o2 ∧ Has fr' 153 [(0, .ptr (some (bp0, 0))), (1, rowV r1 x8.length), (2, .func (.func 43) [] [.ptr (some (bp2_10, 0))]), (6, .ptr (some (h1.size, 0))), (8, Ai x12)] ∧ HH g h' [.obj h3.size (.cells none 2 (e_S_tree_Node x9)), .obj h1.size (.cells none 2 (e_S_groups_job x7)), .obj bp0 (.cells none 2 [vs e_S_tree_Node p0.t_.Nodes, Ai p0.t_.Root, .str p0.s_, .map (some bp0_3)]), .obj bp0_3 (.map 2 (encM (fun k : S_groups_spot => .agg (e_S_groups_spot k)) (fun v : List Bool => vs eB v) x11)), .lst r1 91 (lst e_S_groups_job (x8 ++ tl3)), .obj bp2_10 (.cells none 2 [rowV rp2_10_0 x3.length]), .lst rp2_10_0 32 (lst e_S_groups_Span x3)] F) ∨ False) ?_ ?_
    ·replace hm := ho
     clear ho
     refine aw_sq (aw_dw 10 11 [(0, []), (1, []), (2, []), (3, []), (4, []), (6, []), (7, []), (5, [7]), (8, []), (9, []), (10, [])] ?_)
     refine at_sl 2 [(61, .ptr (some (bp0, 0))), (62, .ptr (some (h3.size, 1)))] H fun fr H => at_t1 63 (Ai x9.A) h5 [(2, h3.size)] (g.prot) H (fun fr => .of (s_ld (by kernel_rfl) (A.l1 0 1))) (fun fr H => ?_)
     refine at_sl 1 [(64, .ptr (some (h1.size, 2)))] H fun fr H => at_t1 65 (Ai x7.from_) h5 [(4, h1.size), (2, h3.size)] (g.prot) H (fun fr => .of (s_ld (by kernel_rfl) (A.l1 1 2))) (fun fr H => ?_)
     refine at_sl 1 [(67, .ptr (some (h1.size, 3)))] H fun fr H => at_t1 68 (Ai x7.to_) h5 [(7, h1.size), (4, h1.size), (2, h3.size)] (g.prot) H (fun fr => .of (s_ld (by kernel_rfl) (A.l1 1 3))) (fun fr H => ?_)
     replace A := A.k7 2 3 0 1 4 5 6
     have A1 := A.prot2 2 (pr := [h1.size]) (.cons 1 rfl (by simp [Ck.ids]) .nil)
     obtain ⟨⟨x13, x14⟩, hx, hm⟩ := bind_some hm
     obtain ⟨v1, h9, hr, rfl, A1⟩ := ok_groups_ender_ends (av := [.ptr (some (bp0, 0)), Ai x9.A, Ai 0, Ai x7.from_]) hx A1
     replace A := A.p22 A1
     refine at_t1 66 (vs eB x13) h9 [(7, h1.size), (4, h1.size), (2, h3.size)] (h1.size :: g.prot) H (fun fr => Steps.call (by kernel_rfl) hr) (fun fr H => ?_)
     obtain ⟨x15, hx, hm⟩ := bind_some hm
     refine at_t1 69 (.vptr [.bool x15]) h9 [(7, h1.size), (4, h1.size), (2, h3.size)] (g.prot) H (fun fr => .of (s_ixV (e := eB) (x := x15) encB (by decide) (by kernel_rfl) hx)) (fun fr H => ?_)
     refine at_t1 70 (.bool x15) h9 [(7, h1.size), (4, h1.size), (2, h3.size)] (g.prot) H (fun fr => .of (s_lv (by kernel_rfl))) (fun fr H => ?_)
     refine at_L 1 [(71, .bool (!x15))] H fun fr H => aw_if 71 H hm (fun hb hm H => ?_) fun hb hm H => ?_
     ·refine aw_rg 3 (at_gl 1 [] 73 2 2 A H fun fr t H => ?_)
      refine at_se 1 [(0, .ptr (some (bp0, 0))), (1, rowV r1 x8.length), (2, .func (.func 43) [] [.ptr (some (bp2_10, 0))]), (6, .ptr (some (h1.size, 0))), (8, Ai x9.B)] H fun fr H => at_nil ?_
      replace A := A.k7 2 3 0 1 4 5 6
      exact .inl ⟨_, _, rfl, injA hm, H.ls, A⟩
     refine aw_sk ?_
     replace A := A.k7 2 3 0 1 4 5 6
     exact .inl ⟨_, _, rfl, injA hm, H.ls, A⟩
    clear ho
    clear A
    intro e fr h10 hQ
    rcases hQ with ⟨x11, x12, rfl, rfl, H, A⟩ | hF
    ·show AW _ _ _ _ _ _ _
     refine aw_rg 10 (at_gl 3 [(74, rowV r1 x8.length), (75, Ai x12)] 77 1 2 A H fun fr t H => ?_)
     refine at_gl 1 [] 79 1 3 A H fun fr t H => ?_
     refine at_sl 1 [(80, .agg [Ai x12, Ai 0, Ai x7.from_, Ai x7.to_])] H fun fr H => ?_
     obtain ⟨h11, e4, A⟩ := A.pL 91 [Ai x12, Ai 0, Ai x7.from_, Ai x7.to_]
     refine at_ln 81 (rowV (some h10.size) (([(⟨x12, (0 : Int), x7.from_, x7.to_⟩ : S_groups_job)] : List S_groups_job).length)) e4 H fun fr t H => ?_
     obtain ⟨hb, hm⟩ := need_some hm
     obtain ⟨r4, tl5, h12, hx, A1⟩ := HH.appT enc_S_groups_job (by decide) A 5 (xs := x8) (tl := tl3) (ys := ([(⟨x12, (0 : Int), x7.from_, x7.to_⟩ : S_groups_job)] : List S_groups_job)) rfl (row_first A 0 rfl (n := ([(⟨x12, (0 : Int), x7.from_, x7.to_⟩ : S_groups_job)] : List S_groups_job).length) (z := 4) rfl (by decide)) rfl rfl hb
     replace A : HH g h12 [.lst (some h10.size) 91 ([Ai x12, Ai 0, Ai x7.from_, Ai x7.to_]), _, _, _, _, .lst r4 91 (lst e_S_groups_job ((x8 ++ ([(⟨x12, (0 : Int), x7.from_, x7.to_⟩ : S_groups_job)] : List S_groups_job)) ++ tl5)), _, _] F := A1
     replace A := A.k7 1 2 3 4 5 6 7
     refine at_l1 82 _ _ H (fun fr => .of (s_app (s := rowS r1 x8.length) (by kernel_rfl) hx)) fun fr t H => ?_
     refine at_se 1 [(0, .ptr (some (bp0, 0))), (1, rowV r4 ((x8 ++ ([(⟨x12, (0 : Int), x7.from_, x7.to_⟩ : S_groups_job)] : List S_groups_job)).length)), (2, .func (.func 43) [] [.ptr (some (bp2_10, 0))])] H fun fr H => at_nil ?_
     replace A := A.k5 2 3 4 5 6
     exact nx hm ⟨_, _, _, rfl, _, tl5, hl1, H.ls, A⟩
    exact hF.elim
   refine aw_sr 2 (at_L 2 [(83, .bool (x9.Kind == 2))] H fun fr H => aw_if 83 H hm (fun hb hm H => ?_) fun hb hm H => ?_)
   ·refine aw_sr 10 (at_gl 2 [(85, .ptr (some (bp0, 0)))] 87 0 1 A H fun fr t H => ?_)
    refine at_gl 1 [] 89 0 2 A H fun fr t H => ?_
    refine at_l1 90 _ _ H (fun fr => .of (s_ldA (by kernel_rfl) (A.ldA 1 rfl (o := 0) (n := 4) ⟨Nat.le_of_ble_eq_true rfl, rfl⟩))) fun fr t H => ?_
    refine at_gl 1 [] 92 1 2 A H fun fr t H => ?_
    replace A := A.k7 2 3 0 1 4 5 6
    obtain ⟨⟨x16, x17⟩, hx, hm⟩ := bind_some hm
    obtain ⟨v1, h13, hr, rfl, A1⟩ := ok_groups_ender_cut (av := [.ptr (some (bp0, 0)), Ai x9.A, Ai x9.B, Ai 0, .agg (e_S_groups_job x7), Ai x7.from_]) hx (A.cut 2)
    replace A := A.g22 A1
    refine at_lc1 93 hr H fun fr t H => ?_
    refine at_R 1 [(9, Ai x16)] 16 H fun fr H => at_gl 2 [(94, rowV r1 x8.length)] 96 2 2 A H fun fr t H => ?_
    refine at_gl 2 [(97, Ai x16)] 99 3 3 A H fun fr t H => ?_
    refine at_gl 2 [(100, .agg [Ai x9.B, Ai (0 : Int), Ai x16, Ai x7.to_])] 102 2 1 A H fun fr t H => ?_
    refine at_gl 1 [] 104 3 2 A H fun fr t H => ?_
    refine at_sl 2 [(106, .agg [Ai x9.A, Ai 0, Ai x7.from_, Ai x16])] H fun fr H => ?_
    obtain ⟨h14, e5, A⟩ := A.pL 91 [Ai x9.B, Ai 0, Ai x16, Ai x7.to_, Ai x9.A, Ai 0, Ai x7.from_, Ai x16]
    refine at_ln 107 (rowV (some h13.size) (([(⟨x9.B, (0 : Int), x16, x7.to_⟩ : S_groups_job), (⟨x9.A, (0 : Int), x7.from_, x16⟩ : S_groups_job)] : List S_groups_job).length)) e5 H fun fr t H => ?_
    obtain ⟨hb, hm⟩ := need_some hm
    obtain ⟨r5, tl6, h15, hx, A1⟩ := HH.appT enc_S_groups_job (by decide) A 5 (xs := x8) (tl := tl3) (ys := ([(⟨x9.B, (0 : Int), x16, x7.to_⟩ : S_groups_job), (⟨x9.A, (0 : Int), x7.from_, x16⟩ : S_groups_job)] : List S_groups_job)) rfl (row_first A 0 rfl (n := ([(⟨x9.B, (0 : Int), x16, x7.to_⟩ : S_groups_job), (⟨x9.A, (0 : Int), x7.from_, x16⟩ : S_groups_job)] : List S_groups_job).length) (z := 4) rfl (by decide)) rfl rfl hb
    replace A : HH g h15 [.lst (some h13.size) 91 ([Ai x9.B, Ai 0, Ai x16, Ai x7.to_, Ai x9.A, Ai 0, Ai x7.from_, Ai x16]), _, _, _, _, .lst r5 91 (lst e_S_groups_job ((x8 ++ ([(⟨x9.B, (0 : Int), x16, x7.to_⟩ : S_groups_job), (⟨x9.A, (0 : Int), x7.from_, x16⟩ : S_groups_job)] : List S_groups_job)) ++ tl6)), _, _] F := A1
    replace A := A.k7 1 2 3 4 5 6 7
    refine at_l1 108 _ _ H (fun fr => .of (s_app (s := rowS r1 x8.length) (by kernel_rfl) hx)) fun fr t H => ?_
    refine at_se 1 [(0, .ptr (some (bp0, 0))), (1, rowV r5 ((x8 ++ ([(⟨x9.B, (0 : Int), x16, x7.to_⟩ : S_groups_job), (⟨x9.A, (0 : Int), x7.from_, x16⟩ : S_groups_job)] : List S_groups_job)).length)), (2, .func (.func 43) [] [.ptr (some (bp2_10, 0))])] H fun fr H => at_nil ?_
    replace A := A.k5 0 1 4 5 6
    exact nx hm ⟨_, _, _, rfl, _, tl6, hl1, H.ls, A⟩
   refine aw_sr 2 (at_L 2 [(109, .bool (x9.Kind == 4))] H fun fr H => aw_if 109 H hm (fun hb hm H => ?_) fun hb hm H => ?_)
   ·refine aw_sq (aw_sr 12 (at_gl 1 [] 112 1 1 A H fun fr t H => ?_))
    refine at_gl 1 [] 114 0 3 A H fun fr t H => ?_
    refine at_sl 2 [(116, .bool (decide (x7.turns_ ≥ x9.Min)))] H fun fr H => at_cl 6 (fun fr' h' => h5 = h' ∧ Has fr' 153 [(0, .ptr (some (bp0, 0))), (1, rowV r1 x8.length), (2, .func (.func 43) [] [.ptr (some (bp2_10, 0))]), (6, .ptr (some (h1.size, 0))), (7, .ptr (some (h3.size, 0))), (122, .bool ((decide (x7.turns_ ≥ x9.Min)) && (x7.from_ == x7.to_)))]) ?_ ?_
    ·cases hb : (decide (x7.turns_ ≥ x9.Min) : Bool) with
     | true =>
      replace H := H.kn 116 hb
      refine at_gl 1 [] 118 1 2 A H fun fr t H => ?_
      refine at_gl 1 [] 120 1 3 A H fun fr t H => ?_
      exact at_sl 2 [(122, .bool (x7.from_ == x7.to_))] H fun fr H => at_zb H hb
     | false =>
      replace H := H.kn 116 hb
      exact at_sl 6 [(122, .bool false)] H fun fr H => at_zb H hb
    intro t fr h' hK
    obtain ⟨e, H⟩ := hK
    subst e
    refine at_nl id (aw_if 122 H hm (fun hb hm H => ?_) fun hb hm H => ?_)
    ·refine aw_exit (i := 1) (by kernel_rfl) ?_
     replace A := A.k5 2 3 4 5 6
     exact nx hm ⟨_, _, _, rfl, _, tl3, hl1, H.ls, A⟩
    refine aw_ks 5 id (at_l1 123 _ _ H (fun fr => .of (s_ldA (by kernel_rfl) (A.ldA 0 rfl (o := 0) (n := 10) ⟨Nat.le_of_ble_eq_true rfl, rfl⟩))) fun fr t H => ?_)
    refine at_gl 1 [] 125 1 1 A H fun fr t H => ?_
    obtain ⟨x18, hx, hm⟩ := bind_some hm
    obtain ⟨v1, h16, hr, rfl, A1⟩ := ok_groups_after (av := [.agg (e_S_tree_Node x9), Ai x7.turns_]) hx (A.cut 0)
    replace A := A.g00 A1
    refine at_lc1 126 hr H fun fr t H => ?_
    refine at_S 1 [(10, Ai x18)] 11 H fun fr H => at_gl 2 [(127, .ptr (some (bp0, 0)))] 129 0 1 A H fun fr t H => ?_
    refine at_gl 1 [] 131 1 0 A H fun fr t H => ?_
    refine at_g1 1 [(132, Ai x18)] 133 _ _ H (fun fr => .of (s_ldA (by kernel_rfl) (A.ldA 1 rfl (o := 0) (n := 4) ⟨Nat.le_of_ble_eq_true rfl, rfl⟩))) fun fr t H => ?_
    refine at_gl 1 [] 135 1 2 A H fun fr t H => ?_
    replace A := A.k7 2 3 0 1 4 5 6
    obtain ⟨⟨x19, x20⟩, hx, hm⟩ := bind_some hm
    obtain ⟨v1, h17, hr, rfl, A1⟩ := ok_groups_ender_cut (av := [.ptr (some (bp0, 0)), Ai x9.A, Ai x7.node_, Ai x18, .agg (e_S_groups_job x7), Ai x7.from_]) hx (A.cut 2)
    replace A := A.g22 A1
    refine at_lc1 136 hr H fun fr t H => ?_
    refine at_R 1 [(11, Ai x19)] 17 H fun fr H => at_gl 2 [(137, rowV r1 x8.length)] 139 3 0 A H fun fr t H => ?_
    refine at_gl 3 [(140, Ai x18), (141, Ai x19)] 143 3 3 A H fun fr t H => ?_
    refine at_gl 2 [(144, .agg [Ai x7.node_, Ai x18, Ai x19, Ai x7.to_])] 146 2 1 A H fun fr t H => ?_
    refine at_gl 1 [] 148 3 2 A H fun fr t H => ?_
    refine at_sl 2 [(150, .agg [Ai x9.A, Ai 0, Ai x7.from_, Ai x19])] H fun fr H => ?_
    obtain ⟨h18, e6, A⟩ := A.pL 91 [Ai x7.node_, Ai x18, Ai x19, Ai x7.to_, Ai x9.A, Ai 0, Ai x7.from_, Ai x19]
    refine at_ln 151 (rowV (some h17.size) (([(⟨x7.node_, x18, x19, x7.to_⟩ : S_groups_job), (⟨x9.A, (0 : Int), x7.from_, x19⟩ : S_groups_job)] : List S_groups_job).length)) e6 H fun fr t H => ?_
    obtain ⟨hb, hm⟩ := need_some hm
    obtain ⟨r6, tl7, h19, hx, A1⟩ := HH.appT enc_S_groups_job (by decide) A 5 (xs := x8) (tl := tl3) (ys := ([(⟨x7.node_, x18, x19, x7.to_⟩ : S_groups_job), (⟨x9.A, (0 : Int), x7.from_, x19⟩ : S_groups_job)] : List S_groups_job)) rfl (row_first A 0 rfl (n := ([(⟨x7.node_, x18, x19, x7.to_⟩ : S_groups_job), (⟨x9.A, (0 : Int), x7.from_, x19⟩ : S_groups_job)] : List S_groups_job).length) (z := 4) rfl (by decide)) rfl rfl hb
    replace A : HH g h19 [.lst (some h17.size) 91 ([Ai x7.node_, Ai x18, Ai x19, Ai x7.to_, Ai x9.A, Ai 0, Ai x7.from_, Ai x19]), _, _, _, _, .lst r6 91 (lst e_S_groups_job ((x8 ++ ([(⟨x7.node_, x18, x19, x7.to_⟩ : S_groups_job), (⟨x9.A, (0 : Int), x7.from_, x19⟩ : S_groups_job)] : List S_groups_job)) ++ tl7)), _, _] F := A1
    replace A := A.k7 1 2 3 4 5 6 7
    refine at_l1 152 _ _ H (fun fr => .of (s_app (s := rowS r1 x8.length) (by kernel_rfl) hx)) fun fr t H => ?_
    refine at_se 1 [(0, .ptr (some (bp0, 0))), (1, rowV r6 ((x8 ++ ([(⟨x7.node_, x18, x19, x7.to_⟩ : S_groups_job), (⟨x9.A, (0 : Int), x7.from_, x19⟩ : S_groups_job)] : List S_groups_job)).length)), (2, .func (.func 43) [] [.ptr (some (bp2_10, 0))])] H fun fr H => at_nil ?_
    replace A := A.k5 0 1 4 5 6
    exact nx hm ⟨_, _, _, rfl, _, tl7, hl1, H.ls, A⟩
   refine aw_sk ?_
   replace A := A.k5 2 3 4 5 6
   exact nx hm ⟨_, _, _, rfl, _, tl3, hl1, H.ls, A⟩
  refine aw_exit (i := 0) (by kernel_rfl) ?_
  exact nr hm fun e => .inl ⟨_, _, _, rfl, e, _, tl1, hl1, H.ls, A⟩
 clear ho
 clear A
 intro e fr h20 hQ
 rcases hQ with ⟨x4, x5, x6, rfl, rfl, r2, tl2, hl2, H, A⟩ | hF
 ·obtain ⟨rfl, rfl, rfl⟩ := injC hm
  refine ⟨.inr rfl, .tuple [], rH H, ?_⟩
  exact ⟨r2, tl2, hl2, rfl, A⟩
 exact hF.elim
def M_groups_Spans (p0 : S_tree_Tree) (p1 : List UInt8) (p2 : Int) (p3 : Int) : Option ((List S_groups_Span) × Bool) :=
 (M_tree_Tree_Right p0).bind fun x1 => iteB ((((!x1) || (decide (p2 < 0))) || (decide (p3 < p2))) || (decide (p3 > (p1.length : Int)))) (some (([] : List S_groups_Span), false)) ((M_groups_ender_ends (⟨p0, p1, ([] : List (S_groups_spot × (List Bool)))⟩ : S_groups_ender) p0.Root (0 : Int) p2).bind fun (x2, x3) => (ixV x2 p3).bind fun x4 => iteB (!x4) (some (([] : List S_groups_Span), false)) ((M_tree_Tree_Groups p0).bind fun x5 => need (mkN 24 (IntKind.i64.wrap (x5 + 1))) <| (ixV (List.replicate (IntKind.i64.wrap (x5 + 1)).toNat (⟨(0 : Int), (0 : Int), false⟩ : S_groups_Span)) (0 : Int)).bind fun x6 => (M_groups_ender_make_sPOFPO (⟨p0, p1, x3⟩ : S_groups_ender) ([(⟨p0.Root, (0 : Int), p2, p3⟩ : S_groups_job)] : List S_groups_job) ((List.replicate (IntKind.i64.wrap (x5 + 1)).toNat (⟨(0 : Int), (0 : Int), false⟩ : S_groups_Span)).set (0 : Int).toNat (⟨p2, p3, true⟩ : S_groups_Span))).bind fun (x7, x8, x9) => some (x9, true)))
theorem ok_groups_Spans {p0 p1 p2 p3 q0 q1} (hm : M_groups_Spans p0 p1 p2 p3 = some (q0, q1)) (A : HH g h [] F) (hc : canL (cfg.still 12) av = [.agg (e_S_tree_Tree p0), .str p1, Ai p2, Ai p3] := by kernel_rfl) : ∃ v h', Runs cfg g h 12 av v h' ∧ ∃ (rq0 : Option Nat), v = .tuple [rowV rq0 q0.length, .bool q1] ∧ HH g h' [.lst rq0 32 (lst e_S_groups_Span q0)] F := by
 refine rq1 63 [.tmp 8, .tmp 9] hc ?_
 clear hc
 unfold M_groups_Spans at hm
 refine bg 63 [(0, .agg (e_S_tree_Tree p0)), (1, .str p1), (2, Ai p2), (3, Ai p3)] fun fr H => ?_
 refine aw_sr 3 ?_
 obtain ⟨h1, e1, A⟩ := A.pu (.cells none 2 (e_S_tree_Tree p0))
 refine at_ln 4 (.ptr (some (h.size, 0))) e1 H fun fr t H => ?_
 refine at_L 2 [] H fun fr H => aw_sq (aw_sr 18 (at_l1 12 _ _ H (fun fr => .of (s_ldA (by kernel_rfl) (A.ldA 0 rfl (o := 0) (n := 2) ⟨Nat.le_of_ble_eq_true rfl, rfl⟩))) fun fr t H => ?_))
 obtain ⟨x1, hx, hm⟩ := bind_some hm
 obtain ⟨v1, h2, hr, rfl, A1⟩ := ok_tree_Tree_Right (av := [.agg (e_S_tree_Tree p0)]) hx (A.cut 0)
 replace A : HH g h2 [.obj h.size (.cells none 2 (e_S_tree_Tree p0))] F := A.glue0 (n := 0) A1
 refine at_lc1 13 hr H fun fr t H => ?_
 refine at_sl 2 [(15, .bool (!x1))] H fun fr H => at_cl 3 (fun fr' h' => h2 = h' ∧ Has fr' 63 [(1, .str p1), (2, Ai p2), (3, Ai p3), (4, .ptr (some (h.size, 0))), (18, .bool ((!x1) || (decide (p2 < 0))))]) ?_ ?_
 ·cases hb : (!x1 : Bool) with
  | true =>
   replace H := H.kn 15 hb
   exact at_sl 3 [(18, .bool true)] H fun fr H => at_zb H hb
  | false =>
   replace H := H.kn 15 hb
   exact at_sl 3 [(18, .bool (decide (p2 < 0)))] H fun fr H => at_zb H hb
 intro t fr h' hK
 obtain ⟨e, H⟩ := hK
 subst e
 refine at_sl 1 [(19, .bool ((!x1) || (decide (p2 < 0))))] H fun fr H => at_cl 4 (fun fr' h' => h2 = h' ∧ Has fr' 63 [(1, .str p1), (2, Ai p2), (3, Ai p3), (4, .ptr (some (h.size, 0))), (23, .bool (((!x1) || (decide (p2 < 0))) || (decide (p3 < p2))))]) ?_ ?_
 ·cases hb : ((!x1) || (decide (p2 < 0)) : Bool) with
  | true =>
   replace H := H.kn 19 hb
   exact at_sl 4 [(23, .bool true)] H fun fr H => at_zb H hb
  | false =>
   replace H := H.kn 19 hb
   exact at_sl 4 [(23, .bool (decide (p3 < p2)))] H fun fr H => at_zb H hb
 intro t fr h' hK
 obtain ⟨e, H⟩ := hK
 subst e
 refine at_sl 1 [(24, .bool (((!x1) || (decide (p2 < 0))) || (decide (p3 < p2))))] H fun fr H => at_cl 5 (fun fr' h' => h2 = h' ∧ Has fr' 63 [(1, .str p1), (2, Ai p2), (3, Ai p3), (4, .ptr (some (h.size, 0))), (29, .bool ((((!x1) || (decide (p2 < 0))) || (decide (p3 < p2))) || (decide (p3 > (p1.length : Int)))))]) ?_ ?_
 ·cases hb : (((!x1) || (decide (p2 < 0))) || (decide (p3 < p2)) : Bool) with
  | true =>
   replace H := H.kn 24 hb
   exact at_sl 5 [(29, .bool true)] H fun fr H => at_zb H hb
  | false =>
   replace H := H.kn 24 hb
   exact at_sl 5 [(29, .bool (decide (p3 > (p1.length : Int))))] H fun fr H => at_zb H hb
 intro t fr h' hK
 obtain ⟨e, H⟩ := hK
 subst e
 refine at_nl id (aw_if 29 H hm (fun hb hm H => ?_) fun hb hm H => ?_)
 ·refine aw_sr 2 (at_L 2 [(8, .slice none 0), (9, .bool false)] H fun fr H => aw_rt ?_)
  obtain ⟨rfl, rfl⟩ := injB hm
  refine ⟨.inl rfl, .tuple [.slice none 0, .bool false], rH H, ?_⟩
  replace A : HH g h2 [.lst none 32 (lst e_S_groups_Span ([] : List S_groups_Span)), _] F := A.nilL 32
  replace A := A.d1
  exact ⟨none, rfl, A⟩
 refine aw_ks 6 id (at_l1 30 _ _ H (fun fr => .of (s_ldA (by kernel_rfl) (A.ldA 0 rfl (o := 0) (n := 2) ⟨Nat.le_of_ble_eq_true rfl, rfl⟩))) fun fr t H => ?_)
 refine at_sl 1 [(31, .str p1)] H fun fr H => ?_
 obtain ⟨h3, e2⟩ : ∃ x, x = h2.push (.map 2 []) := ⟨_, rfl⟩
 replace A : HH g h3 [.obj h2.size (.map 2 (encM (fun k : S_groups_spot => .agg (e_S_groups_spot k)) (fun v : List Bool => vs eB v) ([] : List (S_groups_spot × (List Bool))))), _] F := (A.push _).to e2
 refine at_ln 32 (.map (some h2.size)) e2 H fun fr t H => ?_
 obtain ⟨h4, e3, A⟩ := A.pu (.cells none 2 [vs e_S_tree_Node p0.Nodes, Ai p0.Root, .str p1, .map (some h2.size)])
 refine at_gn 1 [] 34 (.ptr (some (h3.size, 0))) e3 H fun fr t H => ?_
 refine at_L 1 [(10, .ptr (some (h3.size, 0)))] H fun fr H => aw_sq (aw_sr 9 (at_gl 2 [(35, .ptr (some (h3.size, 0)))] 37 2 1 A H fun fr t H => ?_))
 obtain ⟨⟨x2, x3⟩, hx, hm⟩ := bind_some hm
 obtain ⟨v1, h5, hr, rfl, A1⟩ := ok_groups_ender_ends (av := [.ptr (some (h3.size, 0)), Ai p0.Root, Ai 0, Ai p2]) hx (A.cut 2)
 replace A := A.g22 A1
 refine at_gc1 1 [] 39 hr H fun fr t H => ?_
 obtain ⟨x4, hx, hm⟩ := bind_some hm
 refine at_g1 1 [] 41 (.vptr [.bool x4]) h5 H (fun fr => .of (s_ixV (e := eB) (x := x4) encB (by decide) (by kernel_rfl) hx)) fun fr t H => ?_
 refine at_l1 42 (.bool x4) h5 H (fun fr => .of (s_lv (by kernel_rfl))) fun fr t H => ?_
 refine at_L 1 [(43, .bool (!x4))] H fun fr H => aw_if 43 H hm (fun hb hm H => ?_) fun hb hm H => ?_
 ·refine aw_sr 2 (at_L 2 [(8, .slice none 0), (9, .bool false)] H fun fr H => aw_rt ?_)
  obtain ⟨rfl, rfl⟩ := injB hm
  refine ⟨.inl rfl, .tuple [.slice none 0, .bool false], rH H, ?_⟩
  replace A : HH g h5 [.lst none 32 (lst e_S_groups_Span ([] : List S_groups_Span)), _, _, _] F := A.nilL 32
  replace A := A.d1
  exact ⟨none, rfl, A⟩
 refine aw_ks 6 id (at_l1 44 _ _ H (fun fr => .of (s_ldA (by kernel_rfl) (A.ldA 2 rfl (o := 0) (n := 2) ⟨Nat.le_of_ble_eq_true rfl, rfl⟩))) fun fr t H => ?_)
 obtain ⟨x5, hx, hm⟩ := bind_some hm
 obtain ⟨v1, h6, hr, rfl, A1⟩ := ok_tree_Tree_Groups (av := [.agg (e_S_tree_Tree p0)]) hx (A.cut 0)
 replace A := A.g00 A1
 refine at_lc1 45 hr H fun fr t H => ?_
 obtain ⟨hb, hm⟩ := need_some hm
 obtain ⟨h7, e4, A⟩ := A.pL 32 (lst e_S_groups_Span (List.replicate (IntKind.i64.wrap (x5 + 1)).toNat (⟨(0 : Int), (0 : Int), false⟩ : S_groups_Span)))
 refine at_g1 1 [] 47 (rowV (some h6.size) (List.replicate (IntKind.i64.wrap (x5 + 1)).toNat (⟨(0 : Int), (0 : Int), false⟩ : S_groups_Span)).length) h7 H (fun fr => .of (s_mkO (e := e_S_groups_Span) enc_S_groups_Span (x := (⟨(0 : Int), (0 : Int), false⟩ : S_groups_Span)) (by kernel_rfl) hb (congrArg some e4.symm))) fun fr t H => ?_
 obtain ⟨h8, e5, A⟩ := A.pu (.cells none 2 [.slice none 0])
 refine at_ln 11 (.ptr (some (h7.size, 0))) e5 H fun fr t H => ?_
 obtain ⟨h9, hx, A1⟩ := A.st 0 rfl (o := 0) (new := [rowV (some h6.size) ((List.replicate (IntKind.i64.wrap (x5 + 1)).toNat (⟨(0 : Int), (0 : Int), false⟩ : S_groups_Span)).length)]) (ds := [rowV (some h6.size) ((List.replicate (IntKind.i64.wrap (x5 + 1)).toNat (⟨(0 : Int), (0 : Int), false⟩ : S_groups_Span)).length)]) (Nat.le_of_ble_eq_true rfl) rfl rfl
 replace A : HH g h9 [.obj h7.size (.cells none 2 [rowV (some h6.size) ((List.replicate (IntKind.i64.wrap (x5 + 1)).toNat (⟨(0 : Int), (0 : Int), false⟩ : S_groups_Span)).length)]), .lst (some h6.size) 32 (lst e_S_groups_Span (List.replicate (IntKind.i64.wrap (x5 + 1)).toNat (⟨(0 : Int), (0 : Int), false⟩ : S_groups_Span))), _, _, _] F := A1
 refine at_ls hx H fun fr t H => ?_
 refine at_ns 6 id (at_ll 48 0 0 A H fun fr t H => ?_)
 obtain ⟨x6, hx, hm⟩ := bind_some hm
 obtain ⟨i1, er1, _, hx, hq1⟩ := HH.ixO enc_S_groups_Span (by decide) A 1 (xs := (List.replicate (IntKind.i64.wrap (x5 + 1)).toNat (⟨(0 : Int), (0 : Int), false⟩ : S_groups_Span))) rfl hx
 refine at_g1 3 [(51, .agg [Ai p2, Ai p3, .bool true])] 52 (.ptr (some (i1, (0 : Int).toNat * 3))) h9 H (fun fr => .of (s_ixL (s := rowS (some h6.size) ((List.replicate (IntKind.i64.wrap (x5 + 1)).toNat (⟨(0 : Int), (0 : Int), false⟩ : S_groups_Span)).length)) (by kernel_rfl) hx)) fun fr t H => ?_
 obtain ⟨h10, hx, A1⟩ := HH.stO enc_S_groups_Span A 1 rfl er1 hq1 (y := (⟨p2, p3, true⟩ : S_groups_Span)) (o := 0) (new := [Ai p2, Ai p3, .bool true]) rfl rfl (Nat.le_of_ble_eq_true rfl)
 have hl1 : ((List.replicate (IntKind.i64.wrap (x5 + 1)).toNat (⟨(0 : Int), (0 : Int), false⟩ : S_groups_Span)).set (0 : Int).toNat (⟨p2, p3, true⟩ : S_groups_Span)).length = (List.replicate (IntKind.i64.wrap (x5 + 1)).toNat (⟨(0 : Int), (0 : Int), false⟩ : S_groups_Span)).length := List.length_set
 have el : rowV (some h6.size) (List.replicate (IntKind.i64.wrap (x5 + 1)).toNat (⟨(0 : Int), (0 : Int), false⟩ : S_groups_Span)).length = rowV (some h6.size) ((List.replicate (IntKind.i64.wrap (x5 + 1)).toNat (⟨(0 : Int), (0 : Int), false⟩ : S_groups_Span)).set (0 : Int).toNat (⟨p2, p3, true⟩ : S_groups_Span)).length := congrArg _ List.length_set.symm
 try rw [el] at H
 try rw [el] at A1
 replace A : HH g h10 [.obj h7.size (.cells none 2 [rowV (some h6.size) (((List.replicate (IntKind.i64.wrap (x5 + 1)).toNat (⟨(0 : Int), (0 : Int), false⟩ : S_groups_Span)).set (0 : Int).toNat (⟨p2, p3, true⟩ : S_groups_Span)).length)]), .lst (some h6.size) 32 (lst e_S_groups_Span ((List.replicate (IntKind.i64.wrap (x5 + 1)).toNat (⟨(0 : Int), (0 : Int), false⟩ : S_groups_Span)).set (0 : Int).toNat (⟨p2, p3, true⟩ : S_groups_Span))), _, _, _] F := A1
 refine at_lS hx H fun fr t H => ?_
 refine at_ns 9 id (at_gl 2 [(53, .ptr (some (h3.size, 0)))] 55 4 1 A H fun fr t H => ?_)
 refine at_sl 3 [(58, .agg [Ai p0.Root, Ai 0, Ai p2, Ai p3])] H fun fr H => ?_
 obtain ⟨h11, e6, A⟩ := A.pL 91 [Ai p0.Root, Ai 0, Ai p2, Ai p3]
 refine at_ln 59 (rowV (some h10.size) (([(⟨p0.Root, (0 : Int), p2, p3⟩ : S_groups_job)] : List S_groups_job).length)) e6 H fun fr t H => ?_
 replace A : HH g h11 [.lst (some h10.size) 91 (lst e_S_groups_job ([(⟨p0.Root, (0 : Int), p2, p3⟩ : S_groups_job)] : List S_groups_job)), _, _, _, _, _] F := A
 replace A := A.k6 3 4 0 1 2 5
 obtain ⟨⟨x7, x8, x9⟩, hx, hm⟩ := bind_some hm
 obtain ⟨v1, h12, hr, r1, tl1, hl2, rfl, A1⟩ := ok_groups_ender_make_sPOFPO (av := [.ptr (some (h3.size, 0)), rowV (some h10.size) (([(⟨p0.Root, (0 : Int), p2, p3⟩ : S_groups_job)] : List S_groups_job).length), .func (.func 43) [] [.ptr (some (h7.size, 0))]]) hx (A.cut 5)
 have hl3 : x9.length = (List.replicate (IntKind.i64.wrap (x5 + 1)).toNat (⟨(0 : Int), (0 : Int), false⟩ : S_groups_Span)).length := hl2.trans hl1
 have el : rowV (some h6.size) ((List.replicate (IntKind.i64.wrap (x5 + 1)).toNat (⟨(0 : Int), (0 : Int), false⟩ : S_groups_Span)).set (0 : Int).toNat (⟨p2, p3, true⟩ : S_groups_Span)).length = rowV (some h6.size) x9.length := congrArg _ hl2.symm
 try rw [el] at H
 try rw [el] at hr
 try rw [el] at A1
 replace A : HH g h12 [.obj h3.size (.cells none 2 [_, _, _, _]), .obj h2.size (.map 2 (encM (fun k : S_groups_spot => .agg (e_S_groups_spot k)) (fun v : List Bool => vs eB v) x7)), .lst r1 91 (lst e_S_groups_job (x8 ++ tl1)), .obj h7.size (.cells none 2 [rowV (some h6.size) x9.length]), .lst (some h6.size) 32 (lst e_S_groups_Span x9), _] F := A.glue0 (n := 5) A1
 refine at_gc0 1 [] hr H fun fr t H => ?_
 refine at_ns 3 id (at_ll 62 3 0 A H fun fr t H => ?_)
 refine at_L 2 [(8, rowV (some h6.size) x9.length), (9, .bool true)] H fun fr H => aw_rt ?_
 obtain ⟨rfl, rfl⟩ := injB hm
 refine ⟨.inl rfl, .tuple [rowV (some h6.size) x9.length, .bool true], rH H, ?_⟩
 replace A := A.k1 4
 exact ⟨some h6.size, rfl, A⟩
def M_boulterlaw22_awake : Option (Bool) :=
 (M_rex_Parse ([92, 40, 97, 42, 92, 41, 92, 40, 97, 98, 92, 41, 42] : List UInt8) false).bind fun (x1, x2, x3) => (M_groups_Spans x1 ([97, 97, 98] : List UInt8) (0 : Int) (3 : Int)).bind fun (x4, x5) => (iteB (((x3 == 0) && x5) && ((x4.length : Int) == 3)) ((ixV x4 (1 : Int)).bind fun x7 => (eqG cfg.P 32 (e_S_groups_Span x7) [Ai 0, Ai 1, .bool true]).bind fun x8 => some x8) (some false) : Option (Bool)).bind fun x6 => (iteB x6 ((ixV x4 (2 : Int)).bind fun x10 => (eqG cfg.P 32 (e_S_groups_Span x10) [Ai 1, Ai 3, .bool true]).bind fun x11 => some x11) (some false) : Option (Bool)).bind fun x9 => some x9
theorem ok_boulterlaw22_awake {q0} (hm : M_boulterlaw22_awake = some q0) (A : HH g h [] F) (hc : canL (cfg.still 10) av = [] := by kernel_rfl) : ∃ v h', Runs cfg g h 10 av v h' ∧ v = .bool q0 ∧ HH g h' [] F := by
 refine rq1 40 [.tmp 0] hc ?_
 clear hc
 unfold M_boulterlaw22_awake at hm
 refine bg 40 [] fun fr H => ?_
 refine aw_sr 1 (at_S 1 [] 9 H fun fr H => ?_)
 obtain ⟨⟨x1, x2, x3⟩, hx, hm⟩ := bind_some hm
 obtain ⟨v1, h1, hr, rfl, A1⟩ := ok_rex_Parse (av := [.str ([92, 40, 97, 42, 92, 41, 92, 40, 97, 98, 92, 41, 42] : List UInt8), .bool false]) hx (A.cut 0)
 replace A := A.g00 A1
 refine at_lc1 7 hr H fun fr t H => ?_
 obtain ⟨h2, e1, A⟩ := A.pu (.cells none 2 [.slice none 0, Ai 0])
 refine at_gn 4 [(8, .agg (e_S_tree_Tree x1)), (9, Ai x2), (10, Ai x3)] 1 (.ptr (some (h1.size, 0))) e1 H fun fr t H => ?_
 obtain ⟨h3, hx, A⟩ := A.s0 0 (e_S_tree_Tree x1) [_, _]
 refine at_lS hx H fun fr t H => ?_
 refine at_S 2 [(3, Ai x3)] 7 H fun fr H => at_l1 12 _ _ H (fun fr => .of (s_ldA (by kernel_rfl) (A.ldA 0 rfl (o := 0) (n := 2) ⟨Nat.le_of_ble_eq_true rfl, rfl⟩))) fun fr t H => ?_
 obtain ⟨⟨x4, x5⟩, hx, hm⟩ := bind_some hm
 obtain ⟨v1, h4, hr, rqw4, rfl, A1⟩ := ok_groups_Spans (av := [.agg (e_S_tree_Tree x1), .str ([97, 97, 98] : List UInt8), Ai 0, Ai 3]) hx (A.cut 0)
 replace A := A.g01 A1
 refine at_lc1 13 hr H fun fr t H => ?_
 refine at_S 5 [(4, rowV rqw4 x4.length), (5, .bool x5)] 25 H fun fr H => at_sl 3 [(18, .bool (x3 == 0))] H fun fr H => at_cl 2 (fun fr' h' => h4 = h' ∧ Has fr' 40 [(4, rowV rqw4 x4.length), (20, .bool ((x3 == 0) && x5))]) ?_ ?_
 ·cases hb : (x3 == 0 : Bool) with
  | true =>
   replace H := H.kn 18 hb
   exact at_sl 2 [(20, .bool x5)] H fun fr H => at_zb H hb
  | false =>
   replace H := H.kn 18 hb
   exact at_sl 2 [(20, .bool false)] H fun fr H => at_zb H hb
 intro t fr h' hK
 obtain ⟨e, H⟩ := hK
 subst e
 refine at_sl 1 [(21, .bool ((x3 == 0) && x5))] H fun fr H => at_cl 4 (fun fr' h' => h4 = h' ∧ Has fr' 40 [(4, rowV rqw4 x4.length), (25, .bool (((x3 == 0) && x5) && ((x4.length : Int) == 3)))]) ?_ ?_
 ·cases hb : ((x3 == 0) && x5 : Bool) with
  | true =>
   replace H := H.kn 21 hb
   exact at_sl 4 [(25, .bool ((x4.length : Int) == 3))] H fun fr H => at_zb H hb
  | false =>
   replace H := H.kn 21 hb
   exact at_sl 4 [(25, .bool false)] H fun fr H => at_zb H hb
 intro t fr h' hK
 obtain ⟨e, H⟩ := hK
 subst e
 refine at_sl 1 [(26, .bool (((x3 == 0) && x5) && ((x4.length : Int) == 3)))] H fun fr H => ?_
 obtain ⟨x6, ho, hm⟩ := bind_some hm
 refine at_cl 6 (fun fr' h' => Has fr' 40 [(4, rowV rqw4 x4.length), (32, .bool x6)] ∧ HH g h' [.lst rqw4 32 (lst e_S_groups_Span x4), .obj h1.size (.cells none 2 (e_S_tree_Tree x1))] F) ?_ ?_
 ·rcases iteB_some ho with ⟨hb, hm⟩ | ⟨hb, hm⟩
  ·replace H := H.kn 26 hb
   obtain ⟨x7, hx, hm⟩ := bind_some hm
   obtain ⟨i1, er1, _, hx, hq1⟩ := HH.ixO enc_S_groups_Span (by decide) A 0 (xs := x4) rfl hx
   refine at_g1 1 [] 28 (.ptr (some (i1, (1 : Int).toNat * 3))) h4 H (fun fr => .of (s_ixL (s := rowS rqw4 x4.length) (by kernel_rfl) hx)) fun fr t H => ?_
   refine at_l1 29 _ _ H (fun fr => .of (s_ldA (by kernel_rfl) (row_ldA enc_S_groups_Span (HH.row A 0 rfl er1) hq1 0 3 (Nat.le_of_ble_eq_true rfl)))) fun fr t H => ?_
   refine at_sl 1 [(30, .agg [Ai 0, Ai 1, .bool true])] H fun fr H => ?_
   obtain ⟨x8, hx, hm⟩ := bind_some hm
   refine at_l1 31 (.bool x8) h4 H (fun fr => .of (s_eqG (by kernel_rfl) hx)) fun fr t H => ?_
   refine at_sl 1 [(32, .bool x8)] H fun fr H => ?_
   obtain rfl := injA hm
   exact at_nil ⟨H.ls, A⟩
  replace H := H.kn 26 hb
  refine at_sl 6 [(32, .bool false)] H fun fr H => ?_
  obtain rfl := injA hm
  exact at_nil ⟨H.ls, A⟩
 clear A
 intro t fr h5 hK
 obtain ⟨H, A⟩ := hK
 refine at_sl 1 [(33, .bool x6)] H fun fr H => ?_
 obtain ⟨x9, ho, hm⟩ := bind_some hm
 refine at_cl 6 (fun fr' h' => Has fr' 40 [(39, .bool x9)] ∧ HH g h' [.obj h1.size (.cells none 2 (e_S_tree_Tree x1))] F) ?_ ?_
 ·rcases iteB_some ho with ⟨hb, hm⟩ | ⟨hb, hm⟩
  ·replace H := H.kn 33 hb
   obtain ⟨x10, hx, hm⟩ := bind_some hm
   obtain ⟨i2, er2, _, hx, hq2⟩ := HH.ixO enc_S_groups_Span (by decide) A 0 (xs := x4) rfl hx
   refine at_g1 1 [] 35 (.ptr (some (i2, (2 : Int).toNat * 3))) h5 H (fun fr => .of (s_ixL (s := rowS rqw4 x4.length) (by kernel_rfl) hx)) fun fr t H => ?_
   refine at_l1 36 _ _ H (fun fr => .of (s_ldA (by kernel_rfl) (row_ldA enc_S_groups_Span (HH.row A 0 rfl er2) hq2 0 3 (Nat.le_of_ble_eq_true rfl)))) fun fr t H => ?_
   refine at_sl 1 [(37, .agg [Ai 1, Ai 3, .bool true])] H fun fr H => ?_
   obtain ⟨x11, hx, hm⟩ := bind_some hm
   refine at_l1 38 (.bool x11) h5 H (fun fr => .of (s_eqG (by kernel_rfl) hx)) fun fr t H => ?_
   refine at_sl 1 [(39, .bool x11)] H fun fr H => ?_
   obtain rfl := injA hm
   replace A := A.k1 1
   exact at_nil ⟨H.ls, A⟩
  replace H := H.kn 33 hb
  refine at_sl 6 [(39, .bool false)] H fun fr H => ?_
  obtain rfl := injA hm
  replace A := A.k1 1
  exact at_nil ⟨H.ls, A⟩
 clear A
 intro t fr h6 hK
 obtain ⟨H, A⟩ := hK
 refine at_L 1 [(0, .bool x9)] H fun fr H => aw_rt ?_
 obtain rfl := injA hm
 refine ⟨.inl rfl, .bool x9, rH H, ?_⟩
 replace A := A.d0
 exact ⟨rfl, A⟩
def M_boulterlaw22_GroupsRow_L0 (p0 : List UInt8) (s : (List UInt8) × Int) : Option (((List UInt8) × Int) ⊕ (((List UInt8)))) :=
 match s with
 | (x2, x3) => iteB (decide (x3 < (p0.length : Int))) ((ixS p0 x3).bind fun x5 => (toY (IntKind.u8.wrap ((97 : Int) + (Int.tmod x5 (2 : Int))))).bind fun x6 => need (decide (([40, 91] : List UInt8).length + ([x6, (99 : UInt8)] : List UInt8).length ≤ 9223372036854775807)) <| need (decide ((([40, 91] : List UInt8) ++ ([x6, (99 : UInt8)] : List UInt8)).length + ([93, 42, 41] : List UInt8).length ≤ 9223372036854775807)) <| need (decide (x2.length + ((([40, 91] : List UInt8) ++ ([x6, (99 : UInt8)] : List UInt8)) ++ ([93, 42, 41] : List UInt8)).length ≤ 9223372036854775807)) <| some (.inl (x2 ++ ((([40, 91] : List UInt8) ++ ([x6, (99 : UInt8)] : List UInt8)) ++ ([93, 42, 41] : List UInt8)), IntKind.i64.wrap (x3 + 1)))) (some (.inr x2))
def M_boulterlaw22_GroupsRow_L2 (p0 : List UInt8) (p1 : List UInt8) (x12 : Int) (s : Int) : Option ((Int) ⊕ ((Int))) :=
 match s with
 | x15 => (iteB (decide (x15 < (p1.length : Int))) ((ixS p1 x15).bind fun x18 => (ixS p0 x12).bind fun x19 => (iteB (x18 == (IntKind.u8.wrap ((97 : Int) + (Int.tmod x19 (2 : Int))))) (some true) ((ixS p1 x15).bind fun x21 => some (x21 == 99)) : Option (Bool)).bind fun x20 => some x20) (some false) : Option (Bool)).bind fun x17 => iteB x17 (some (.inl (IntKind.i64.wrap (x15 + 1)))) (some (.inr x15))
def M_boulterlaw22_GroupsRow_L1 (p0 : List UInt8) (p1 : List UInt8) (s : (List S_groups_Span) × Int × Int) : Option (((List S_groups_Span) × Int × Int) ⊕ (((List S_groups_Span) × Int))) :=
 match s with
 | (x10, x11, x12) => iteB (decide (x12 < (p0.length : Int))) ((loop (M_boulterlaw22_GroupsRow_L2 p0 p1 x12) x11).bind fun x16 => need (okN 24 (x10.length + ([(⟨x11, x16, true⟩ : S_groups_Span)] : List S_groups_Span).length)) <| some (.inl ((x10 ++ ([(⟨x11, x16, true⟩ : S_groups_Span)] : List S_groups_Span)), x16, IntKind.i64.wrap (x12 + 1)))) (some (.inr (x10, x11)))
def M_boulterlaw22_GroupsRow_L3 (x13 : List S_groups_Span) (x23 : List S_groups_Span) (s : Int) : Option ((Int) ⊕ ((Unit) ⊕ (Bool))) :=
 match s with
 | x25 => iteB (decide (x25 < (x13.length : Int))) ((ixV x13 x25).bind fun x27 => (ixV x23 (IntKind.i64.wrap (x25 + 1))).bind fun x28 => (eqG cfg.P 32 (e_S_groups_Span x28) (e_S_groups_Span x27)).bind fun x29 => iteB (!x29) (some (.inr (.inr false))) (some (.inl (IntKind.i64.wrap (x25 + 1))))) (some (.inr (.inl ())))
def M_boulterlaw22_GroupsRow (p0 : List UInt8) (p1 : List UInt8) : Option (Bool) :=
 iteB ((decide ((p0.length : Int) > 6)) || (decide ((p1.length : Int) > 30))) ((M_boulterlaw22_awake).bind fun x1 => some x1) ((loop (M_boulterlaw22_GroupsRow_L0 p0) (([] : List UInt8), (0 : Int))).bind fun x4 => (M_rex_Parse x4 true).bind fun (x7, x8, x9) => iteB (x9 != 0) (some false) ((loop (M_boulterlaw22_GroupsRow_L1 p0 p1) (([] : List S_groups_Span), (0 : Int), (0 : Int))).bind fun (x13, x14) => iteB (x14 != (p1.length : Int)) ((M_boulterlaw22_awake).bind fun x22 => some x22) ((M_groups_Spans x7 p1 (0 : Int) (p1.length : Int)).bind fun (x23, x24) => iteB ((!x24) || ((x23.length : Int) != (IntKind.i64.wrap ((p0.length : Int) + 1)))) (some false) ((loop (M_boulterlaw22_GroupsRow_L3 x13 x23) (0 : Int)).bind fun o4 => (match o4 with | .inl _ => (M_boulterlaw22_awake).bind fun x30 => some x30 | .inr x26 => some x26)))))
theorem ok_boulterlaw22_GroupsRow {p0 p1 q0} (hm : M_boulterlaw22_GroupsRow p0 p1 = some q0) (A : HH g h [] F) (hc : canL (cfg.still 3) av = [.str p0, .str p1] := by kernel_rfl) : ∃ v h', Runs cfg g h 3 av v h' ∧ v = .bool q0 ∧ HH g h' [] F := by
 refine rq1 127 [.tmp 4] hc ?_
 clear hc
 unfold M_boulterlaw22_GroupsRow at hm
 refine bg 127 [(0, .str p0), (1, .str p1)] fun fr H => ?_
 refine aw_sr 1 (at_L 1 [] H fun fr H => aw_sq (aw_sr 8 (at_sl 4 [(21, .bool (decide ((p0.length : Int) > 6)))] H fun fr H => at_cl 4 (fun fr' h' => h = h' ∧ Has fr' 127 [(0, .str p0), (1, .str p1), (25, .bool ((decide ((p0.length : Int) > 6)) || (decide ((p1.length : Int) > 30))))]) ?_ ?_)))
 ·cases hb : (decide ((p0.length : Int) > 6) : Bool) with
  | true =>
   replace H := H.kn 21 hb
   exact at_sl 4 [(25, .bool true)] H fun fr H => at_zb H hb
  | false =>
   replace H := H.kn 21 hb
   exact at_sl 4 [(25, .bool (decide ((p1.length : Int) > 30)))] H fun fr H => at_zb H hb
 intro t fr h' hK
 obtain ⟨e, H⟩ := hK
 subst e
 refine at_nl id (aw_if 25 H hm (fun hb hm H => ?_) fun hb hm H => ?_)
 ·refine aw_sr 2 ?_
  obtain ⟨x1, hx, hm⟩ := bind_some hm
  obtain ⟨v1, h1, hr, rfl, A1⟩ := ok_boulterlaw22_awake (av := []) hx (A.cut 0)
  replace A := A.g00 A1
  refine at_lc1 26 hr H fun fr t H => ?_
  refine at_L 1 [(4, .bool x1)] H fun fr H => aw_rt ?_
  obtain rfl := injA hm
  exact ⟨.inl rfl, _, rH H, rfl, A⟩
 refine aw_ks 1 id (at_L 1 [(5, .str ([] : List UInt8))] H fun fr H => aw_sq (aw_sr 1 (at_L 1 [(6, Ai 0)] H fun fr H => aw_block (id := 0) (by kernel_rfl) ?_)))
 obtain ⟨o1, ho, hm⟩ := bind_some hm
 refine aw_mono (Q' := fun e fr' h' => (∃ x4, e = .exit 0 ∧ x4 = o1 ∧ Has fr' 127 [(0, .str p0), (1, .str p1), (5, .str x4)] ∧ HH g h' [] F) ∨ False) ?_ ?_
 ·refine aw_loop (by kernel_rfl) (fun (s : (List UInt8) × Int) fr' h' => ∃ x2 x3, (x2, x3) = s ∧ Has fr' 127 [(0, .str p0), (1, .str p1), (5, .str x2), (6, Ai x3)] ∧ HH g h' [] F) ho ⟨_, _, rfl, H.ls, A⟩ ?_
  clear ho hm H A
  intro s q fr h2 hI hm
  obtain ⟨x2, x3, rfl, H, A⟩ := hI
  unfold M_boulterlaw22_GroupsRow_L0 at hm
  refine aw_sq (aw_sr 4 (at_L 4 [(30, .bool (decide (x3 < (p0.length : Int))))] H fun fr H => aw_if 30 H hm (fun hb hm H => ?_) fun hb hm H => ?_))
  ·refine aw_kn id (aw_sq (aw_block (id := 1) (by kernel_rfl) ?_))
   refine aw_rg 12 ?_
   obtain ⟨x5, hx, hm⟩ := bind_some hm
   refine at_g1 3 [(33, .str x2)] 36 (Ab x5) h2 H (fun fr => .of (s_ixS (by kernel_rfl) hx)) fun fr t H => ?_
   refine at_sl 2 [(38, Ab (IntKind.u8.wrap ((97 : Int) + (Int.tmod x5 (2 : Int)))))] H fun fr H => ?_
   obtain ⟨x6, hx, hm⟩ := bind_some hm
   have hx := toY_eq hx
   rw [hx] at H
   obtain ⟨h3, e1, A⟩ := A.pL 5 [Ab (x6.toNat : Int), Ab 99]
   refine at_ln 39 (rowV (some h2.size) (([x6, (99 : UInt8)] : List UInt8).length)) e1 H fun fr t H => ?_
   refine at_l1 40 (.str ([x6, (99 : UInt8)] : List UInt8)) h3 H (fun fr => .of (s_byO (xs := ([x6, (99 : UInt8)] : List UInt8)) A 0 rfl (by kernel_rfl))) fun fr t H => ?_
   obtain ⟨hb, hm⟩ := need_some hm
   refine at_l1 41 (.str (([40, 91] : List UInt8) ++ ([x6, (99 : UInt8)] : List UInt8))) h3 H (fun fr => .of (s_cat (by kernel_rfl) hb)) fun fr t H => ?_
   obtain ⟨hb, hm⟩ := need_some hm
   refine at_l1 42 (.str ((([40, 91] : List UInt8) ++ ([x6, (99 : UInt8)] : List UInt8)) ++ ([93, 42, 41] : List UInt8))) h3 H (fun fr => .of (s_cat (by kernel_rfl) hb)) fun fr t H => ?_
   obtain ⟨hb, hm⟩ := need_some hm
   refine at_l1 43 (.str (x2 ++ ((([40, 91] : List UInt8) ++ ([x6, (99 : UInt8)] : List UInt8)) ++ ([93, 42, 41] : List UInt8)))) h3 H (fun fr => .of (s_cat (by kernel_rfl) hb)) fun fr t H => ?_
   refine at_se 1 [(0, .str p0), (1, .str p1), (5, .str (x2 ++ ((([40, 91] : List UInt8) ++ ([x6, (99 : UInt8)] : List UInt8)) ++ ([93, 42, 41] : List UInt8)))), (6, Ai x3)] H fun fr H => at_nr 3 id (at_se 3 [(0, .str p0), (1, .str p1), (5, .str (x2 ++ ((([40, 91] : List UInt8) ++ ([x6, (99 : UInt8)] : List UInt8)) ++ ([93, 42, 41] : List UInt8)))), (6, Ai (IntKind.i64.wrap (x3 + 1)))] H fun fr H => at_nil ?_)
   replace A := A.d0
   exact nx hm ⟨_, _, rfl, H.ls, A⟩
  refine aw_exit (i := 0) (by kernel_rfl) ?_
  exact nr hm fun e => .inl ⟨_, rfl, e, H.ls, A⟩
 clear ho
 clear A
 intro e fr h4 hQ
 rcases hQ with ⟨x4, rfl, rfl, H, A⟩ | hF
 ·show AW _ _ _ _ _ _ _
  refine aw_sr 10 ?_
  obtain ⟨⟨x7, x8, x9⟩, hx, hm⟩ := bind_some hm
  obtain ⟨v1, h5, hr, rfl, A1⟩ := ok_rex_Parse (av := [.str x4, .bool true]) hx (A.cut 0)
  replace A := A.g00 A1
  refine at_gc1 1 [] 46 hr H fun fr t H => ?_
  obtain ⟨h6, e2, A⟩ := A.pu (.cells none 2 [.slice none 0, Ai 0])
  refine at_gn 4 [(47, .agg (e_S_tree_Tree x7)), (48, Ai x8), (49, Ai x9)] 7 (.ptr (some (h5.size, 0))) e2 H fun fr t H => ?_
  obtain ⟨h7, hx, A⟩ := A.s0 0 (e_S_tree_Tree x7) [_, _]
  refine at_lS hx H fun fr t H => ?_
  refine at_L 2 [(9, Ai x9)] H fun fr H => aw_sq (aw_sr 2 (at_L 2 [(51, .bool (x9 != 0))] H fun fr H => aw_if 51 H hm (fun hb hm H => ?_) fun hb hm H => ?_))
  ·refine aw_sr 1 (at_L 1 [(4, .bool false)] H fun fr H => aw_rt ?_)
   obtain rfl := injA hm
   refine ⟨.inl rfl, .bool false, rH H, ?_⟩
   replace A := A.d0
   exact ⟨rfl, A⟩
  refine aw_ks 1 id (at_S 1 [(10, Ai 0)] 1 H fun fr H => at_L 1 [(11, .slice none 0)] H fun fr H => aw_sq (aw_sr 1 (at_L 1 [(12, Ai 0)] H fun fr H => aw_block (id := 2) (by kernel_rfl) ?_)))
  replace A : HH g h7 [.lst none 32 (lst e_S_groups_Span ([] : List S_groups_Span)), _] F := A.nilL 32
  obtain ⟨o2, ho, hm⟩ := bind_some hm
  refine aw_mono (Q' := fun e fr' h' => (∃ x13 x14, e = .exit 2 ∧ (x13, x14) = o2 ∧ ∃ r2, Has fr' 127 [(0, .str p0), (1, .str p1), (7, .ptr (some (h5.size, 0))), (10, Ai x14), (11, rowV r2 x13.length)] ∧ HH g h' [.lst r2 32 (lst e_S_groups_Span x13), .obj h5.size (.cells none 2 (e_S_tree_Tree x7))] F) ∨ False) ?_ ?_
  ·refine aw_loop (by kernel_rfl) (fun (s : (List S_groups_Span) × Int × Int) fr' h' => ∃ x10 x11 x12, (x10, x11, x12) = s ∧ ∃ r1, Has fr' 127 [(0, .str p0), (1, .str p1), (7, .ptr (some (h5.size, 0))), (10, Ai x11), (11, rowV r1 x10.length), (12, Ai x12)] ∧ HH g h' [.lst r1 32 (lst e_S_groups_Span x10), .obj h5.size (.cells none 2 (e_S_tree_Tree x7))] F) ho ⟨_, _, _, rfl, none, H.ls, A⟩ ?_
   clear ho hm H A
   intro s q fr h8 hI hm
   obtain ⟨x10, x11, x12, rfl, r1, H, A⟩ := hI
   unfold M_boulterlaw22_GroupsRow_L1 at hm
   refine aw_sq (aw_sr 4 (at_L 4 [(55, .bool (decide (x12 < (p0.length : Int))))] H fun fr H => aw_if 55 H hm (fun hb hm H => ?_) fun hb hm H => ?_))
   ·refine aw_kn id (aw_sq (aw_block (id := 3) (by kernel_rfl) ?_))
    refine aw_sr 2 (at_L 2 [(13, Ai x11)] H fun fr H => aw_sq (aw_block (id := 4) (by kernel_rfl) ?_))
    obtain ⟨o3, ho, hm⟩ := bind_some hm
    refine aw_mono (Q' := fun e fr' h' => (∃ x16, e = .exit 4 ∧ x16 = o3 ∧ Has fr' 127 [(0, .str p0), (1, .str p1), (7, .ptr (some (h5.size, 0))), (10, Ai x16), (11, rowV r1 x10.length), (12, Ai x12), (13, Ai x11)] ∧ HH g h' [.lst r1 32 (lst e_S_groups_Span x10), .obj h5.size (.cells none 2 (e_S_tree_Tree x7))] F) ∨ False) ?_ ?_
    ·refine aw_loop (by kernel_rfl) (fun (s : Int) fr' h' => ∃ x15, x15 = s ∧ Has fr' 127 [(0, .str p0), (1, .str p1), (7, .ptr (some (h5.size, 0))), (10, Ai x15), (11, rowV r1 x10.length), (12, Ai x12), (13, Ai x11)] ∧ HH g h' [.lst r1 32 (lst e_S_groups_Span x10), .obj h5.size (.cells none 2 (e_S_tree_Tree x7))] F) ho ⟨_, rfl, H.ls, A⟩ ?_
     clear ho hm H A
     intro s q fr h9 hI hm
     obtain ⟨x15, rfl, H, A⟩ := hI
     unfold M_boulterlaw22_GroupsRow_L2 at hm
     refine aw_sq (aw_sq (aw_dg 17 21 ?_))
     refine at_sl 5 [(63, .bool (decide (x15 < (p1.length : Int))))] H fun fr H => ?_
     obtain ⟨x17, ho, hm⟩ := bind_some hm
     refine at_cl 16 (fun fr' h' => Has fr' 127 [(0, .str p0), (1, .str p1), (7, .ptr (some (h5.size, 0))), (10, Ai x15), (11, rowV r1 x10.length), (12, Ai x12), (13, Ai x11), (79, .bool x17)] ∧ HH g h' [.lst r1 32 (lst e_S_groups_Span x10), .obj h5.size (.cells none 2 (e_S_tree_Tree x7))] F) ?_ ?_
     ·rcases iteB_some ho with ⟨hb, hm⟩ | ⟨hb, hm⟩
      ·replace H := H.kn 63 hb
       obtain ⟨x18, hx, hm⟩ := bind_some hm
       refine at_g1 2 [] 66 (Ab x18) h9 H (fun fr => .of (s_ixS (by kernel_rfl) hx)) fun fr t H => ?_
       obtain ⟨x19, hx, hm⟩ := bind_some hm
       refine at_g1 2 [] 69 (Ab x19) h9 H (fun fr => .of (s_ixS (by kernel_rfl) hx)) fun fr t H => ?_
       refine at_sl 4 [(73, .bool (x18 == (IntKind.u8.wrap ((97 : Int) + (Int.tmod x19 (2 : Int))))))] H fun fr H => ?_
       obtain ⟨x20, ho, hm⟩ := bind_some hm
       refine at_cl 5 (fun fr' h' => Has fr' 127 [(0, .str p0), (1, .str p1), (7, .ptr (some (h5.size, 0))), (10, Ai x15), (11, rowV r1 x10.length), (12, Ai x12), (13, Ai x11), (63, .bool true), (78, .bool x20)] ∧ HH g h' [.lst r1 32 (lst e_S_groups_Span x10), .obj h5.size (.cells none 2 (e_S_tree_Tree x7))] F) ?_ ?_
       ·rcases iteB_some ho with ⟨hb, hm⟩ | ⟨hb, hm⟩
        ·replace H := H.kn 73 hb
         refine at_sl 5 [(78, .bool true)] H fun fr H => ?_
         obtain rfl := injA hm
         exact at_nil ⟨H.ls, A⟩
        replace H := H.kn 73 hb
        obtain ⟨x21, hx, hm⟩ := bind_some hm
        refine at_g1 2 [] 76 (Ab x21) h9 H (fun fr => .of (s_ixS (by kernel_rfl) hx)) fun fr t H => ?_
        refine at_sl 2 [(78, .bool (x21 == 99))] H fun fr H => ?_
        obtain rfl := injA hm
        exact at_nil ⟨H.ls, A⟩
       clear A
       intro t fr h11 hK
       obtain ⟨H, A⟩ := hK
       refine at_sl 1 [(79, .bool x20)] H fun fr H => ?_
       obtain rfl := injA hm
       exact at_nil ⟨H.ls, A⟩
      replace H := H.kn 63 hb
      refine at_sl 16 [(79, .bool false)] H fun fr H => ?_
      obtain rfl := injA hm
      exact at_nil ⟨H.ls, A⟩
     clear A
     intro t fr h10 hK
     obtain ⟨H, A⟩ := hK
     refine at_nl id (aw_if 79 H hm (fun hb hm H => ?_) fun hb hm H => ?_)
     ·refine aw_kn id (aw_block (id := 5) (by kernel_rfl) ?_)
      refine aw_rg 3 (at_se 3 [(0, .str p0), (1, .str p1), (7, .ptr (some (h5.size, 0))), (10, Ai (IntKind.i64.wrap (x15 + 1))), (11, rowV r1 x10.length), (12, Ai x12), (13, Ai x11)] H fun fr H => at_nil ?_)
      exact nx hm ⟨_, rfl, H.ls, A⟩
     refine aw_exit (i := 4) (by kernel_rfl) ?_
     exact nr hm fun e => .inl ⟨_, rfl, e, H.ls, A⟩
    clear ho
    clear A
    intro e fr h12 hQ
    rcases hQ with ⟨x16, rfl, rfl, H, A⟩ | hF
    ·show AW _ _ _ _ _ _ _
     refine aw_rg 7 (at_sl 4 [(82, rowV r1 x10.length), (85, .agg [Ai x11, Ai x16, .bool true])] H fun fr H => ?_)
     obtain ⟨h13, e3, A⟩ := A.pL 32 [Ai x11, Ai x16, .bool true]
     refine at_ln 86 (rowV (some h12.size) (([(⟨x11, x16, true⟩ : S_groups_Span)] : List S_groups_Span).length)) e3 H fun fr t H => ?_
     obtain ⟨hb, hm⟩ := need_some hm
     obtain ⟨r3, h14, hx, A1⟩ := HH.appO enc_S_groups_Span (by decide) A 1 (xs := x10) (ys := ([(⟨x11, x16, true⟩ : S_groups_Span)] : List S_groups_Span)) rfl (row_first A 0 rfl (n := ([(⟨x11, x16, true⟩ : S_groups_Span)] : List S_groups_Span).length) (z := 3) rfl (by decide)) rfl rfl hb
     replace A : HH g h14 [.lst (some h12.size) 32 ([Ai x11, Ai x16, .bool true]), .lst r3 32 (lst e_S_groups_Span (x10 ++ ([(⟨x11, x16, true⟩ : S_groups_Span)] : List S_groups_Span))), _] F := A1
     replace A := A.k2 1 2
     refine at_l1 87 _ _ H (fun fr => .of (s_app (s := rowS r1 x10.length) (by kernel_rfl) hx)) fun fr t H => ?_
     refine at_se 1 [(0, .str p0), (1, .str p1), (7, .ptr (some (h5.size, 0))), (10, Ai x16), (11, rowV r3 ((x10 ++ ([(⟨x11, x16, true⟩ : S_groups_Span)] : List S_groups_Span)).length)), (12, Ai x12)] H fun fr H => at_nr 3 id (at_se 3 [(0, .str p0), (1, .str p1), (7, .ptr (some (h5.size, 0))), (10, Ai x16), (11, rowV r3 ((x10 ++ ([(⟨x11, x16, true⟩ : S_groups_Span)] : List S_groups_Span)).length)), (12, Ai (IntKind.i64.wrap (x12 + 1)))] H fun fr H => at_nil ?_)
     exact nx hm ⟨_, _, _, rfl, _, H.ls, A⟩
    exact hF.elim
   refine aw_exit (i := 2) (by kernel_rfl) ?_
   exact nr hm fun e => .inl ⟨_, _, rfl, e, _, H.ls, A⟩
  clear ho
  clear A
  intro e fr h15 hQ
  rcases hQ with ⟨x13, x14, rfl, rfl, r2, H, A⟩ | hF
  ·show AW _ _ _ _ _ _ _
   refine aw_sq (aw_sr 4 (at_L 4 [(91, .bool (x14 != (p1.length : Int)))] H fun fr H => aw_if 91 H hm (fun hb hm H => ?_) fun hb hm H => ?_))
   ·refine aw_sr 2 ?_
    obtain ⟨x22, hx, hm⟩ := bind_some hm
    obtain ⟨v1, h16, hr, rfl, A1⟩ := ok_boulterlaw22_awake (av := []) hx (A.cut 0)
    replace A := A.g00 A1
    refine at_lc1 92 hr H fun fr t H => ?_
    refine at_L 1 [(4, .bool x22)] H fun fr H => aw_rt ?_
    obtain rfl := injA hm
    refine ⟨.inl rfl, .bool x22, rH H, ?_⟩
    replace A := A.d0
    exact ⟨rfl, A⟩
   refine aw_ks 10 id (at_l1 94 _ _ H (fun fr => .of (s_ldA (by kernel_rfl) (A.ldA 1 rfl (o := 0) (n := 2) ⟨Nat.le_of_ble_eq_true rfl, rfl⟩))) fun fr t H => ?_)
   obtain ⟨⟨x23, x24⟩, hx, hm⟩ := bind_some hm
   obtain ⟨v1, h17, hr, rqw6, rfl, A1⟩ := ok_groups_Spans (av := [.agg (e_S_tree_Tree x7), .str p1, Ai 0, Ai (p1.length : Int)]) hx (A.cut 0)
   replace A := A.g01 A1
   refine at_gc1 3 [] 98 hr H fun fr t H => ?_
   refine at_L 5 [(14, rowV rqw6 x23.length), (15, .bool x24)] H fun fr H => aw_sq (aw_sr 10 (at_sl 3 [(103, .bool (!x24))] H fun fr H => at_cl 7 (fun fr' h' => h17 = h' ∧ Has fr' 127 [(11, rowV r2 x13.length), (14, rowV rqw6 x23.length), (110, .bool ((!x24) || ((x23.length : Int) != (IntKind.i64.wrap ((p0.length : Int) + 1)))))]) ?_ ?_))
   ·cases hb : (!x24 : Bool) with
    | true =>
     replace H := H.kn 103 hb
     exact at_sl 7 [(110, .bool true)] H fun fr H => at_zb H hb
    | false =>
     replace H := H.kn 103 hb
     exact at_sl 7 [(110, .bool ((x23.length : Int) != (IntKind.i64.wrap ((p0.length : Int) + 1))))] H fun fr H => at_zb H hb
   intro t fr h' hK
   obtain ⟨e, H⟩ := hK
   subst e
   refine at_nl id (aw_if 110 H hm (fun hb hm H => ?_) fun hb hm H => ?_)
   ·refine aw_sr 1 (at_L 1 [(4, .bool false)] H fun fr H => aw_rt ?_)
    obtain rfl := injA hm
    refine ⟨.inl rfl, .bool false, rH H, ?_⟩
    replace A := A.d0
    exact ⟨rfl, A⟩
   refine aw_kn id (aw_sq (aw_sr 3 (at_L 3 [(111, rowV r2 x13.length), (112, Ai (x13.length : Int)), (113, Ai 0)] H fun fr H => aw_block (id := 6) (by kernel_rfl) ?_)))
   obtain ⟨o4, ho, hm⟩ := bind_some hm
   refine aw_mono (Q' := fun e fr' h' => (e = .exit 6 ∧ .inl () = o4 ∧ Has fr' 127 [] ∧ HH g h' [.obj h5.size (.cells none 2 (e_S_tree_Tree x7))] F) ∨ (∃ x26, e = .ret ∧ .inr x26 = o4 ∧ Has fr' 127 [(4, .bool x26)] ∧ HH g h' [.obj h5.size (.cells none 2 (e_S_tree_Tree x7))] F) ∨ False) ?_ ?_
   ·refine aw_loop (by kernel_rfl) (fun (s : Int) fr' h' => ∃ x25, x25 = s ∧ Has fr' 127 [(14, rowV rqw6 x23.length), (111, rowV r2 x13.length), (112, Ai (x13.length : Int)), (113, Ai x25)] ∧ HH g h' [.lst rqw6 32 (lst e_S_groups_Span x23), .lst r2 32 (lst e_S_groups_Span x13), .obj h5.size (.cells none 2 (e_S_tree_Tree x7))] F) ho ⟨_, rfl, H.ls, A⟩ ?_
    clear ho hm H A
    intro s q fr h18 hI hm
    obtain ⟨x25, rfl, H, A⟩ := hI
    unfold M_boulterlaw22_GroupsRow_L3 at hm
    refine aw_sr 1 (at_L 1 [(114, .bool (decide (x25 < (x13.length : Int))))] H fun fr H => aw_sq (aw_if 114 H hm (fun hb hm H => ?_) fun hb hm H => ?_))
    ·refine aw_kn id (aw_sq (aw_block (id := 7) (by kernel_rfl) ?_))
     refine aw_sr 6 ?_
     obtain ⟨x27, hx, hm⟩ := bind_some hm
     obtain ⟨i1, er1, _, hx, hq1⟩ := HH.ixO enc_S_groups_Span (by decide) A 1 (xs := x13) rfl hx
     refine at_g1 1 [(115, Ai x25)] 116 (.ptr (some (i1, x25.toNat * 3))) h18 H (fun fr => .of (s_ixL (s := rowS r2 x13.length) (by kernel_rfl) hx)) fun fr t H => ?_
     refine at_l1 117 _ _ H (fun fr => .of (s_ldA (by kernel_rfl) (row_ldA enc_S_groups_Span (HH.row A 1 rfl er1) hq1 0 3 (Nat.le_of_ble_eq_true rfl)))) fun fr t H => ?_
     obtain ⟨h19, e4, A⟩ := A.pu (.cells none 2 [Ai 0, Ai 0, .bool false])
     refine at_ln 17 (.ptr (some (h18.size, 0))) e4 H fun fr t H => ?_
     obtain ⟨h20, hx, A⟩ := A.s0 0 (e_S_groups_Span x27) [_, _, _]
     refine at_gS 1 [(16, Ai x25)] hx H fun fr t H => ?_
     refine at_nl id (aw_sq (aw_dg 28 7 ?_))
     obtain ⟨x28, hx, hm⟩ := bind_some hm
     obtain ⟨i2, er2, _, hx, hq2⟩ := HH.ixO enc_S_groups_Span (by decide) A 1 (xs := x23) rfl hx
     refine at_g1 3 [] 121 (.ptr (some (i2, (IntKind.i64.wrap (x25 + 1)).toNat * 3))) h20 H (fun fr => .of (s_ixL (s := rowS rqw6 x23.length) (by kernel_rfl) hx)) fun fr t H => ?_
     refine at_l1 122 _ _ H (fun fr => .of (s_ldA (by kernel_rfl) (row_ldA enc_S_groups_Span (HH.row A 1 rfl er2) hq2 0 3 (Nat.le_of_ble_eq_true rfl)))) fun fr t H => ?_
     refine at_l1 123 _ _ H (fun fr => .of (s_ldA (by kernel_rfl) (A.ldA 0 rfl (o := 0) (n := 3) ⟨Nat.le_of_ble_eq_true rfl, rfl⟩))) fun fr t H => ?_
     obtain ⟨x29, hx, hm⟩ := bind_some hm
     refine at_l1 124 (.bool (!x29)) h20 H (fun fr => .of (s_neG (by kernel_rfl) hx)) fun fr t H => ?_
     refine at_nl id (aw_if 124 H hm (fun hb hm H => ?_) fun hb hm H => ?_)
     ·refine aw_sr 1 (at_L 1 [(4, .bool false)] H fun fr H => aw_rt ?_)
      replace A := A.k1 3
      exact nr hm fun e => Or.inr (.inl ⟨_, rfl, e, H.ls, A⟩)
     refine aw_kr 2 id (at_se 2 [(14, rowV rqw6 x23.length), (111, rowV r2 x13.length), (112, Ai (x13.length : Int)), (113, Ai (IntKind.i64.wrap (x25 + 1)))] H fun fr H => at_nil ?_)
     replace A := A.k3 1 2 3
     exact nx hm ⟨_, rfl, H.ls, A⟩
    refine aw_exit (i := 6) (by kernel_rfl) ?_
    replace A := A.k1 2
    exact nr hm fun e => .inl ⟨rfl, e, H.ls, A⟩
   clear ho
   clear A
   intro e fr h21 hQ
   rcases hQ with ⟨rfl, rfl, H, A⟩ | ⟨x26, rfl, rfl, H, A⟩ | hF
   ·show AW _ _ _ _ _ _ _
    refine aw_sr 2 ?_
    obtain ⟨x30, hx, hm⟩ := bind_some hm
    obtain ⟨v1, h22, hr, rfl, A1⟩ := ok_boulterlaw22_awake (av := []) hx (A.cut 0)
    replace A := A.g00 A1
    refine at_lc1 126 hr H fun fr t H => ?_
    refine at_L 1 [(4, .bool x30)] H fun fr H => aw_rt ?_
    obtain rfl := injA hm
    refine ⟨.inl rfl, .bool x30, rH H, ?_⟩
    replace A := A.d0
    exact ⟨rfl, A⟩
   ·obtain rfl := injA hm
    refine ⟨.inl rfl, .bool x26, rH H, ?_⟩
    replace A := A.d0
    exact ⟨rfl, A⟩
   exact hF.elim
  exact hF.elim
 exact hF.elim
end
end Go.Av.L
