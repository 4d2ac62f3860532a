/-
  Models of functions, and that the abstract run tells them. Written by lift2.py.
-/
import Derived.Test.YtiodcbipjnmpgaaKCfg
import Derived.Test.YtiodcbipjnmpgaaK0
import Derived.Test.YtiodcbipjnmpgaaK2
import Derived.Test.YtiodcbipjnmpgaaK3
namespace Go.Av.L
open Go.Av Go.Lib
set_option maxRecDepth 10000
set_option linter.unusedVariables false
set_option linter.unusedSimpArgs false
variable {g : Gd} {h : AHeap} {F : List Ck} {av : List AVal}
noncomputable section
def M_rex_Parse (p0 : List UInt8) (p1 : Bool) : Option (S_tree_Tree × Int × Int) :=
 iteB (decide ((p0.length : Int) > 8192)) (some ((⟨([] : List S_tree_Node), (0 : Int)⟩ : S_tree_Tree), (0 : Int), (12 : Int))) ((M_rex_walk_expression_sPO (⟨p0, (0 : Int), p1, (⟨([] : List S_tree_Node), (0 : Int)⟩ : S_tree_Tree), (0 : Int), (0 : Int), (-1 : Int), false⟩ : S_rex_walk)).bind fun (x1, x2, x3) => ((M_rex_walk_ok_sPO (⟨x2.s_, x2.at_, x2.extended_, (⟨x3, x2.t_.Root⟩ : S_tree_Tree), x2.groups_, x2.depth_, x2.wrong_, x2.full_⟩ : S_rex_walk)).bind fun x12 => iteB (x12 && (decide (x2.at_ < (p0.length : Int)))) ((M_rex_walk_fail_sPOI (⟨x2.s_, x2.at_, x2.extended_, (⟨x3, x2.t_.Root⟩ : S_tree_Tree), x2.groups_, x2.depth_, x2.wrong_, x2.full_⟩ : S_rex_walk) x2.at_).bind fun x13 => some (x13.s_, x13.at_, x13.extended_, x13.t_.Root, x13.groups_, x13.depth_, x13.wrong_, x13.full_)) (some (x2.s_, x2.at_, x2.extended_, x2.t_.Root, x2.groups_, x2.depth_, x2.wrong_, x2.full_)) : Option (((List UInt8) × Int × Bool × Int × Int × Int × Int × Bool))).bind fun (x4, x5, x6, x7, x8, x9, x10, x11) => (M_rex_walk_ok_sPO (⟨x4, x5, x6, (⟨x3, x7⟩ : S_tree_Tree), x8, x9, x10, x11⟩ : S_rex_walk)).bind fun x14 => iteB (!x14) (some ((⟨([] : List S_tree_Node), (0 : Int)⟩ : S_tree_Tree), x10, (11 : Int))) (iteB x11 (some ((⟨([] : List S_tree_Node), (0 : Int)⟩ : S_tree_Tree), (0 : Int), (8 : Int))) (some ((⟨x3, x7⟩ : S_tree_Tree), (0 : Int), (0 : Int)))))
theorem ok_rex_Parse {p0 p1 q0 q1 q2} (hm : M_rex_Parse p0 p1 = some (q0, q1, q2)) (A : HH g h [] F) (hc : canL (cfg.still 11) av = [.str p0, .bool p1] := by kernel_rfl) : ∃ v h', Runs cfg g h 11 av v h' ∧ v = .tuple [.agg (e_S_tree_Tree q0), Ai q1, Ai q2] ∧ HH g h' [] F := by
 refine rq7 54 [.cell 4 26, .tmp 5, .tmp 6] hc ?_
 clear hc
 unfold M_rex_Parse at hm
 refine bg 54 [(0, .str p0), (1, .bool p1)] fun fr H => ?_
 refine aw_sr 3 ?_
 obtain ⟨h1, e1, A⟩ := A.pu (.cells none 2 [.slice none 0, Ai 0])
 refine at_ln 4 (.ptr (some (h.size, 0))) e1 H fun fr t H => ?_
 refine at_L 2 [] H fun fr H => aw_sq (aw_sr 3 (at_L 3 [(10, .bool (decide ((p0.length : Int) > 8192)))] H fun fr H => aw_if 10 H hm (fun hb hm H => ?_) fun hb hm H => ?_))
 ·refine aw_sr 4 ?_
  obtain ⟨h2, hx, A⟩ := A.s0 0 [.slice none 0, Ai 0] [_, _]
  refine at_gS 1 [] hx H fun fr t H => ?_
  refine at_L 2 [(5, Ai 0), (6, Ai 12)] H fun fr H => aw_rt ?_
  obtain ⟨rfl, rfl, rfl⟩ := injC hm
  refine ⟨.inl rfl, .tuple [.agg [.slice none 0, Ai 0], Ai 0, Ai 12], resL_many (.cell (rT H) (load_ldA (by kernel_rfl) (by kernel_rfl) (A.la 0 0 2)) (.tmp (rT H) (.tmp (rT H) .nil))), ?_⟩
  refine ⟨.tuple [.agg [vs e_S_tree_Node ([] : List S_tree_Node), Ai 0], Ai 0, Ai 12], h2, by first | rfl | (simp only [fz3T, fz3A, fz3B, fz3R, fz2A, fz2R, fz2V, fz2I, fz2B, fz2S, fz2N, fzL0, fzL1, fz1I, fz1B, fz1S, fz1V, fz1N, Option.map_some] <;> rfl), ?_⟩
  replace A := A.d0
  exact ⟨rfl, A⟩
 refine aw_ks 5 id ?_
 obtain ⟨h3, e2, A⟩ := A.pu (.cells none 2 [.str p0, Ai 0, .bool p1, .slice none 0, Ai 0, Ai 0, Ai 0, Ai (-1), .bool false])
 refine at_gn 3 [] 15 (.ptr (some (h1.size, 0))) e2 H fun fr t H => ?_
 refine at_S 1 [(7, .ptr (some (h1.size, 0)))] 2 H fun fr H => ?_
 replace A : HH g h3 [.lst none 68 (lst e_S_tree_Node ([] : List S_tree_Node)), .obj h1.size (.cells none 2 [.str p0, Ai 0, .bool p1, rowV none (([] : List S_tree_Node).length), Ai 0, Ai 0, Ai 0, Ai (-1), .bool false]), .obj h.size (.cells none 2 [.slice none 0, Ai 0])] F := A.nilL 68
 replace A := A.k3 1 0 2
 obtain ⟨⟨x1, x2, x3⟩, hx, hm⟩ := bind_some hm
 obtain ⟨v1, h4, hr, r1, rfl, A1⟩ := ok_rex_walk_expression_sPO (av := [.ptr (some (h1.size, 0))]) hx (A.cut 2)
 replace A := A.g22 A1
 refine at_gc0 1 [] hr H fun fr t H => ?_
 refine at_nl id (aw_sq ?_)
 obtain ⟨o1, ho, hm⟩ := bind_some hm
 refine aw_mono (Q' := fun e fr' h' => (∃ x4 x5 x6 x7 x8 x9 x10 x11, e = .normal ∧ (x4, x5, x6, x7, x8, x9, x10, x11) = o1 ∧ Has fr' 54 [(4, .ptr (some (h.size, 0))), (7, .ptr (some (h1.size, 0)))] ∧ HH g h' [.obj h1.size (.cells none 2 [.str x4, Ai x5, .bool x6, rowV r1 x3.length, Ai x7, Ai x8, Ai x9, Ai x10, .bool x11]), .lst r1 68 (lst e_S_tree_Node x3), .obj h.size (.cells none 2 [.slice none 0, Ai 0])] F) ∨ False) ?_ ?_
 ·replace hm := ho
  clear ho
  refine aw_sr 11 ?_
  obtain ⟨x12, hx, hm⟩ := bind_some hm
  obtain ⟨v1, h5, hr, rfl, A1⟩ := ok_rex_walk_ok_sPO (av := [.ptr (some (h1.size, 0))]) hx (A.cut 2)
  replace A := A.g22 A1
  refine at_gc1 1 [] 19 hr H fun fr t H => ?_
  refine at_sl 1 [(20, .bool x12)] H fun fr H => at_cl 8 (fun fr' h' => h5 = h' ∧ Has fr' 54 [(4, .ptr (some (h.size, 0))), (7, .ptr (some (h1.size, 0))), (28, .bool (x12 && (decide (x2.at_ < (p0.length : Int)))))]) ?_ ?_
  ·cases hb : (x12 : Bool) with
   | true =>
    replace H := H.kn 20 hb
    refine at_gl 3 [] 24 0 1 A H fun fr t H => ?_
    exact at_sl 4 [(28, .bool (decide (x2.at_ < (p0.length : Int))))] H fun fr H => at_zb H hb
   | false =>
    replace H := H.kn 20 hb
    exact at_sl 8 [(28, .bool false)] H fun fr H => at_zb H hb
  intro t fr h' hK
  obtain ⟨e, H⟩ := hK
  subst e
  refine at_nl id (aw_if 28 H hm (fun hb hm H => ?_) fun hb hm H => ?_)
  ·refine aw_rg 6 (at_gl 4 [(29, .ptr (some (h1.size, 0)))] 33 0 1 A H fun fr t H => ?_)
   obtain ⟨x13, hx, hm⟩ := bind_some hm
   obtain ⟨v1, h6, hr, rfl, A1⟩ := ok_rex_walk_fail_sPOI (av := [.ptr (some (h1.size, 0)), Ai x2.at_]) hx (A.cut 2)
   replace A := A.g22 A1
   refine at_lc0 hr H fun fr t H => ?_
   refine at_nil ?_
   exact .inl ⟨_, _, _, _, _, _, _, _, rfl, injA hm, H.ls, A⟩
  exact aw_sk (.inl ⟨_, _, _, _, _, _, _, _, rfl, injA hm, H.ls, A⟩)
 clear ho
 clear A
 intro e fr h7 hQ
 rcases hQ with ⟨x4, x5, x6, x7, x8, x9, x10, x11, rfl, rfl, H, A⟩ | hF
 ·show AW _ _ _ _ _ _ _
  refine aw_sq (aw_block (id := 0) (by kernel_rfl) ?_)
  refine aw_sr 4 ?_
  obtain ⟨x14, hx, hm⟩ := bind_some hm
  obtain ⟨v1, h8, hr, rfl, A1⟩ := ok_rex_walk_ok_sPO (av := [.ptr (some (h1.size, 0))]) hx (A.cut 2)
  replace A := A.g22 A1
  refine at_gc1 1 [] 37 hr H fun fr t H => ?_
  refine at_L 2 [(35, .bool (!x14))] H fun fr H => aw_if 35 H hm (fun hb hm H => ?_) fun hb hm H => ?_
  ·refine aw_sq (aw_dw 8 8 [(0, []), (1, []), (2, []), (3, []), (4, []), (5, [4]), (6, []), (7, [])] ?_)
   refine at_sl 4 [(39, .agg [.slice none 0, Ai 0]), (42, .ptr (some (h1.size, 7)))] H fun fr H => at_t1 43 (Ai x10) h8 [(4, h1.size)] (g.prot) H (fun fr => .of (s_ld (by kernel_rfl) (A.l1 0 7))) (fun fr H => ?_)
   replace A := A.k3 2 0 1
   have A1 := A.prot2 1 (pr := [h1.size]) (.cons 0 rfl (by simp [Ck.ids]) .nil)
   obtain ⟨h9, hx, A1⟩ := A1.st 0 rfl (o := 0) (new := [.slice none 0, Ai 0]) (ds := [.slice none 0, Ai 0]) (Nat.le_of_ble_eq_true rfl) rfl rfl
   replace A := A.p11 A1
   refine at_t0 (.tuple []) h9 [(4, h1.size)] (h1.size :: g.prot) H (fun fr => .of (s_stG (by kernel_rfl) (stG_st hx rfl))) (fun fr H => ?_)
   refine at_L 2 [(5, Ai x10), (6, Ai 11)] H fun fr H => aw_rt ?_
   obtain ⟨rfl, rfl, rfl⟩ := injC hm
   refine ⟨.inl rfl, .tuple [.agg [.slice none 0, Ai 0], Ai x10, Ai 11], resL_many (.cell (rT H) (load_ldA (by kernel_rfl) (by kernel_rfl) (A.la 0 0 2)) (.tmp (rT H) (.tmp (rT H) .nil))), ?_⟩
   refine ⟨.tuple [.agg [vs e_S_tree_Node ([] : List S_tree_Node), Ai 0], Ai x10, Ai 11], h9, by first | rfl | (simp only [fz3T, fz3A, fz3B, fz3R, fz2A, fz2R, fz2V, fz2I, fz2B, fz2S, fz2N, fzL0, fzL1, fz1I, fz1B, fz1S, fz1V, fz1N, Option.map_some] <;> rfl), ?_⟩
   replace A := A.d0
   exact ⟨rfl, A⟩
  refine aw_sr 5 (at_gl 3 [] 48 0 8 A H fun fr t H => ?_)
  refine at_L 1 [(44, .bool x11)] H fun fr H => aw_if 44 H hm (fun hb hm H => ?_) fun hb hm H => ?_
  ·refine aw_sr 4 ?_
   obtain ⟨h10, hx, A⟩ := A.s2 0 [.slice none 0, Ai 0] [_, _]
   refine at_gS 1 [] hx H fun fr t H => ?_
   refine at_L 2 [(5, Ai 0), (6, Ai 8)] H fun fr H => aw_rt ?_
   obtain ⟨rfl, rfl, rfl⟩ := injC hm
   refine ⟨.inl rfl, .tuple [.agg [.slice none 0, Ai 0], Ai 0, Ai 8], resL_many (.cell (rT H) (load_ldA (by kernel_rfl) (by kernel_rfl) (A.la 2 0 2)) (.tmp (rT H) (.tmp (rT H) .nil))), ?_⟩
   refine ⟨.tuple [.agg [vs e_S_tree_Node ([] : List S_tree_Node), Ai 0], Ai 0, Ai 8], h10, by first | rfl | (simp only [fz3T, fz3A, fz3B, fz3R, fz2A, fz2R, fz2V, fz2I, fz2B, fz2S, fz2N, fzL0, fzL1, fz1I, fz1B, fz1S, fz1V, fz1N, Option.map_some] <;> rfl), ?_⟩
   replace A := A.d0
   exact ⟨rfl, A⟩
  refine aw_ks 7 id (at_g1 3 [] 53 _ _ H (fun fr => .of (s_ldA (by kernel_rfl) (A.ldA 0 rfl (o := 3) (n := 2) ⟨Nat.le_of_ble_eq_true rfl, rfl⟩))) fun fr t H => ?_)
  obtain ⟨h11, hx, A⟩ := A.s2 0 [rowV r1 x3.length, Ai x7] [_, _]
  refine at_lS hx H fun fr t H => ?_
  refine at_L 2 [(5, Ai 0), (6, Ai 0)] H fun fr H => aw_rt ?_
  obtain ⟨rfl, rfl, rfl⟩ := injC hm
  refine ⟨.inl rfl, .tuple [.agg [rowV r1 x3.length, Ai x7], Ai 0, Ai 0], resL_many (.cell (rT H) (load_ldA (by kernel_rfl) (by kernel_rfl) (A.la 2 0 2)) (.tmp (rT H) (.tmp (rT H) .nil))), ?_⟩
  obtain ⟨h12, hz0, A1⟩ := (A.front 1 rfl).frz (n := x3.length) (z := 10) (enc_S_tree_Node.lenL _) (by decide)
  replace A : HH g h12 [_, _] F := A1
  refine ⟨.tuple [.agg [vs e_S_tree_Node x3, Ai x7], Ai 0, Ai 0], h12, by first | rfl | (simp only [fz3T, fz3A, fz3B, fz3R, fz2A, fz2R, fz2V, fz2I, fz2B, fz2S, fz2N, fzL0, fzL1, fz1I, fz1B, fz1S, fz1V, fz1N, Option.map_some, hz0] <;> rfl), ?_⟩
  replace A := A.d0
  exact ⟨rfl, A⟩
 exact hF.elim
structure SC_groups_ender_rest_sPOIII where
 M_groups_ender_rest_sPOIII : S_groups_ender → (List Bool) → Int → Int → Int → Option ((List (S_groups_spot × (List Bool))) × (List Bool))
 M_groups_ender_ends : S_groups_ender → Int → Int → Int → Option ((List Bool) × (List (S_groups_spot × (List Bool))))
structure OkSC_groups_ender_rest_sPOIII (S : SC_groups_ender_rest_sPOIII) : Prop where
 ok_groups_ender_rest_sPOIII : ∀ {g : Gd} {h : AHeap} {F : List Ck} {p0 : S_groups_ender} {p1 : List Bool} {p2 : Int} {p3 : Int} {p4 : Int} {bp0 : Nat} {bp0_3 : Nat} {rp1 : Option Nat} {u1 : List (S_groups_spot × (List Bool))} {u2 : List Bool} {av : List AVal} (hm : S.M_groups_ender_rest_sPOIII p0 p1 p2 p3 p4 = some (u1, u2)) (hc : canL (cfg.still 61) av = [.ptr (some (bp0, 0)), rowV rp1 p1.length, Ai p2, Ai p3, Ai p4]) (A : HH g h [.obj bp0 (.cells none 2 [vs e_S_tree_Node p0.t_.Nodes, Ai p0.t_.Root, .str p0.s_, .map (some bp0_3)]), .obj bp0_3 (.map 2 (encM (fun k : S_groups_spot => .agg (e_S_groups_spot k)) (fun v : List Bool => vs eB v) p0.told_)), .lst rp1 4 (lst eB p1)] F), ∃ v h', Runs cfg g h 61 av v h' ∧ ∃ (hl'2 : u2.length = p1.length), v = .tuple [] ∧ HH g h' [.obj bp0 (.cells none 2 [vs e_S_tree_Node p0.t_.Nodes, Ai p0.t_.Root, .str p0.s_, .map (some bp0_3)]), .obj bp0_3 (.map 2 (encM (fun k : S_groups_spot => .agg (e_S_groups_spot k)) (fun v : List Bool => vs eB v) u1)), .lst rp1 4 (lst eB u2)] F
 ok_groups_ender_ends : ∀ {g : Gd} {h : AHeap} {F : List Ck} {p0 : S_groups_ender} {p1 : Int} {p2 : Int} {p3 : Int} {bp0 : Nat} {bp0_3 : Nat} {q0 : List Bool} {u1 : List (S_groups_spot × (List Bool))} {av : List AVal} (hm : S.M_groups_ender_ends p0 p1 p2 p3 = some (q0, u1)) (hc : canL (cfg.still 40) av = [.ptr (some (bp0, 0)), Ai p1, Ai p2, Ai p3]) (A : HH g h [.obj bp0 (.cells none 2 [vs e_S_tree_Node p0.t_.Nodes, Ai p0.t_.Root, .str p0.s_, .map (some bp0_3)]), .obj bp0_3 (.map 2 (encM (fun k : S_groups_spot => .agg (e_S_groups_spot k)) (fun v : List Bool => vs eB v) p0.told_))] F), ∃ v h', Runs cfg g h 40 av v h' ∧ v = vs eB q0 ∧ HH g h' [.obj bp0 (.cells none 2 [vs e_S_tree_Node p0.t_.Nodes, Ai p0.t_.Root, .str p0.s_, .map (some bp0_3)]), .obj bp0_3 (.map 2 (encM (fun k : S_groups_spot => .agg (e_S_groups_spot k)) (fun v : List Bool => vs eB v) u1))] F
def M_groups_ender_rest_sPOIII_L0 (S : SC_groups_ender_rest_sPOIII) (p0 : S_groups_ender) (p2 : Int) (p3 : Int) (p4 : Int) (x1 : S_tree_Node) (x4 : List Bool) (s : (List (S_groups_spot × (List Bool))) × (List Bool) × Int) : Option (((List (S_groups_spot × (List Bool))) × (List Bool) × Int) ⊕ (((List (S_groups_spot × (List Bool))) × (List Bool)))) :=
 match s with
 | (x6, x7, x8) => iteB (decide (x8 < (x4.length : Int))) (((ixV x4 x8).bind fun x13 => iteB (x13 && ((decide (x8 > p4)) || (decide (p3 < x1.Min)))) ((M_groups_after x1 p3).bind fun x14 => (S.M_groups_ender_ends (⟨p0.t_, p0.s_, x6⟩ : S_groups_ender) p2 x14 x8).bind fun (x15, x16) => (M_groups_join_sOV x7 x15).bind fun x17 => some (x16, x17)) (some (x6, x7)) : Option (((List (S_groups_spot × (List Bool))) × (List Bool)))).bind fun (x11, x12) => some (.inl (x11, x12, IntKind.i64.wrap (x8 + 1)))) (some (.inr (x6, x7)))
def B_groups_ender_rest_sPOIII (S : SC_groups_ender_rest_sPOIII) (p0 : S_groups_ender) (p1 : List Bool) (p2 : Int) (p3 : Int) (p4 : Int) : Option ((List (S_groups_spot × (List Bool))) × (List Bool)) :=
 (ixV p0.t_.Nodes p2).bind fun x1 => (iteB (decide (p3 ≥ x1.Min)) ((ixV p1 p4).bind fun x3 => some (p1.set p4.toNat true)) (some p1) : Option (((List Bool)))).bind fun x2 => iteB (p3 == x1.Max) (some (p0.told_, x2)) ((S.M_groups_ender_ends p0 x1.A (0 : Int) p4).bind fun (x4, x5) => (loop (M_groups_ender_rest_sPOIII_L0 S p0 p2 p3 p4 x1 x4) (x5, x2, (0 : Int))).bind fun (x9, x10) => some (x9, x10))
theorem okB_groups_ender_rest_sPOIII {S : SC_groups_ender_rest_sPOIII} (hS : OkSC_groups_ender_rest_sPOIII S) {p0 p1 p2 p3 p4 bp0 bp0_3 rp1 u1 u2} (hm : B_groups_ender_rest_sPOIII S p0 p1 p2 p3 p4 = some (u1, u2)) (hc : canL (cfg.still 61) av = [.ptr (some (bp0, 0)), rowV rp1 p1.length, Ai p2, Ai p3, Ai p4]) (A : HH g h [.obj bp0 (.cells none 2 [vs e_S_tree_Node p0.t_.Nodes, Ai p0.t_.Root, .str p0.s_, .map (some bp0_3)]), .obj bp0_3 (.map 2 (encM (fun k : S_groups_spot => .agg (e_S_groups_spot k)) (fun v : List Bool => vs eB v) p0.told_)), .lst rp1 4 (lst eB p1)] F) : ∃ v h', Runs cfg g h 61 av v h' ∧ ∃ (hl'2 : u2.length = p1.length), v = .tuple [] ∧ HH g h' [.obj bp0 (.cells none 2 [vs e_S_tree_Node p0.t_.Nodes, Ai p0.t_.Root, .str p0.s_, .map (some bp0_3)]), .obj bp0_3 (.map 2 (encM (fun k : S_groups_spot => .agg (e_S_groups_spot k)) (fun v : List Bool => vs eB v) u1)), .lst rp1 4 (lst eB u2)] F := by
 refine rq1 65 [] hc ?_
 clear hc
 unfold B_groups_ender_rest_sPOIII at hm
 refine bg 65 [(0, .ptr (some (bp0, 0))), (1, rowV rp1 p1.length), (2, Ai p2), (3, Ai p3), (4, Ai p4)] fun fr H => ?_
 refine aw_sr 10 (at_gl 4 [] 17 0 0 A H fun fr t H => ?_)
 obtain ⟨x1, hx, hm⟩ := bind_some hm
 refine at_g1 1 [] 19 (.vptr (e_S_tree_Node x1)) h H (fun fr => .of (s_ixV (e := e_S_tree_Node) (x := x1) enc_S_tree_Node (by decide) (by kernel_rfl) hx)) fun fr t H => ?_
 refine at_l1 20 (.agg (e_S_tree_Node x1)) h H (fun fr => .of (s_lv (by kernel_rfl))) fun fr t H => ?_
 obtain ⟨h1, e1, A⟩ := A.pu (.cells none 2 [Ai 0, Ai 0, Ai 0, Ai 0, Ai 0, Ai 0, Au 0, Au 0, Au 0, Au 0])
 refine at_ln 10 (.ptr (some (h.size, 0))) e1 H fun fr t H => ?_
 obtain ⟨h2, hx, A⟩ := A.s0 0 (e_S_tree_Node x1) [_, _, _, _, _, _, _, _, _, _]
 refine at_lS hx H fun fr t H => ?_
 refine at_nl id (aw_sq ?_)
 obtain ⟨o1, ho, hm⟩ := bind_some hm
 refine aw_mono (Q' := fun e fr' h' => (∃ x2, e = .normal ∧ x2 = o1 ∧ ∃ (hl1 : x2.length = p1.length), Has fr' 65 [(0, .ptr (some (bp0, 0))), (1, rowV rp1 x2.length), (2, Ai p2), (3, Ai p3), (4, Ai p4), (10, .ptr (some (h.size, 0)))] ∧ HH g h' [.obj h.size (.cells none 2 (e_S_tree_Node x1)), .obj bp0 (.cells none 2 [vs e_S_tree_Node p0.t_.Nodes, Ai p0.t_.Root, .str p0.s_, .map (some bp0_3)]), .obj bp0_3 (.map 2 (encM (fun k : S_groups_spot => .agg (e_S_groups_spot k)) (fun v : List Bool => vs eB v) p0.told_)), .lst rp1 4 (lst eB x2)] F) ∨ False) ?_ ?_
 ·replace hm := ho
  clear ho
  refine aw_sr 4 (at_gl 2 [(21, Ai p3)] 23 0 3 A H fun fr t H => ?_)
  refine at_L 1 [(24, .bool (decide (p3 ≥ x1.Min)))] H fun fr H => aw_if 24 H hm (fun hb hm H => ?_) fun hb hm H => ?_
  ·refine aw_rg 4 ?_
   obtain ⟨x3, hx, hm⟩ := bind_some hm
   obtain ⟨i1, er1, _, hx, hq1⟩ := HH.ixO encB (by decide) A 3 (xs := p1) rfl hx
   refine at_g1 2 [] 27 (.ptr (some (i1, p4.toNat * 1))) h2 H (fun fr => .of (s_ixL (s := rowS rp1 p1.length) (by kernel_rfl) hx)) fun fr t H => ?_
   obtain ⟨h3, hx, A1⟩ := HH.stO encB A 3 rfl er1 hq1 (y := true) (o := 0) (new := [.bool true]) rfl rfl (Nat.le_of_ble_eq_true rfl)
   have hl2 : (p1.set p4.toNat true).length = p1.length := List.length_set
   have el : rowV rp1 p1.length = rowV rp1 (p1.set p4.toNat true).length := congrArg _ List.length_set.symm
   try rw [el] at H
   try rw [el] at A1
   replace A : HH g h3 [_, _, _, .lst rp1 4 (lst eB (p1.set p4.toNat true))] F := A1
   refine at_ls hx H fun fr t H => ?_
   refine at_nil ?_
   exact .inl ⟨_, rfl, injA hm, hl2, H.ls, A⟩
  exact aw_sk (.inl ⟨_, rfl, injA hm, rfl, H.ls, A⟩)
 clear ho
 clear A
 intro e fr h4 hQ
 rcases hQ with ⟨x2, rfl, rfl, hl1, H, A⟩ | hF
 ·show AW _ _ _ _ _ _ _
  refine aw_sq (aw_sr 4 (at_gl 2 [(28, Ai p3)] 30 0 4 A H fun fr t H => ?_))
  refine at_L 1 [(31, .bool (p3 == x1.Max))] H fun fr H => aw_if 31 H hm (fun hb hm H => ?_) fun hb hm H => ?_
  ·refine aw_rt ?_
   obtain ⟨rfl, rfl⟩ := injB hm
   refine ⟨.inl rfl, .tuple [], rH H, ?_⟩
   replace A := A.k3 1 2 3
   exact ⟨hl1, rfl, A⟩
  refine aw_ks 7 id (at_gl 2 [(32, .ptr (some (bp0, 0)))] 34 0 1 A H fun fr t H => ?_)
  replace A := A.k4 1 2 0 3
  have A1 := A.cut 2
  obtain ⟨⟨x4, x5⟩, hx, hm⟩ := bind_some hm
  obtain ⟨v1, h5, hr, rfl, A1⟩ := hS.ok_groups_ender_ends (av := [.ptr (some (bp0, 0)), Ai x1.A, Ai 0, Ai p4]) hx (by kernel_rfl) A1
  replace A := A.g22 A1
  refine at_gc1 1 [] 36 hr H fun fr t H => ?_
  refine at_L 2 [(37, Ai (x4.length : Int)), (38, Ai 0)] H fun fr H => aw_block (id := 0) (by kernel_rfl) ?_
  obtain ⟨o2, ho, hm⟩ := bind_some hm
  refine aw_mono (Q' := fun e fr' h' => (∃ x9 x10, e = .exit 0 ∧ (x9, x10) = o2 ∧ ∃ (hl4 : x10.length = p1.length), Has fr' 65 [] ∧ HH g h' [.obj bp0 (.cells none 2 [vs e_S_tree_Node p0.t_.Nodes, Ai p0.t_.Root, .str p0.s_, .map (some bp0_3)]), .obj bp0_3 (.map 2 (encM (fun k : S_groups_spot => .agg (e_S_groups_spot k)) (fun v : List Bool => vs eB v) x9)), .obj h.size (.cells none 2 (e_S_tree_Node x1)), .lst rp1 4 (lst eB x10)] F) ∨ False) ?_ ?_
  ·refine aw_loop (by kernel_rfl) (fun (s : (List (S_groups_spot × (List Bool))) × (List Bool) × Int) fr' h' => ∃ x6 x7 x8, (x6, x7, x8) = s ∧ ∃ (hl3 : x7.length = p1.length), Has fr' 65 [(0, .ptr (some (bp0, 0))), (1, rowV rp1 x7.length), (2, Ai p2), (3, Ai p3), (4, Ai p4), (10, .ptr (some (h.size, 0))), (36, vs eB x4), (37, Ai (x4.length : Int)), (38, Ai x8)] ∧ HH g h' [.obj bp0 (.cells none 2 [vs e_S_tree_Node p0.t_.Nodes, Ai p0.t_.Root, .str p0.s_, .map (some bp0_3)]), .obj bp0_3 (.map 2 (encM (fun k : S_groups_spot => .agg (e_S_groups_spot k)) (fun v : List Bool => vs eB v) x6)), .obj h.size (.cells none 2 (e_S_tree_Node x1)), .lst rp1 4 (lst eB x7)] F) ho ⟨_, _, _, rfl, hl1, H.ls, A⟩ ?_
   clear ho hm H A
   intro s q fr h6 hI hm
   obtain ⟨x6, x7, x8, rfl, hl3, H, A⟩ := hI
   unfold M_groups_ender_rest_sPOIII_L0 at hm
   refine aw_sr 1 (at_L 1 [(39, .bool (decide (x8 < (x4.length : Int))))] H fun fr H => aw_sq (aw_if 39 H hm (fun hb hm H => ?_) fun hb hm H => ?_))
   ·refine aw_kn id (aw_sq ?_)
    obtain ⟨o3, ho, hm⟩ := bind_some hm
    refine aw_mono (Q' := fun e fr' h' => (∃ x11 x12, e = .normal ∧ (x11, x12) = o3 ∧ ∃ (hl5 : x12.length = p1.length), Has fr' 65 [(0, .ptr (some (bp0, 0))), (1, rowV rp1 x12.length), (2, Ai p2), (3, Ai p3), (4, Ai p4), (10, .ptr (some (h.size, 0))), (36, vs eB x4), (37, Ai (x4.length : Int)), (38, Ai x8)] ∧ HH g h' [.obj bp0 (.cells none 2 [vs e_S_tree_Node p0.t_.Nodes, Ai p0.t_.Root, .str p0.s_, .map (some bp0_3)]), .obj bp0_3 (.map 2 (encM (fun k : S_groups_spot => .agg (e_S_groups_spot k)) (fun v : List Bool => vs eB v) x11)), .obj h.size (.cells none 2 (e_S_tree_Node x1)), .lst rp1 4 (lst eB x12)] F) ∨ False) ?_ ?_
    ·replace hm := ho
     clear ho
     refine aw_block (id := 1) (by kernel_rfl) ?_
     refine aw_sr 5 ?_
     obtain ⟨x13, hx, hm⟩ := bind_some hm
     refine at_g1 1 [(40, Ai x8)] 41 (.vptr [.bool x13]) h6 H (fun fr => .of (s_ixV (e := eB) (x := x13) encB (by decide) (by kernel_rfl) hx)) fun fr t H => ?_
     refine at_l1 42 (.bool x13) h6 H (fun fr => .of (s_lv (by kernel_rfl))) fun fr t H => ?_
     refine at_S 2 [(11, Ai x8), (12, .bool x13)] 12 H fun fr H => at_sl 2 [(44, .bool x13)] H fun fr H => at_cl 10 (fun fr' h' => h6 = h' ∧ Has fr' 65 [(0, .ptr (some (bp0, 0))), (1, rowV rp1 x7.length), (2, Ai p2), (3, Ai p3), (4, Ai p4), (10, .ptr (some (h.size, 0))), (11, Ai x8), (36, vs eB x4), (37, Ai (x4.length : Int)), (38, Ai x8), (54, .bool (x13 && ((decide (x8 > p4)) || (decide (p3 < x1.Min)))))]) ?_ ?_
     ·cases hb : (x13 : Bool) with
      | true =>
       replace H := H.kn 44 hb
       refine at_sl 4 [(48, .bool (decide (x8 > p4)))] H fun fr H => at_cl 5 (fun fr' h' => h6 = h' ∧ Has fr' 65 [(0, .ptr (some (bp0, 0))), (1, rowV rp1 x7.length), (2, Ai p2), (3, Ai p3), (4, Ai p4), (10, .ptr (some (h.size, 0))), (11, Ai x8), (36, vs eB x4), (37, Ai (x4.length : Int)), (38, Ai x8), (44, .bool true), (53, .bool ((decide (x8 > p4)) || (decide (p3 < x1.Min))))]) ?_ ?_
       ·cases hb : (decide (x8 > p4) : Bool) with
        | true =>
         replace H := H.kn 48 hb
         exact at_sl 5 [(53, .bool true)] H fun fr H => at_zb H hb
        | false =>
         replace H := H.kn 48 hb
         refine at_gl 2 [(49, Ai p3)] 51 2 3 A H fun fr t H => ?_
         exact at_sl 2 [(53, .bool (decide (p3 < x1.Min)))] H fun fr H => at_zb H hb
       intro t fr h' hK
       obtain ⟨e, H⟩ := hK
       subst e
       exact at_sl 1 [(54, .bool ((decide (x8 > p4)) || (decide (p3 < x1.Min))))] H fun fr H => at_zb H hb
      | false =>
       replace H := H.kn 44 hb
       exact at_sl 10 [(54, .bool false)] H fun fr H => at_zb H hb
     intro t fr h' hK
     obtain ⟨e, H⟩ := hK
     subst e
     refine at_nl id (aw_if 54 H hm (fun hb hm H => ?_) fun hb hm H => ?_)
     ·refine aw_rg 9 (at_g1 3 [(55, rowV rp1 x7.length), (56, .ptr (some (bp0, 0))), (57, Ai p2)] 58 _ _ H (fun fr => .of (s_ldA (by kernel_rfl) (A.ldA 2 rfl (o := 0) (n := 10) ⟨Nat.le_of_ble_eq_true rfl, rfl⟩))) fun fr t H => ?_)
      obtain ⟨x14, hx, hm⟩ := bind_some hm
      obtain ⟨v1, h7, hr, rfl, A1⟩ := ok_groups_after (av := [.agg (e_S_tree_Node x1), Ai p3]) hx (A.cut 0)
      replace A := A.g00 A1
      refine at_gc1 1 [] 60 hr H fun fr t H => ?_
      have A1 := A.cut 2
      obtain ⟨⟨x15, x16⟩, hx, hm⟩ := bind_some hm
      obtain ⟨v1, h8, hr, rfl, A1⟩ := hS.ok_groups_ender_ends (av := [.ptr (some (bp0, 0)), Ai p2, Ai x14, Ai x8]) hx (by kernel_rfl) A1
      replace A := A.g22 A1
      refine at_gc1 1 [] 62 hr H fun fr t H => ?_
      replace A := A.k4 3 0 1 2
      obtain ⟨x17, hx, hm⟩ := bind_some hm
      obtain ⟨v1, h9, hr, hl6, rfl, A1⟩ := ok_groups_join_sOV (av := [rowV rp1 x7.length, vs eB x15]) hx (A.cut 1)
      have hl7 : x17.length = p1.length := hl6.trans hl3
      have el : rowV rp1 x7.length = rowV rp1 x17.length := congrArg _ hl6.symm
      try rw [el] at H
      try rw [el] at hr
      try rw [el] at A1
      replace A := A.g11 A1
      refine at_lc0 hr H fun fr t H => ?_
      refine at_nil ?_
      replace A := A.k4 1 2 3 0
      exact .inl ⟨_, _, rfl, injA hm, hl7, H.ls, A⟩
     exact aw_sk (.inl ⟨_, _, rfl, injA hm, hl3, H.ls, A⟩)
    clear ho
    clear A
    intro e fr h10 hQ
    rcases hQ with ⟨x11, x12, rfl, rfl, hl5, H, A⟩ | hF
    ·show AW _ _ _ _ _ _ _
     refine aw_rg 2 (at_se 2 [(0, .ptr (some (bp0, 0))), (1, rowV rp1 x12.length), (2, Ai p2), (3, Ai p3), (4, Ai p4), (10, .ptr (some (h.size, 0))), (36, vs eB x4), (37, Ai (x4.length : Int)), (38, Ai (IntKind.i64.wrap (x8 + 1)))] H fun fr H => at_nil ?_)
     exact nx hm ⟨_, _, _, rfl, hl5, H.ls, A⟩
    exact hF.elim
   refine aw_exit (i := 0) (by kernel_rfl) ?_
   exact nr hm fun e => .inl ⟨_, _, rfl, e, hl3, H.ls, A⟩
  clear ho
  clear A
  intro e fr h11 hQ
  rcases hQ with ⟨x9, x10, rfl, rfl, hl4, H, A⟩ | hF
  ·obtain ⟨rfl, rfl⟩ := injB hm
   refine ⟨.inr rfl, .tuple [], rH H, ?_⟩
   replace A := A.k3 0 1 3
   exact ⟨hl4, rfl, A⟩
  exact hF.elim
 exact hF.elim
def M_groups_ender_ends_L0 (S : SC_groups_ender_rest_sPOIII) (p0 : S_groups_ender) (x4 : S_tree_Node) (x21 : List Bool) (s : (List (S_groups_spot × (List Bool))) × (List Bool) × Int) : Option (((List (S_groups_spot × (List Bool))) × (List Bool) × Int) ⊕ (((List (S_groups_spot × (List Bool))) × (List Bool)))) :=
 match s with
 | (x23, x24, x25) => iteB (decide (x25 < (x21.length : Int))) (((ixV x21 x25).bind fun x30 => iteB x30 ((S.M_groups_ender_ends (⟨p0.t_, p0.s_, x23⟩ : S_groups_ender) x4.B (0 : Int) x25).bind fun (x31, x32) => (M_groups_join_sOV x24 x31).bind fun x33 => some (x32, x33)) (some (x23, x24)) : Option (((List (S_groups_spot × (List Bool))) × (List Bool)))).bind fun (x28, x29) => some (.inl (x28, x29, IntKind.i64.wrap (x25 + 1)))) (some (.inr (x23, x24)))
def B_groups_ender_ends (S : SC_groups_ender_rest_sPOIII) (p0 : S_groups_ender) (p1 : Int) (p2 : Int) (p3 : Int) : Option ((List Bool) × (List (S_groups_spot × (List Bool)))) :=
 optM (mfind p0.told_ (⟨p1, p2, p3⟩ : S_groups_spot)) (fun x1 => some (x1, p0.told_)) (need (mkN 1 (IntKind.i64.wrap ((p0.s_.length : Int) + 1))) <| ((ixV p0.t_.Nodes p1).bind fun x4 => iteB (x4.Kind == 0) ((ixV (List.replicate (IntKind.i64.wrap ((p0.s_.length : Int) + 1)).toNat false) p3).bind fun x5 => some (((List.replicate (IntKind.i64.wrap ((p0.s_.length : Int) + 1)).toNat false).set p3.toNat true), p0.told_)) (iteB (x4.Kind == 1) ((iteB (decide (p3 < (p0.s_.length : Int))) ((ixS p0.s_ p3).bind fun x7 => (M_class_Set_Has x4.Set x7).bind fun x8 => some x8) (some false) : Option (Bool)).bind fun x6 => iteB x6 ((ixV (List.replicate (IntKind.i64.wrap ((p0.s_.length : Int) + 1)).toNat false) (IntKind.i64.wrap (p3 + 1))).bind fun x9 => some (((List.replicate (IntKind.i64.wrap ((p0.s_.length : Int) + 1)).toNat false).set (IntKind.i64.wrap (p3 + 1)).toNat true), p0.told_)) (some ((List.replicate (IntKind.i64.wrap ((p0.s_.length : Int) + 1)).toNat false), p0.told_))) (iteB (x4.Kind == 6) ((ixV (List.replicate (IntKind.i64.wrap ((p0.s_.length : Int) + 1)).toNat false) p3).bind fun x10 => some (((List.replicate (IntKind.i64.wrap ((p0.s_.length : Int) + 1)).toNat false).set p3.toNat (p3 == 0)), p0.told_)) (iteB (x4.Kind == 7) ((ixV (List.replicate (IntKind.i64.wrap ((p0.s_.length : Int) + 1)).toNat false) p3).bind fun x11 => some (((List.replicate (IntKind.i64.wrap ((p0.s_.length : Int) + 1)).toNat false).set p3.toNat (p3 == (p0.s_.length : Int))), p0.told_)) (iteB (x4.Kind == 3) ((S.M_groups_ender_ends p0 x4.A (0 : Int) p3).bind fun (x12, x13) => (M_groups_join_sOV (List.replicate (IntKind.i64.wrap ((p0.s_.length : Int) + 1)).toNat false) x12).bind fun x14 => (S.M_groups_ender_ends (⟨p0.t_, p0.s_, x13⟩ : S_groups_ender) x4.B (0 : Int) p3).bind fun (x15, x16) => (M_groups_join_sOV x14 x15).bind fun x17 => some (x17, x16)) (iteB (x4.Kind == 5) ((S.M_groups_ender_ends p0 x4.A (0 : Int) p3).bind fun (x18, x19) => (M_groups_join_sOV (List.replicate (IntKind.i64.wrap ((p0.s_.length : Int) + 1)).toNat false) x18).bind fun x20 => some (x20, x19)) (iteB (x4.Kind == 2) ((S.M_groups_ender_ends p0 x4.A (0 : Int) p3).bind fun (x21, x22) => (loop (M_groups_ender_ends_L0 S p0 x4 x21) (x22, (List.replicate (IntKind.i64.wrap ((p0.s_.length : Int) + 1)).toNat false), (0 : Int))).bind fun (x26, x27) => some (x27, x26)) (iteB (x4.Kind == 4) ((S.M_groups_ender_rest_sPOIII p0 (List.replicate (IntKind.i64.wrap ((p0.s_.length : Int) + 1)).toNat false) p1 p2 p3).bind fun (x34, x35) => some (x35, x34)) (some ((List.replicate (IntKind.i64.wrap ((p0.s_.length : Int) + 1)).toNat false), p0.told_))))))))) : Option (((List Bool) × (List (S_groups_spot × (List Bool)))))).bind fun (x2, x3) => need (decide (0 < x2.length)) <| some (x2, (mput x3 (⟨p1, p2, p3⟩ : S_groups_spot) x2)))
theorem okB_groups_ender_ends {S : SC_groups_ender_rest_sPOIII} (hS : OkSC_groups_ender_rest_sPOIII S) {p0 p1 p2 p3 bp0 bp0_3 q0 u1} (hm : B_groups_ender_ends S p0 p1 p2 p3 = some (q0, u1)) (hc : canL (cfg.still 40) av = [.ptr (some (bp0, 0)), Ai p1, Ai p2, Ai p3]) (A : HH g h [.obj bp0 (.cells none 2 [vs e_S_tree_Node p0.t_.Nodes, Ai p0.t_.Root, .str p0.s_, .map (some bp0_3)]), .obj bp0_3 (.map 2 (encM (fun k : S_groups_spot => .agg (e_S_groups_spot k)) (fun v : List Bool => vs eB v) p0.told_))] F) : ∃ v h', Runs cfg g h 40 av v h' ∧ v = vs eB q0 ∧ HH g h' [.obj bp0 (.cells none 2 [vs e_S_tree_Node p0.t_.Nodes, Ai p0.t_.Root, .str p0.s_, .map (some bp0_3)]), .obj bp0_3 (.map 2 (encM (fun k : S_groups_spot => .agg (e_S_groups_spot k)) (fun v : List Bool => vs eB v) u1))] F := by
 refine rq7 158 [.tmp 8] hc ?_
 clear hc
 unfold B_groups_ender_ends at hm
 refine bg 158 [(0, .ptr (some (bp0, 0))), (1, Ai p1), (2, Ai p2), (3, Ai p3)] fun fr H => ?_
 refine aw_sr 1 (at_S 1 [] 6 H fun fr H => ?_)
 obtain ⟨h1, e1, A⟩ := A.pu (.cells none 2 [Ai 0, Ai 0, Ai 0])
 refine at_gn 4 [(19, .agg [Ai p1, Ai p2, Ai p3])] 9 (.ptr (some (h.size, 0))) e1 H fun fr t H => ?_
 obtain ⟨h2, hx, A⟩ := A.s0 0 [Ai p1, Ai p2, Ai p3] [_, _, _]
 refine at_lS hx H fun fr t H => ?_
 refine at_nl id (aw_sq (aw_sq (aw_dg 2 11 ?_)))
 refine at_gl 3 [] 24 1 3 A H fun fr t H => ?_
 refine at_l1 25 _ _ H (fun fr => .of (s_ldA (by kernel_rfl) (A.ldA 0 rfl (o := 0) (n := 3) ⟨Nat.le_of_ble_eq_true rfl, rfl⟩))) fun fr t H => ?_
 rcases optM_some hm with ⟨x1, hq1, hm⟩ | ⟨hq1, hm⟩
 ·refine at_l1 26 (.tuple [vs eB x1, .bool true]) h2 H (fun fr => .of (s_lkT (by kernel_rfl) (HH.mlookS (kt := 131) (et := 87) (ek := fun k : S_groups_spot => .agg (e_S_groups_spot k)) (ev := fun v : List Bool => vs eB v) key_S_groups_spot A 2 rfl (t := 84) (by kernel_rfl) (zv := .slice none 0) (by kernel_rfl) (k := (⟨p1, p2, p3⟩ : S_groups_spot)) (v := x1) hq1))) fun fr t H => ?_
  refine at_S 5 [(10, vs eB x1), (11, .bool true)] 1 H fun fr H => at_L 1 [(29, .bool true)] H fun fr H => aw_true (x := .tmp 29) (by kernel_rfl) H (fun fr => by kernel_rfl) ?_
  refine aw_sr 2 (at_L 2 [(8, vs eB x1)] H fun fr H => aw_rt ?_)
  obtain ⟨rfl, rfl⟩ := injB hm
  refine ⟨.inl rfl, vs eB x1, rH H, ?_⟩
  refine ⟨vs eB x1, h2, by first | rfl | (simp only [fz3T, fz3A, fz3B, fz3R, fz2A, fz2R, fz2V, fz2I, fz2B, fz2S, fz2N, fzL0, fzL1, fz1I, fz1B, fz1S, fz1V, fz1N, Option.map_some] <;> rfl), ?_⟩
  replace A := A.k2 1 2
  exact ⟨rfl, A⟩
 refine at_l1 26 (.tuple [.slice none 0, .bool false]) h2 H (fun fr => .of (s_lkT (by kernel_rfl) (HH.mlookO (kt := 131) (et := 87) (ek := fun k : S_groups_spot => .agg (e_S_groups_spot k)) (ev := fun v : List Bool => vs eB v) key_S_groups_spot A 2 rfl (t := 84) (by kernel_rfl) (zv := .slice none 0) (by kernel_rfl) (k := (⟨p1, p2, p3⟩ : S_groups_spot)) hq1))) fun fr t H => ?_
 refine at_S 5 [(10, .slice none 0), (11, .bool false)] 1 H fun fr H => at_L 1 [(29, .bool false)] H fun fr H => aw_false (x := .tmp 29) (by kernel_rfl) H (fun fr => by kernel_rfl) ?_
 refine aw_ks 8 id (at_gl 3 [] 34 1 2 A H fun fr t H => ?_)
 obtain ⟨hb, hm⟩ := need_some hm
 obtain ⟨h3, e2, A⟩ := A.pL 4 (lst eB (List.replicate (IntKind.i64.wrap ((p0.s_.length : Int) + 1)).toNat false))
 refine at_g1 2 [] 37 (rowV (some h2.size) (List.replicate (IntKind.i64.wrap ((p0.s_.length : Int) + 1)).toNat false).length) h3 H (fun fr => .of (s_mkO (e := eB) encB (x := false) (by kernel_rfl) hb (congrArg some e2.symm))) fun fr t H => ?_
 refine at_L 1 [(12, rowV (some h2.size) ((List.replicate (IntKind.i64.wrap ((p0.s_.length : Int) + 1)).toNat false).length))] H fun fr H => aw_sq ?_
 obtain ⟨o1, ho, hm⟩ := bind_some hm
 refine aw_mono (Q' := fun e fr' h' => (∃ x2 x3, e = .normal ∧ (x2, x3) = o1 ∧ ∃ (hl1 : x2.length = (List.replicate (IntKind.i64.wrap ((p0.s_.length : Int) + 1)).toNat false).length), Has fr' 158 [(0, .ptr (some (bp0, 0))), (9, .ptr (some (h.size, 0))), (12, rowV (some h2.size) x2.length)] ∧ HH g h' [.lst (some h2.size) 4 (lst eB x2), .obj h.size (.cells none 2 [Ai p1, Ai p2, Ai p3]), .obj bp0 (.cells none 2 [vs e_S_tree_Node p0.t_.Nodes, Ai p0.t_.Root, .str p0.s_, .map (some bp0_3)]), .obj bp0_3 (.map 2 (encM (fun k : S_groups_spot => .agg (e_S_groups_spot k)) (fun v : List Bool => vs eB v) x3))] F) ∨ False) ?_ ?_
 ·replace hm := ho
  clear ho
  refine aw_sr 10 (at_gl 4 [] 42 2 0 A H fun fr t H => ?_)
  obtain ⟨x4, hx, hm⟩ := bind_some hm
  refine at_g1 1 [] 44 (.vptr (e_S_tree_Node x4)) h3 H (fun fr => .of (s_ixV (e := e_S_tree_Node) (x := x4) enc_S_tree_Node (by decide) (by kernel_rfl) hx)) fun fr t H => ?_
  refine at_l1 45 (.agg (e_S_tree_Node x4)) h3 H (fun fr => .of (s_lv (by kernel_rfl))) fun fr t H => ?_
  obtain ⟨h4, e3, A⟩ := A.pu (.cells none 2 [Ai 0, Ai 0, Ai 0, Ai 0, Ai 0, Ai 0, Au 0, Au 0, Au 0, Au 0])
  refine at_ln 13 (.ptr (some (h3.size, 0))) e3 H fun fr t H => ?_
  obtain ⟨h5, hx, A1⟩ := A.st 0 rfl (o := 0) (new := (e_S_tree_Node x4)) (ds := (e_S_tree_Node x4)) (Nat.le_of_ble_eq_true rfl) rfl rfl
  replace A : HH g h5 [.obj h3.size (.cells none 2 (e_S_tree_Node x4)), .lst (some h2.size) 4 (lst eB (List.replicate (IntKind.i64.wrap ((p0.s_.length : Int) + 1)).toNat false)), _, _, _] F := A1
  refine at_lS hx H fun fr t H => ?_
  refine at_ns 2 id (at_gl 1 [] 47 0 0 A H fun fr t H => ?_)
  refine at_nl id (aw_block (id := 0) (by kernel_rfl) ?_)
  refine aw_sr 2 (at_L 2 [(48, .bool (x4.Kind == 0))] H fun fr H => aw_if 48 H hm (fun hb hm H => ?_) fun hb hm H => ?_)
  ·refine aw_rg 4 ?_
   obtain ⟨x5, hx, hm⟩ := bind_some hm
   obtain ⟨i1, er1, _, hx, hq2⟩ := HH.ixO encB (by decide) A 1 (xs := (List.replicate (IntKind.i64.wrap ((p0.s_.length : Int) + 1)).toNat false)) rfl hx
   refine at_g1 2 [] 52 (.ptr (some (i1, p3.toNat * 1))) h5 H (fun fr => .of (s_ixL (s := rowS (some h2.size) ((List.replicate (IntKind.i64.wrap ((p0.s_.length : Int) + 1)).toNat false).length)) (by kernel_rfl) hx)) fun fr t H => ?_
   obtain ⟨h6, hx, A1⟩ := HH.stO encB A 1 rfl er1 hq2 (y := true) (o := 0) (new := [.bool true]) rfl rfl (Nat.le_of_ble_eq_true rfl)
   have hl2 : ((List.replicate (IntKind.i64.wrap ((p0.s_.length : Int) + 1)).toNat false).set p3.toNat true).length = (List.replicate (IntKind.i64.wrap ((p0.s_.length : Int) + 1)).toNat false).length := List.length_set
   have el : rowV (some h2.size) (List.replicate (IntKind.i64.wrap ((p0.s_.length : Int) + 1)).toNat false).length = rowV (some h2.size) ((List.replicate (IntKind.i64.wrap ((p0.s_.length : Int) + 1)).toNat false).set p3.toNat true).length := congrArg _ List.length_set.symm
   try rw [el] at H
   try rw [el] at A1
   replace A : HH g h6 [_, .lst (some h2.size) 4 (lst eB ((List.replicate (IntKind.i64.wrap ((p0.s_.length : Int) + 1)).toNat false).set p3.toNat true)), _, _, _] F := A1
   refine at_ls hx H fun fr t H => ?_
   refine at_nil ?_
   replace A := A.k4 1 2 3 4
   exact .inl ⟨_, _, rfl, injA hm, hl2, H.ls, A⟩
  refine aw_sr 2 (at_L 2 [(53, .bool (x4.Kind == 1))] H fun fr H => aw_if 53 H hm (fun hb hm H => ?_) fun hb hm H => ?_)
  ·refine aw_sq (aw_dg 11 18 ?_)
   refine at_gl 4 [(55, Ai p3)] 59 3 2 A H fun fr t H => ?_
   refine at_sl 3 [(62, .bool (decide (p3 < (p0.s_.length : Int))))] H fun fr H => ?_
   obtain ⟨x6, ho, hm⟩ := bind_some hm
   refine at_cl 10 (fun fr' h' => Has fr' 158 [(0, .ptr (some (bp0, 0))), (3, Ai p3), (9, .ptr (some (h.size, 0))), (12, rowV (some h2.size) ((List.replicate (IntKind.i64.wrap ((p0.s_.length : Int) + 1)).toNat false).length)), (72, .bool x6)] ∧ HH g h' [.obj h3.size (.cells none 2 (e_S_tree_Node x4)), .lst (some h2.size) 4 (lst eB (List.replicate (IntKind.i64.wrap ((p0.s_.length : Int) + 1)).toNat false)), .obj h.size (.cells none 2 [Ai p1, Ai p2, Ai p3]), .obj bp0 (.cells none 2 [vs e_S_tree_Node p0.t_.Nodes, Ai p0.t_.Root, .str p0.s_, .map (some bp0_3)]), .obj bp0_3 (.map 2 (encM (fun k : S_groups_spot => .agg (e_S_groups_spot k)) (fun v : List Bool => vs eB v) p0.told_))] F) ?_ ?_
   ·rcases iteB_some ho with ⟨hb, hm⟩ | ⟨hb, hm⟩
    ·replace H := H.kn 62 hb
     refine at_g1 1 [] 64 _ _ H (fun fr => .of (s_ldA (by kernel_rfl) (A.ldA 0 rfl (o := 6) (n := 4) ⟨Nat.le_of_ble_eq_true rfl, rfl⟩))) fun fr t H => ?_
     refine at_gl 3 [] 68 3 2 A H fun fr t H => ?_
     obtain ⟨x7, hx, hm⟩ := bind_some hm
     refine at_g1 1 [] 70 (Ab x7) h5 H (fun fr => .of (s_ixS (by kernel_rfl) hx)) fun fr t H => ?_
     obtain ⟨x8, hx, hm⟩ := bind_some hm
     obtain ⟨v1, h8, hr, rfl, A1⟩ := ok_class_Set_Has (av := [.agg (e_A4_uint64 x4.Set), Ab x7]) hx (A.cut 0)
     replace A := A.g00 A1
     refine at_lc1 71 hr H fun fr t H => ?_
     refine at_sl 1 [(72, .bool x8)] H fun fr H => ?_
     obtain rfl := injA hm
     exact at_nil ⟨H.ls, A⟩
    replace H := H.kn 62 hb
    refine at_sl 10 [(72, .bool false)] H fun fr H => ?_
    obtain rfl := injA hm
    exact at_nil ⟨H.ls, A⟩
   clear A
   intro t fr h7 hK
   obtain ⟨H, A⟩ := hK
   refine at_nl id (aw_if 72 H hm (fun hb hm H => ?_) fun hb hm H => ?_)
   ·refine aw_rg 5 ?_
    obtain ⟨x9, hx, hm⟩ := bind_some hm
    obtain ⟨i2, er2, _, hx, hq3⟩ := HH.ixO encB (by decide) A 1 (xs := (List.replicate (IntKind.i64.wrap ((p0.s_.length : Int) + 1)).toNat false)) rfl hx
    refine at_g1 3 [] 76 (.ptr (some (i2, (IntKind.i64.wrap (p3 + 1)).toNat * 1))) h7 H (fun fr => .of (s_ixL (s := rowS (some h2.size) ((List.replicate (IntKind.i64.wrap ((p0.s_.length : Int) + 1)).toNat false).length)) (by kernel_rfl) hx)) fun fr t H => ?_
    obtain ⟨h9, hx, A1⟩ := HH.stO encB A 1 rfl er2 hq3 (y := true) (o := 0) (new := [.bool true]) rfl rfl (Nat.le_of_ble_eq_true rfl)
    have hl3 : ((List.replicate (IntKind.i64.wrap ((p0.s_.length : Int) + 1)).toNat false).set (IntKind.i64.wrap (p3 + 1)).toNat true).length = (List.replicate (IntKind.i64.wrap ((p0.s_.length : Int) + 1)).toNat false).length := List.length_set
    have el : rowV (some h2.size) (List.replicate (IntKind.i64.wrap ((p0.s_.length : Int) + 1)).toNat false).length = rowV (some h2.size) ((List.replicate (IntKind.i64.wrap ((p0.s_.length : Int) + 1)).toNat false).set (IntKind.i64.wrap (p3 + 1)).toNat true).length := congrArg _ List.length_set.symm
    try rw [el] at H
    try rw [el] at A1
    replace A : HH g h9 [_, .lst (some h2.size) 4 (lst eB ((List.replicate (IntKind.i64.wrap ((p0.s_.length : Int) + 1)).toNat false).set (IntKind.i64.wrap (p3 + 1)).toNat true)), _, _, _] F := A1
    refine at_ls hx H fun fr t H => ?_
    refine at_nil ?_
    replace A := A.k4 1 2 3 4
    exact .inl ⟨_, _, rfl, injA hm, hl3, H.ls, A⟩
   refine aw_sk ?_
   replace A := A.k4 1 2 3 4
   exact .inl ⟨_, _, rfl, injA hm, rfl, H.ls, A⟩
  refine aw_sr 2 (at_L 2 [(77, .bool (x4.Kind == 6))] H fun fr H => aw_if 77 H hm (fun hb hm H => ?_) fun hb hm H => ?_)
  ·refine aw_rg 6 ?_
   obtain ⟨x10, hx, hm⟩ := bind_some hm
   obtain ⟨i3, er3, _, hx, hq4⟩ := HH.ixO encB (by decide) A 1 (xs := (List.replicate (IntKind.i64.wrap ((p0.s_.length : Int) + 1)).toNat false)) rfl hx
   refine at_g1 4 [(82, .bool (p3 == 0))] 83 (.ptr (some (i3, p3.toNat * 1))) h5 H (fun fr => .of (s_ixL (s := rowS (some h2.size) ((List.replicate (IntKind.i64.wrap ((p0.s_.length : Int) + 1)).toNat false).length)) (by kernel_rfl) hx)) fun fr t H => ?_
   obtain ⟨h10, hx, A1⟩ := HH.stO encB A 1 rfl er3 hq4 (y := p3 == 0) (o := 0) (new := [.bool (p3 == 0)]) rfl rfl (Nat.le_of_ble_eq_true rfl)
   have hl4 : ((List.replicate (IntKind.i64.wrap ((p0.s_.length : Int) + 1)).toNat false).set p3.toNat (p3 == 0)).length = (List.replicate (IntKind.i64.wrap ((p0.s_.length : Int) + 1)).toNat false).length := List.length_set
   have el : rowV (some h2.size) (List.replicate (IntKind.i64.wrap ((p0.s_.length : Int) + 1)).toNat false).length = rowV (some h2.size) ((List.replicate (IntKind.i64.wrap ((p0.s_.length : Int) + 1)).toNat false).set p3.toNat (p3 == 0)).length := congrArg _ List.length_set.symm
   try rw [el] at H
   try rw [el] at A1
   replace A : HH g h10 [_, .lst (some h2.size) 4 (lst eB ((List.replicate (IntKind.i64.wrap ((p0.s_.length : Int) + 1)).toNat false).set p3.toNat (p3 == 0))), _, _, _] F := A1
   refine at_ls hx H fun fr t H => ?_
   refine at_nil ?_
   replace A := A.k4 1 2 3 4
   exact .inl ⟨_, _, rfl, injA hm, hl4, H.ls, A⟩
  refine aw_sr 2 (at_L 2 [(84, .bool (x4.Kind == 7))] H fun fr H => aw_if 84 H hm (fun hb hm H => ?_) fun hb hm H => ?_)
  ·refine aw_rg 11 (at_gl 6 [(86, rowV (some h2.size) ((List.replicate (IntKind.i64.wrap ((p0.s_.length : Int) + 1)).toNat false).length)), (87, Ai p3), (88, Ai p3)] 92 3 2 A H fun fr t H => ?_)
   obtain ⟨x11, hx, hm⟩ := bind_some hm
   obtain ⟨i4, er4, _, hx, hq5⟩ := HH.ixO encB (by decide) A 1 (xs := (List.replicate (IntKind.i64.wrap ((p0.s_.length : Int) + 1)).toNat false)) rfl hx
   refine at_g1 2 [(94, .bool (p3 == (p0.s_.length : Int)))] 95 (.ptr (some (i4, p3.toNat * 1))) h5 H (fun fr => .of (s_ixL (s := rowS (some h2.size) ((List.replicate (IntKind.i64.wrap ((p0.s_.length : Int) + 1)).toNat false).length)) (by kernel_rfl) hx)) fun fr t H => ?_
   obtain ⟨h11, hx, A1⟩ := HH.stO encB A 1 rfl er4 hq5 (y := p3 == (p0.s_.length : Int)) (o := 0) (new := [.bool (p3 == (p0.s_.length : Int))]) rfl rfl (Nat.le_of_ble_eq_true rfl)
   have hl5 : ((List.replicate (IntKind.i64.wrap ((p0.s_.length : Int) + 1)).toNat false).set p3.toNat (p3 == (p0.s_.length : Int))).length = (List.replicate (IntKind.i64.wrap ((p0.s_.length : Int) + 1)).toNat false).length := List.length_set
   have el : rowV (some h2.size) (List.replicate (IntKind.i64.wrap ((p0.s_.length : Int) + 1)).toNat false).length = rowV (some h2.size) ((List.replicate (IntKind.i64.wrap ((p0.s_.length : Int) + 1)).toNat false).set p3.toNat (p3 == (p0.s_.length : Int))).length := congrArg _ List.length_set.symm
   try rw [el] at H
   try rw [el] at A1
   replace A : HH g h11 [_, .lst (some h2.size) 4 (lst eB ((List.replicate (IntKind.i64.wrap ((p0.s_.length : Int) + 1)).toNat false).set p3.toNat (p3 == (p0.s_.length : Int)))), _, _, _] F := A1
   refine at_ls hx H fun fr t H => ?_
   refine at_nil ?_
   replace A := A.k4 1 2 3 4
   exact .inl ⟨_, _, rfl, injA hm, hl5, H.ls, A⟩
  refine aw_sr 2 (at_L 2 [(96, .bool (x4.Kind == 3))] H fun fr H => aw_if 96 H hm (fun hb hm H => ?_) fun hb hm H => ?_)
  ·refine aw_sr 7 (at_gl 3 [(98, rowV (some h2.size) ((List.replicate (IntKind.i64.wrap ((p0.s_.length : Int) + 1)).toNat false).length)), (99, .ptr (some (bp0, 0)))] 101 0 1 A H fun fr t H => ?_)
   replace A := A.k5 3 4 0 1 2
   have A1 := A.cut 2
   obtain ⟨⟨x12, x13⟩, hx, hm⟩ := bind_some hm
   obtain ⟨v1, h12, hr, rfl, A1⟩ := hS.ok_groups_ender_ends (av := [.ptr (some (bp0, 0)), Ai x4.A, Ai 0, Ai p3]) hx (by kernel_rfl) A1
   replace A := A.g22 A1
   refine at_gc1 1 [] 103 hr H fun fr t H => ?_
   replace A := A.k5 3 0 1 2 4
   obtain ⟨x14, hx, hm⟩ := bind_some hm
   obtain ⟨v1, h13, hr, hl6, rfl, A1⟩ := ok_groups_join_sOV (av := [rowV (some h2.size) ((List.replicate (IntKind.i64.wrap ((p0.s_.length : Int) + 1)).toNat false).length), vs eB x12]) hx (A.cut 1)
   have hl7 : x14.length = (List.replicate (IntKind.i64.wrap ((p0.s_.length : Int) + 1)).toNat false).length := hl6
   have el : rowV (some h2.size) (List.replicate (IntKind.i64.wrap ((p0.s_.length : Int) + 1)).toNat false).length = rowV (some h2.size) x14.length := congrArg _ hl6.symm
   try rw [el] at H
   try rw [el] at hr
   try rw [el] at A1
   replace A := A.g11 A1
   refine at_lc0 hr H fun fr t H => ?_
   refine at_nr 7 id (at_gl 3 [(105, rowV (some h2.size) x14.length), (106, .ptr (some (bp0, 0)))] 108 3 2 A H fun fr t H => ?_)
   replace A := A.k5 1 2 0 3 4
   have A1 := A.cut 2
   obtain ⟨⟨x15, x16⟩, hx, hm⟩ := bind_some hm
   obtain ⟨v1, h14, hr, rfl, A1⟩ := hS.ok_groups_ender_ends (av := [.ptr (some (bp0, 0)), Ai x4.B, Ai 0, Ai p3]) hx (by kernel_rfl) A1
   replace A := A.g22 A1
   refine at_gc1 1 [] 110 hr H fun fr t H => ?_
   replace A := A.k5 2 0 1 3 4
   obtain ⟨x17, hx, hm⟩ := bind_some hm
   obtain ⟨v1, h15, hr, hl8, rfl, A1⟩ := ok_groups_join_sOV (av := [rowV (some h2.size) x14.length, vs eB x15]) hx (A.cut 1)
   have hl9 : x17.length = (List.replicate (IntKind.i64.wrap ((p0.s_.length : Int) + 1)).toNat false).length := hl8.trans hl7
   have el : rowV (some h2.size) x14.length = rowV (some h2.size) x17.length := congrArg _ hl8.symm
   try rw [el] at H
   try rw [el] at hr
   try rw [el] at A1
   replace A := A.g11 A1
   refine at_lc0 hr H fun fr t H => ?_
   refine at_nil ?_
   replace A := A.k4 0 4 1 2
   exact .inl ⟨_, _, rfl, injA hm, hl9, H.ls, A⟩
  refine aw_sr 2 (at_L 2 [(112, .bool (x4.Kind == 5))] H fun fr H => aw_if 112 H hm (fun hb hm H => ?_) fun hb hm H => ?_)
  ·refine aw_rg 7 (at_gl 3 [(114, rowV (some h2.size) ((List.replicate (IntKind.i64.wrap ((p0.s_.length : Int) + 1)).toNat false).length)), (115, .ptr (some (bp0, 0)))] 117 0 1 A H fun fr t H => ?_)
   replace A := A.k5 3 4 0 1 2
   have A1 := A.cut 2
   obtain ⟨⟨x18, x19⟩, hx, hm⟩ := bind_some hm
   obtain ⟨v1, h16, hr, rfl, A1⟩ := hS.ok_groups_ender_ends (av := [.ptr (some (bp0, 0)), Ai x4.A, Ai 0, Ai p3]) hx (by kernel_rfl) A1
   replace A := A.g22 A1
   refine at_gc1 1 [] 119 hr H fun fr t H => ?_
   replace A := A.k5 3 0 1 2 4
   obtain ⟨x20, hx, hm⟩ := bind_some hm
   obtain ⟨v1, h17, hr, hl10, rfl, A1⟩ := ok_groups_join_sOV (av := [rowV (some h2.size) ((List.replicate (IntKind.i64.wrap ((p0.s_.length : Int) + 1)).toNat false).length), vs eB x18]) hx (A.cut 1)
   have hl11 : x20.length = (List.replicate (IntKind.i64.wrap ((p0.s_.length : Int) + 1)).toNat false).length := hl10
   have el : rowV (some h2.size) (List.replicate (IntKind.i64.wrap ((p0.s_.length : Int) + 1)).toNat false).length = rowV (some h2.size) x20.length := congrArg _ hl10.symm
   try rw [el] at H
   try rw [el] at hr
   try rw [el] at A1
   replace A := A.g11 A1
   refine at_lc0 hr H fun fr t H => ?_
   refine at_nil ?_
   replace A := A.k4 0 4 1 2
   exact .inl ⟨_, _, rfl, injA hm, hl11, H.ls, A⟩
  refine aw_sr 2 (at_L 2 [(121, .bool (x4.Kind == 2))] H fun fr H => aw_if 121 H hm (fun hb hm H => ?_) fun hb hm H => ?_)
  ·refine aw_sr 7 (at_gl 2 [(123, .ptr (some (bp0, 0)))] 125 0 1 A H fun fr t H => ?_)
   replace A := A.k5 3 4 0 1 2
   have A1 := A.cut 2
   obtain ⟨⟨x21, x22⟩, hx, hm⟩ := bind_some hm
   obtain ⟨v1, h18, hr, rfl, A1⟩ := hS.ok_groups_ender_ends (av := [.ptr (some (bp0, 0)), Ai x4.A, Ai 0, Ai p3]) hx (by kernel_rfl) A1
   replace A := A.g22 A1
   refine at_gc1 1 [] 127 hr H fun fr t H => ?_
   refine at_L 2 [(128, Ai (x21.length : Int)), (129, Ai 0)] H fun fr H => aw_block (id := 1) (by kernel_rfl) ?_
   obtain ⟨o2, ho, hm⟩ := bind_some hm
   refine aw_mono (Q' := fun e fr' h' => (∃ x26 x27, e = .exit 1 ∧ (x26, x27) = o2 ∧ ∃ (hl13 : x27.length = (List.replicate (IntKind.i64.wrap ((p0.s_.length : Int) + 1)).toNat false).length), Has fr' 158 [(0, .ptr (some (bp0, 0))), (9, .ptr (some (h.size, 0))), (12, rowV (some h2.size) x27.length)] ∧ HH g h' [.obj bp0 (.cells none 2 [vs e_S_tree_Node p0.t_.Nodes, Ai p0.t_.Root, .str p0.s_, .map (some bp0_3)]), .obj bp0_3 (.map 2 (encM (fun k : S_groups_spot => .agg (e_S_groups_spot k)) (fun v : List Bool => vs eB v) x26)), .obj h3.size (.cells none 2 (e_S_tree_Node x4)), .lst (some h2.size) 4 (lst eB x27), .obj h.size (.cells none 2 [Ai p1, Ai p2, Ai p3])] F) ∨ False) ?_ ?_
   ·refine aw_loop (by kernel_rfl) (fun (s : (List (S_groups_spot × (List Bool))) × (List Bool) × Int) fr' h' => ∃ x23 x24 x25, (x23, x24, x25) = s ∧ ∃ (hl12 : x24.length = (List.replicate (IntKind.i64.wrap ((p0.s_.length : Int) + 1)).toNat false).length), Has fr' 158 [(0, .ptr (some (bp0, 0))), (9, .ptr (some (h.size, 0))), (12, rowV (some h2.size) x24.length), (13, .ptr (some (h3.size, 0))), (127, vs eB x21), (128, Ai (x21.length : Int)), (129, Ai x25)] ∧ HH g h' [.obj bp0 (.cells none 2 [vs e_S_tree_Node p0.t_.Nodes, Ai p0.t_.Root, .str p0.s_, .map (some bp0_3)]), .obj bp0_3 (.map 2 (encM (fun k : S_groups_spot => .agg (e_S_groups_spot k)) (fun v : List Bool => vs eB v) x23)), .obj h3.size (.cells none 2 (e_S_tree_Node x4)), .lst (some h2.size) 4 (lst eB x24), .obj h.size (.cells none 2 [Ai p1, Ai p2, Ai p3])] F) ho ⟨_, _, _, rfl, rfl, H.ls, A⟩ ?_
    clear ho hm H A
    intro s q fr h19 hI hm
    obtain ⟨x23, x24, x25, rfl, hl12, H, A⟩ := hI
    unfold M_groups_ender_ends_L0 at hm
    refine aw_sr 1 (at_L 1 [(130, .bool (decide (x25 < (x21.length : Int))))] H fun fr H => aw_sq (aw_if 130 H hm (fun hb hm H => ?_) fun hb hm H => ?_))
    ·refine aw_kn id (aw_sq ?_)
     obtain ⟨o3, ho, hm⟩ := bind_some hm
     refine aw_mono (Q' := fun e fr' h' => (∃ x28 x29, e = .normal ∧ (x28, x29) = o3 ∧ ∃ (hl14 : x29.length = (List.replicate (IntKind.i64.wrap ((p0.s_.length : Int) + 1)).toNat false).length), Has fr' 158 [(0, .ptr (some (bp0, 0))), (9, .ptr (some (h.size, 0))), (12, rowV (some h2.size) x29.length), (13, .ptr (some (h3.size, 0))), (127, vs eB x21), (128, Ai (x21.length : Int)), (129, Ai x25)] ∧ HH g h' [.obj bp0 (.cells none 2 [vs e_S_tree_Node p0.t_.Nodes, Ai p0.t_.Root, .str p0.s_, .map (some bp0_3)]), .obj bp0_3 (.map 2 (encM (fun k : S_groups_spot => .agg (e_S_groups_spot k)) (fun v : List Bool => vs eB v) x28)), .obj h3.size (.cells none 2 (e_S_tree_Node x4)), .lst (some h2.size) 4 (lst eB x29), .obj h.size (.cells none 2 [Ai p1, Ai p2, Ai p3])] F) ∨ False) ?_ ?_
     ·replace hm := ho
      clear ho
      refine aw_block (id := 2) (by kernel_rfl) ?_
      refine aw_sr 5 ?_
      obtain ⟨x30, hx, hm⟩ := bind_some hm
      refine at_g1 1 [(131, Ai x25)] 132 (.vptr [.bool x30]) h19 H (fun fr => .of (s_ixV (e := eB) (x := x30) encB (by decide) (by kernel_rfl) hx)) fun fr t H => ?_
      refine at_l1 133 (.bool x30) h19 H (fun fr => .of (s_lv (by kernel_rfl))) fun fr t H => ?_
      refine at_S 2 [(14, Ai x25), (15, .bool x30)] 1 H fun fr H => at_L 1 [(134, .bool x30)] H fun fr H => aw_if 134 H hm (fun hb hm H => ?_) fun hb hm H => ?_
      ·refine aw_rg 7 (at_gl 3 [(135, rowV (some h2.size) x24.length), (136, .ptr (some (bp0, 0)))] 138 2 2 A H fun fr t H => ?_)
       have A1 := A.cut 2
       obtain ⟨⟨x31, x32⟩, hx, hm⟩ := bind_some hm
       obtain ⟨v1, h20, hr, rfl, A1⟩ := hS.ok_groups_ender_ends (av := [.ptr (some (bp0, 0)), Ai x4.B, Ai 0, Ai x25]) hx (by kernel_rfl) A1
       replace A := A.g22 A1
       refine at_gc1 1 [] 140 hr H fun fr t H => ?_
       replace A := A.k5 3 0 1 2 4
       obtain ⟨x33, hx, hm⟩ := bind_some hm
       obtain ⟨v1, h21, hr, hl15, rfl, A1⟩ := ok_groups_join_sOV (av := [rowV (some h2.size) x24.length, vs eB x31]) hx (A.cut 1)
       have hl16 : x33.length = (List.replicate (IntKind.i64.wrap ((p0.s_.length : Int) + 1)).toNat false).length := hl15.trans hl12
       have el : rowV (some h2.size) x24.length = rowV (some h2.size) x33.length := congrArg _ hl15.symm
       try rw [el] at H
       try rw [el] at hr
       try rw [el] at A1
       replace A := A.g11 A1
       refine at_lc0 hr H fun fr t H => ?_
       refine at_nil ?_
       replace A := A.k5 1 2 3 0 4
       exact .inl ⟨_, _, rfl, injA hm, hl16, H.ls, A⟩
      exact aw_sk (.inl ⟨_, _, rfl, injA hm, hl12, H.ls, A⟩)
     clear ho
     clear A
     intro e fr h22 hQ
     rcases hQ with ⟨x28, x29, rfl, rfl, hl14, H, A⟩ | hF
     ·show AW _ _ _ _ _ _ _
      refine aw_rg 2 (at_se 2 [(0, .ptr (some (bp0, 0))), (9, .ptr (some (h.size, 0))), (12, rowV (some h2.size) x29.length), (13, .ptr (some (h3.size, 0))), (127, vs eB x21), (128, Ai (x21.length : Int)), (129, Ai (IntKind.i64.wrap (x25 + 1)))] H fun fr H => at_nil ?_)
      exact nx hm ⟨_, _, _, rfl, hl14, H.ls, A⟩
     exact hF.elim
    refine aw_exit (i := 1) (by kernel_rfl) ?_
    exact nr hm fun e => .inl ⟨_, _, rfl, e, hl12, H.ls, A⟩
   clear ho
   clear A
   intro e fr h23 hQ
   rcases hQ with ⟨x26, x27, rfl, rfl, hl13, H, A⟩ | hF
   ·replace A := A.k4 3 4 0 1
    exact .inl ⟨_, _, rfl, injA hm, hl13, H.ls, A⟩
   exact hF.elim
  refine aw_sr 2 (at_L 2 [(143, .bool (x4.Kind == 4))] H fun fr H => aw_if 143 H hm (fun hb hm H => ?_) fun hb hm H => ?_)
  ·refine aw_rg 6 ?_
   replace A := A.k5 3 4 1 0 2
   have A1 := A.cut 3
   obtain ⟨⟨x34, x35⟩, hx, hm⟩ := bind_some hm
   obtain ⟨v1, h24, hr, hl17, rfl, A1⟩ := hS.ok_groups_ender_rest_sPOIII (av := [.ptr (some (bp0, 0)), rowV (some h2.size) ((List.replicate (IntKind.i64.wrap ((p0.s_.length : Int) + 1)).toNat false).length), Ai p1, Ai p2, Ai p3]) hx (by kernel_rfl) A1
   have hl18 : x35.length = (List.replicate (IntKind.i64.wrap ((p0.s_.length : Int) + 1)).toNat false).length := hl17
   have el : rowV (some h2.size) (List.replicate (IntKind.i64.wrap ((p0.s_.length : Int) + 1)).toNat false).length = rowV (some h2.size) x35.length := congrArg _ hl17.symm
   try rw [el] at H
   try rw [el] at hr
   try rw [el] at A1
   replace A := A.g33 A1
   refine at_gc0 5 [] hr H fun fr t H => ?_
   refine at_nil ?_
   replace A := A.k4 2 4 0 1
   exact .inl ⟨_, _, rfl, injA hm, hl18, H.ls, A⟩
  refine aw_sk ?_
  replace A := A.k4 1 2 3 4
  exact .inl ⟨_, _, rfl, injA hm, rfl, H.ls, A⟩
 clear ho
 clear A
 intro e fr h25 hQ
 rcases hQ with ⟨x2, x3, rfl, rfl, hl1, H, A⟩ | hF
 ·show AW _ _ _ _ _ _ _
  refine aw_sq (aw_dg 31 7 ?_)
  refine at_gl 3 [] 154 2 3 A H fun fr t H => ?_
  refine at_l1 155 _ _ H (fun fr => .of (s_ldA (by kernel_rfl) (A.ldA 1 rfl (o := 0) (n := 3) ⟨Nat.le_of_ble_eq_true rfl, rfl⟩))) fun fr t H => ?_
  refine at_sl 1 [(156, rowV (some h2.size) x2.length)] H fun fr H => ?_
  obtain ⟨hb, hm⟩ := need_some hm
  obtain ⟨h26, hx, A1, hz1⟩ := HH.msetZ (kt := 131) (et := 87) (ek := fun k : S_groups_spot => .agg (e_S_groups_spot k)) (ev := fun v : List Bool => vs eB v) key_S_groups_spot A 2 rfl (t := 84) (by kernel_rfl) (⟨p1, p2, p3⟩ : S_groups_spot) x2 (q := x2.length) (z := 1) (encB.lenL _) (by decide) (Nat.ne_of_gt (of_decide_eq_true hb)) rfl
  replace A : HH g h26 [_, _, .obj bp0_3 (.map 2 (encM (fun k : S_groups_spot => .agg (e_S_groups_spot k)) (fun v : List Bool => vs eB v) (mput x3 (⟨p1, p2, p3⟩ : S_groups_spot) x2)))] F := A1
  refine at_l0 (.tuple []) h26 H (fun fr => .of (s_ms (by kernel_rfl) hx)) fun fr t H => ?_
  refine at_ns 2 id (at_L 2 [(8, rowV (some h2.size) x2.length)] H fun fr H => aw_rt ?_)
  obtain ⟨rfl, rfl⟩ := injB hm
  refine ⟨.inl rfl, rowV (some h2.size) x2.length, rH H, ?_⟩
  refine ⟨vs eB x2, h26, by first | rfl | (simp only [fz3T, fz3A, fz3B, fz3R, fz2A, fz2R, fz2V, fz2I, fz2B, fz2S, fz2N, fzL0, fzL1, fz1I, fz1B, fz1S, fz1V, fz1N, Option.map_some, hz1] <;> rfl), ?_⟩
  replace A := A.k2 1 2
  exact ⟨rfl, A⟩
 exact hF.elim
def rSC_groups_ender_rest_sPOIII : Nat → SC_groups_ender_rest_sPOIII
 | 0 => ⟨fun _ _ _ _ _ => none, fun _ _ _ _ => none⟩
 | n + 1 => ⟨B_groups_ender_rest_sPOIII (rSC_groups_ender_rest_sPOIII n), B_groups_ender_ends (rSC_groups_ender_rest_sPOIII n)⟩
theorem okrSC_groups_ender_rest_sPOIII  : ∀ n, OkSC_groups_ender_rest_sPOIII (rSC_groups_ender_rest_sPOIII n)
 | 0 => ⟨fun hm => (by cases hm), fun hm => (by cases hm)⟩
 | n + 1 => ⟨fun hm hc A => okB_groups_ender_rest_sPOIII (okrSC_groups_ender_rest_sPOIII n) hm hc A, fun hm hc A => okB_groups_ender_ends (okrSC_groups_ender_rest_sPOIII n) hm hc A⟩
def M_groups_ender_rest_sPOIII : S_groups_ender → (List Bool) → Int → Int → Int → Option ((List (S_groups_spot × (List Bool))) × (List Bool)) := (rSC_groups_ender_rest_sPOIII bigF).M_groups_ender_rest_sPOIII
theorem ok_groups_ender_rest_sPOIII {p0 p1 p2 p3 p4 bp0 bp0_3 rp1 u1 u2} (hm : M_groups_ender_rest_sPOIII p0 p1 p2 p3 p4 = some (u1, u2)) (A : HH g h [.obj bp0 (.cells none 2 [vs e_S_tree_Node p0.t_.Nodes, Ai p0.t_.Root, .str p0.s_, .map (some bp0_3)]), .obj bp0_3 (.map 2 (encM (fun k : S_groups_spot => .agg (e_S_groups_spot k)) (fun v : List Bool => vs eB v) p0.told_)), .lst rp1 4 (lst eB p1)] F) (hc : canL (cfg.still 61) av = [.ptr (some (bp0, 0)), rowV rp1 p1.length, Ai p2, Ai p3, Ai p4] := by kernel_rfl) : ∃ v h', Runs cfg g h 61 av v h' ∧ ∃ (hl'2 : u2.length = p1.length), v = .tuple [] ∧ HH g h' [.obj bp0 (.cells none 2 [vs e_S_tree_Node p0.t_.Nodes, Ai p0.t_.Root, .str p0.s_, .map (some bp0_3)]), .obj bp0_3 (.map 2 (encM (fun k : S_groups_spot => .agg (e_S_groups_spot k)) (fun v : List Bool => vs eB v) u1)), .lst rp1 4 (lst eB u2)] F := (okrSC_groups_ender_rest_sPOIII bigF).ok_groups_ender_rest_sPOIII hm hc A
def M_groups_ender_ends : S_groups_ender → Int → Int → Int → Option ((List Bool) × (List (S_groups_spot × (List Bool)))) := (rSC_groups_ender_rest_sPOIII bigF).M_groups_ender_ends
theorem ok_groups_ender_ends {p0 p1 p2 p3 bp0 bp0_3 q0 u1} (hm : M_groups_ender_ends p0 p1 p2 p3 = some (q0, u1)) (A : HH g h [.obj bp0 (.cells none 2 [vs e_S_tree_Node p0.t_.Nodes, Ai p0.t_.Root, .str p0.s_, .map (some bp0_3)]), .obj bp0_3 (.map 2 (encM (fun k : S_groups_spot => .agg (e_S_groups_spot k)) (fun v : List Bool => vs eB v) p0.told_))] F) (hc : canL (cfg.still 40) av = [.ptr (some (bp0, 0)), Ai p1, Ai p2, Ai p3] := by kernel_rfl) : ∃ v h', Runs cfg g h 40 av v h' ∧ v = vs eB q0 ∧ HH g h' [.obj bp0 (.cells none 2 [vs e_S_tree_Node p0.t_.Nodes, Ai p0.t_.Root, .str p0.s_, .map (some bp0_3)]), .obj bp0_3 (.map 2 (encM (fun k : S_groups_spot => .agg (e_S_groups_spot k)) (fun v : List Bool => vs eB v) u1))] F := (okrSC_groups_ender_rest_sPOIII bigF).ok_groups_ender_ends hm hc A
def M_tree_Tree_used_L0 (p0 : S_tree_Tree) (s : (List Bool) × Int) : Option (((List Bool) × Int) ⊕ (((List Bool)))) :=
 match s with
 | (x2, x3) => iteB (decide (x3 ≥ 0)) (((ixV x2 x3).bind fun x6 => iteB (!x6) (some x2) ((ixV p0.Nodes x3).bind fun x7 => (iteB (x7.Kind == 2) (some true) (some (x7.Kind == 3)) : Option ((Bool))).bind fun x8 => iteB x8 ((ixV x2 x7.A).bind fun x9 => (ixV (x2.set x7.A.toNat true) x7.B).bind fun x10 => some ((x2.set x7.A.toNat true).set x7.B.toNat true)) ((iteB (x7.Kind == 4) (some true) (some (x7.Kind == 5)) : Option ((Bool))).bind fun x11 => iteB x11 ((ixV x2 x7.A).bind fun x12 => some (x2.set x7.A.toNat true)) (some x2))) : Option (((List Bool)))).bind fun x5 => some (.inl (x5, IntKind.i64.wrap (x3 - 1)))) (some (.inr x2))
def M_tree_Tree_used (p0 : S_tree_Tree) : Option ((List Bool)) :=
 need (mkN 1 (p0.Nodes.length : Int)) <| (ixV (List.replicate (p0.Nodes.length : Int).toNat false) p0.Root).bind fun x1 => (loop (M_tree_Tree_used_L0 p0) (((List.replicate (p0.Nodes.length : Int).toNat false).set p0.Root.toNat true), p0.Root)).bind fun x4 => some x4
theorem ok_tree_Tree_used {p0 q0} (hm : M_tree_Tree_used p0 = some q0) (A : HH g h [] F) (hc : canL (cfg.still 62) av = [.agg (e_S_tree_Tree p0)] := by kernel_rfl) : ∃ v h', Runs cfg g h 62 av v h' ∧ ∃ (rq0 : Option Nat), v = rowV rq0 q0.length ∧ HH g h' [.lst rq0 4 (lst eB q0)] F := by
 refine rq1 51 [.tmp 2] hc ?_
 clear hc
 unfold M_tree_Tree_used at hm
 refine bg 51 [(0, .agg (e_S_tree_Tree p0))] fun fr H => ?_
 refine aw_sr 2 ?_
 obtain ⟨h1, e1, A⟩ := A.pu (.cells none 2 (e_S_tree_Tree p0))
 refine at_ln 1 (.ptr (some (h.size, 0))) e1 H fun fr t H => ?_
 refine at_S 1 [] 5 H fun fr H => at_gl 1 [] 7 0 0 A H fun fr t H => ?_
 obtain ⟨hb, hm⟩ := need_some hm
 obtain ⟨h2, e2, A⟩ := A.pL 4 (lst eB (List.replicate (p0.Nodes.length : Int).toNat false))
 refine at_g1 1 [] 9 (rowV (some h1.size) (List.replicate (p0.Nodes.length : Int).toNat false).length) h2 H (fun fr => .of (s_mkO (e := eB) encB (x := false) (by kernel_rfl) hb (congrArg some e2.symm))) fun fr t H => ?_
 refine at_S 1 [(3, rowV (some h1.size) ((List.replicate (p0.Nodes.length : Int).toNat false).length))] 5 H fun fr H => at_gl 2 [(10, rowV (some h1.size) ((List.replicate (p0.Nodes.length : Int).toNat false).length))] 12 1 1 A H fun fr t H => ?_
 obtain ⟨x1, hx, hm⟩ := bind_some hm
 obtain ⟨i1, er1, _, hx, hq1⟩ := HH.ixO encB (by decide) A 0 (xs := (List.replicate (p0.Nodes.length : Int).toNat false)) rfl hx
 refine at_l1 13 (.ptr (some (i1, p0.Root.toNat * 1))) h2 H (fun fr => .of (s_ixL (s := rowS (some h1.size) ((List.replicate (p0.Nodes.length : Int).toNat false).length)) (by kernel_rfl) hx)) fun fr t H => ?_
 obtain ⟨h3, hx, A1⟩ := HH.stO encB A 0 rfl er1 hq1 (y := true) (o := 0) (new := [.bool true]) rfl rfl (Nat.le_of_ble_eq_true rfl)
 have hl1 : ((List.replicate (p0.Nodes.length : Int).toNat false).set p0.Root.toNat true).length = (List.replicate (p0.Nodes.length : Int).toNat false).length := List.length_set
 have el : rowV (some h1.size) (List.replicate (p0.Nodes.length : Int).toNat false).length = rowV (some h1.size) ((List.replicate (p0.Nodes.length : Int).toNat false).set p0.Root.toNat true).length := congrArg _ List.length_set.symm
 try rw [el] at H
 try rw [el] at A1
 replace A : HH g h3 [.lst (some h1.size) 4 (lst eB ((List.replicate (p0.Nodes.length : Int).toNat false).set p0.Root.toNat true)), .obj h.size (.cells none 2 (e_S_tree_Tree p0))] F := A1
 refine at_ls hx H fun fr t H => ?_
 refine at_nl id (aw_sq (aw_sr 3 (at_gl 1 [] 15 1 1 A H fun fr t H => ?_)))
 refine at_L 1 [(4, Ai p0.Root)] H fun fr H => aw_block (id := 0) (by kernel_rfl) ?_
 obtain ⟨o1, ho, hm⟩ := bind_some hm
 refine aw_mono (Q' := fun e fr' h' => (∃ x4, e = .exit 0 ∧ x4 = o1 ∧ ∃ (hl3 : x4.length = (List.replicate (p0.Nodes.length : Int).toNat false).length), Has fr' 51 [(3, rowV (some h1.size) x4.length)] ∧ HH g h' [.lst (some h1.size) 4 (lst eB x4), .obj h.size (.cells none 2 (e_S_tree_Tree p0))] F) ∨ False) ?_ ?_
 ·refine aw_loop (by kernel_rfl) (fun (s : (List Bool) × Int) fr' h' => ∃ x2 x3, (x2, x3) = s ∧ ∃ (hl2 : x2.length = (List.replicate (p0.Nodes.length : Int).toNat false).length), Has fr' 51 [(1, .ptr (some (h.size, 0))), (3, rowV (some h1.size) x2.length), (4, Ai x3)] ∧ HH g h' [.lst (some h1.size) 4 (lst eB x2), .obj h.size (.cells none 2 (e_S_tree_Tree p0))] F) ho ⟨_, _, rfl, hl1, H.ls, A⟩ ?_
  clear ho hm H A
  intro s q fr h4 hI hm
  obtain ⟨x2, x3, rfl, hl2, H, A⟩ := hI
  unfold M_tree_Tree_used_L0 at hm
  refine aw_sq (aw_sr 2 (at_L 2 [(17, .bool (decide (x3 ≥ 0)))] H fun fr H => aw_if 17 H hm (fun hb hm H => ?_) fun hb hm H => ?_))
  ·refine aw_kn id (aw_sq ?_)
   obtain ⟨o2, ho, hm⟩ := bind_some hm
   refine aw_mono (Q' := fun e fr' h' => (∃ x5, e = .normal ∧ x5 = o2 ∧ ∃ (hl4 : x5.length = (List.replicate (p0.Nodes.length : Int).toNat false).length), Has fr' 51 [(1, .ptr (some (h.size, 0))), (3, rowV (some h1.size) x5.length), (4, Ai x3)] ∧ HH g h' [.lst (some h1.size) 4 (lst eB x5), .obj h.size (.cells none 2 (e_S_tree_Tree p0))] F) ∨ False) ?_ ?_
   ·replace hm := ho
    clear ho
    refine aw_block (id := 1) (by kernel_rfl) ?_
    refine aw_sq (aw_sr 5 ?_)
    obtain ⟨x6, hx, hm⟩ := bind_some hm
    obtain ⟨i2, er2, _, hx, hq2⟩ := HH.ixO encB (by decide) A 0 (xs := x2) rfl hx
    refine at_g1 2 [] 22 (.ptr (some (i2, x3.toNat * 1))) h4 H (fun fr => .of (s_ixL (s := rowS (some h1.size) x2.length) (by kernel_rfl) hx)) fun fr t H => ?_
    refine at_l1 23 _ _ H (fun fr => .of (s_ld (by kernel_rfl) (row_ld1 encB (HH.row A 0 rfl er2) hq2 (o := 0) rfl))) fun fr t H => ?_
    refine at_L 1 [(24, .bool (!x6))] H fun fr H => aw_if 24 H hm (fun hb hm H => ?_) fun hb hm H => ?_
    ·refine aw_exit (i := 1) (by kernel_rfl) ?_
     exact .inl ⟨_, rfl, injA hm, hl2, H.ls, A⟩
    refine aw_ks 7 id (at_gl 1 [] 26 1 0 A H fun fr t H => ?_)
    obtain ⟨x7, hx, hm⟩ := bind_some hm
    refine at_g1 1 [] 28 (.vptr (e_S_tree_Node x7)) h4 H (fun fr => .of (s_ixV (e := e_S_tree_Node) (x := x7) enc_S_tree_Node (by decide) (by kernel_rfl) hx)) fun fr t H => ?_
    refine at_l1 29 (.agg (e_S_tree_Node x7)) h4 H (fun fr => .of (s_lv (by kernel_rfl))) fun fr t H => ?_
    obtain ⟨h5, e3, A⟩ := A.pu (.cells none 2 [Ai 0, Ai 0, Ai 0, Ai 0, Ai 0, Ai 0, Au 0, Au 0, Au 0, Au 0])
    refine at_ln 5 (.ptr (some (h4.size, 0))) e3 H fun fr t H => ?_
    obtain ⟨h6, hx, A⟩ := A.s0 0 (e_S_tree_Node x7) [_, _, _, _, _, _, _, _, _, _]
    refine at_lS hx H fun fr t H => ?_
    refine at_ns 2 id (at_gl 1 [] 31 0 0 A H fun fr t H => ?_)
    refine at_nl id (aw_block (id := 2) (by kernel_rfl) ?_)
    refine aw_sq ?_
    obtain ⟨o3, ho, hm⟩ := bind_some hm
    refine aw_mono (Q' := fun e fr' h' => (∃ x8, e = .normal ∧ x8 = o3 ∧ Has fr' 51 [(1, .ptr (some (h.size, 0))), (3, rowV (some h1.size) x2.length), (4, Ai x3), (5, .ptr (some (h4.size, 0))), (31, Ai x7.Kind), (32, .bool x8)] ∧ HH g h' [.obj h4.size (.cells none 2 (e_S_tree_Node x7)), .lst (some h1.size) 4 (lst eB x2), .obj h.size (.cells none 2 (e_S_tree_Tree p0))] F) ∨ False) ?_ ?_
    ·replace hm := ho
     clear ho
     refine aw_sr 2 (at_L 2 [(32, .bool (x7.Kind == 2))] H fun fr H => aw_if 32 H hm (fun hb hm H => ?_) fun hb hm H => ?_)
     ·exact aw_sk (.inl ⟨_, rfl, injA hm, H.ls, A⟩)
     refine aw_rg 2 (at_se 2 [(1, .ptr (some (h.size, 0))), (3, rowV (some h1.size) x2.length), (4, Ai x3), (5, .ptr (some (h4.size, 0))), (31, Ai x7.Kind), (32, .bool (x7.Kind == 3))] H fun fr H => at_nil ?_)
     exact .inl ⟨_, rfl, injA hm, H.ls, A⟩
    clear ho
    clear A
    intro e fr h7 hQ
    rcases hQ with ⟨x8, rfl, rfl, H, A⟩ | hF
    ·show AW _ _ _ _ _ _ _
     refine aw_if 32 H hm (fun hb hm H => ?_) fun hb hm H => ?_
     ·refine aw_dw 11 10 [(0, []), (1, []), (2, []), (3, []), (4, []), (5, []), (6, []), (7, [5]), (8, []), (9, [])] ?_
      refine at_sl 2 [(35, rowV (some h1.size) x2.length), (36, .ptr (some (h4.size, 1)))] H fun fr H => at_t1 37 (Ai x7.A) h7 [(2, h4.size)] (g.prot) H (fun fr => .of (s_ld (by kernel_rfl) (A.l1 0 1))) (fun fr H => ?_)
      refine at_sl 2 [(38, rowV (some h1.size) x2.length), (39, .ptr (some (h4.size, 2)))] H fun fr H => at_t1 40 (Ai x7.B) h7 [(5, h4.size), (2, h4.size)] (g.prot) H (fun fr => .of (s_ld (by kernel_rfl) (A.l1 0 2))) (fun fr H => ?_)
      obtain ⟨x9, hx, hm⟩ := bind_some hm
      obtain ⟨i3, er3, _, hx, hq3⟩ := HH.ixO encB (by decide) A 1 (xs := x2) rfl hx
      refine at_t1 41 (.ptr (some (i3, x7.A.toNat * 1))) h7 [(5, h4.size), (2, h4.size)] (g.prot) H (fun fr => .of (s_ixL (s := rowS (some h1.size) x2.length) (by kernel_rfl) hx)) (fun fr H => ?_)
      replace A := A.k3 1 0 2
      have A1 := A.prot2 1 (pr := [h4.size]) (.cons 0 rfl (by simp [Ck.ids]) .nil)
      obtain ⟨h8, hx, A1⟩ := HH.stO encB A1 0 rfl er3 hq3 (y := true) (o := 0) (new := [.bool true]) rfl rfl (Nat.le_of_ble_eq_true rfl)
      have hl5 : (x2.set x7.A.toNat true).length = (List.replicate (p0.Nodes.length : Int).toNat false).length := List.length_set.trans hl2
      have el : rowV (some h1.size) x2.length = rowV (some h1.size) (x2.set x7.A.toNat true).length := congrArg _ List.length_set.symm
      try rw [el] at H
      try rw [el] at A1
      replace A := A.p11 A1
      refine at_t0 (.tuple []) h8 [(5, h4.size), (2, h4.size)] (h4.size :: g.prot) H (fun fr => .of (s_st (by kernel_rfl) rfl hx)) (fun fr H => ?_)
      obtain ⟨x10, hx, hm⟩ := bind_some hm
      obtain ⟨i4, er4, _, hx, hq4⟩ := HH.ixO encB (by decide) A 0 (xs := (x2.set x7.A.toNat true)) rfl hx
      refine at_t1 42 (.ptr (some (i4, x7.B.toNat * 1))) h8 [(5, h4.size), (2, h4.size)] (g.prot) H (fun fr => .of (s_ixL (s := rowS (some h1.size) ((x2.set x7.A.toNat true).length)) (by kernel_rfl) hx)) (fun fr H => ?_)
      obtain ⟨h9, hx, A1⟩ := HH.stO encB A 0 rfl er4 hq4 (y := true) (o := 0) (new := [.bool true]) rfl rfl (Nat.le_of_ble_eq_true rfl)
      have hl6 : ((x2.set x7.A.toNat true).set x7.B.toNat true).length = (List.replicate (p0.Nodes.length : Int).toNat false).length := List.length_set.trans hl5
      have el : rowV (some h1.size) (x2.set x7.A.toNat true).length = rowV (some h1.size) ((x2.set x7.A.toNat true).set x7.B.toNat true).length := congrArg _ List.length_set.symm
      try rw [el] at H
      try rw [el] at A1
      replace A : HH g h9 [.lst (some h1.size) 4 (lst eB ((x2.set x7.A.toNat true).set x7.B.toNat true)), _, _] F := A1
      refine at_t0 (.tuple []) h9 [(5, h4.size), (2, h4.size)] (g.prot) H (fun fr => .of (s_st (by kernel_rfl) rfl hx)) (fun fr H => ?_)
      refine at_nil ?_
      replace A := A.k2 0 2
      exact .inl ⟨_, rfl, injA hm, hl6, H.ls, A⟩
     refine aw_sq ?_
     obtain ⟨o4, ho, hm⟩ := bind_some hm
     refine aw_mono (Q' := fun e fr' h' => (∃ x11, e = .normal ∧ x11 = o4 ∧ Has fr' 51 [(1, .ptr (some (h.size, 0))), (3, rowV (some h1.size) x2.length), (4, Ai x3), (5, .ptr (some (h4.size, 0))), (43, .bool x11)] ∧ HH g h' [.obj h4.size (.cells none 2 (e_S_tree_Node x7)), .lst (some h1.size) 4 (lst eB x2), .obj h.size (.cells none 2 (e_S_tree_Tree p0))] F) ∨ False) ?_ ?_
     ·replace hm := ho
      clear ho
      refine aw_sr 2 (at_L 2 [(43, .bool (x7.Kind == 4))] H fun fr H => aw_if 43 H hm (fun hb hm H => ?_) fun hb hm H => ?_)
      ·exact aw_sk (.inl ⟨_, rfl, injA hm, H.ls, A⟩)
      refine aw_rg 2 (at_se 2 [(1, .ptr (some (h.size, 0))), (3, rowV (some h1.size) x2.length), (4, Ai x3), (5, .ptr (some (h4.size, 0))), (43, .bool (x7.Kind == 5))] H fun fr H => at_nil ?_)
      exact .inl ⟨_, rfl, injA hm, H.ls, A⟩
     clear ho
     clear A
     intro e fr h10 hQ
     rcases hQ with ⟨x11, rfl, rfl, H, A⟩ | hF
     ·show AW _ _ _ _ _ _ _
      refine aw_if 43 H hm (fun hb hm H => ?_) fun hb hm H => ?_
      ·refine aw_rg 5 (at_gl 2 [(46, rowV (some h1.size) x2.length)] 48 0 1 A H fun fr t H => ?_)
       obtain ⟨x12, hx, hm⟩ := bind_some hm
       obtain ⟨i5, er5, _, hx, hq5⟩ := HH.ixO encB (by decide) A 1 (xs := x2) rfl hx
       refine at_l1 49 (.ptr (some (i5, x7.A.toNat * 1))) h10 H (fun fr => .of (s_ixL (s := rowS (some h1.size) x2.length) (by kernel_rfl) hx)) fun fr t H => ?_
       obtain ⟨h11, hx, A1⟩ := HH.stO encB A 1 rfl er5 hq5 (y := true) (o := 0) (new := [.bool true]) rfl rfl (Nat.le_of_ble_eq_true rfl)
       have hl7 : (x2.set x7.A.toNat true).length = (List.replicate (p0.Nodes.length : Int).toNat false).length := List.length_set.trans hl2
       have el : rowV (some h1.size) x2.length = rowV (some h1.size) (x2.set x7.A.toNat true).length := congrArg _ List.length_set.symm
       try rw [el] at H
       try rw [el] at A1
       replace A : HH g h11 [_, .lst (some h1.size) 4 (lst eB (x2.set x7.A.toNat true)), _] F := A1
       refine at_ls hx H fun fr t H => ?_
       refine at_nil ?_
       replace A := A.k2 1 2
       exact .inl ⟨_, rfl, injA hm, hl7, H.ls, A⟩
      refine aw_sk ?_
      replace A := A.k2 1 2
      exact .inl ⟨_, rfl, injA hm, hl2, H.ls, A⟩
     exact hF.elim
    exact hF.elim
   clear ho
   clear A
   intro e fr h12 hQ
   rcases hQ with ⟨x5, rfl, rfl, hl4, H, A⟩ | hF
   ·show AW _ _ _ _ _ _ _
    refine aw_rg 3 (at_se 3 [(1, .ptr (some (h.size, 0))), (3, rowV (some h1.size) x5.length), (4, Ai (IntKind.i64.wrap (x3 - 1)))] H fun fr H => at_nil ?_)
    exact nx hm ⟨_, _, rfl, hl4, H.ls, A⟩
   exact hF.elim
  refine aw_exit (i := 0) (by kernel_rfl) ?_
  exact nr hm fun e => .inl ⟨_, rfl, e, hl2, H.ls, A⟩
 clear ho
 clear A
 intro e fr h13 hQ
 rcases hQ with ⟨x4, rfl, rfl, hl3, H, A⟩ | hF
 ·show AW _ _ _ _ _ _ _
  refine aw_sr 2 (at_L 2 [(2, rowV (some h1.size) x4.length)] H fun fr H => aw_rt ?_)
  obtain rfl := injA hm
  refine ⟨.inl rfl, rowV (some h1.size) x4.length, rH H, ?_⟩
  replace A := A.d1
  exact ⟨some h1.size, rfl, A⟩
 exact hF.elim
def M_tree_Tree_Groups_L0 (p0 : S_tree_Tree) (x2 : List Bool) (s : Int × Int) : Option ((Int × Int) ⊕ ((Int))) :=
 match s with
 | (x3, x4) => iteB (decide (x4 < (x2.length : Int))) (((ixV x2 x4).bind fun x7 => iteB x7 ((ixV p0.Nodes x4).bind fun x8 => some (mx x3 x8.Group)) (some x3) : Option ((Int))).bind fun x6 => some (.inl (x6, IntKind.i64.wrap (x4 + 1)))) (some (.inr x3))
def M_tree_Tree_Groups (p0 : S_tree_Tree) : Option (Int) :=
 (M_tree_Tree_Right p0).bind fun x1 => iteB (!x1) (some (0 : Int)) ((M_tree_Tree_used p0).bind fun x2 => (loop (M_tree_Tree_Groups_L0 p0 x2) ((0 : Int), (0 : Int))).bind fun x5 => some x5)
theorem ok_tree_Tree_Groups {p0 q0} (hm : M_tree_Tree_Groups p0 = some q0) (A : HH g h [] F) (hc : canL (cfg.still 41) av = [.agg (e_S_tree_Tree p0)] := by kernel_rfl) : ∃ v h', Runs cfg g h 41 av v h' ∧ v = Ai q0 ∧ HH g h' [] F := by
 refine rq1 28 [.tmp 2] hc ?_
 clear hc
 unfold M_tree_Tree_Groups at hm
 refine bg 28 [(0, .agg (e_S_tree_Tree p0))] fun fr H => ?_
 refine aw_sr 2 ?_
 obtain ⟨h1, e1, A⟩ := A.pu (.cells none 2 (e_S_tree_Tree p0))
 refine at_ln 1 (.ptr (some (h.size, 0))) e1 H fun fr t H => ?_
 refine at_L 1 [] H fun fr H => aw_sq (aw_sr 3 (at_l1 6 _ _ H (fun fr => .of (s_ldA (by kernel_rfl) (A.ldA 0 rfl (o := 0) (n := 2) ⟨Nat.le_of_ble_eq_true rfl, rfl⟩))) fun fr t H => ?_))
 obtain ⟨x1, hx, hm⟩ := bind_some hm
 obtain ⟨v1, h2, hr, rfl, A1⟩ := ok_tree_Tree_Right (av := [.agg (e_S_tree_Tree p0)]) hx (A.cut 0)
 replace A : HH g h2 [.obj h.size (.cells none 2 (e_S_tree_Tree p0))] F := A.glue0 (n := 0) A1
 refine at_lc1 7 hr H fun fr t H => ?_
 refine at_L 1 [(8, .bool (!x1))] H fun fr H => aw_if 8 H hm (fun hb hm H => ?_) fun hb hm H => ?_
 ·refine aw_sr 1 (at_L 1 [(2, Ai 0)] H fun fr H => aw_rt ?_)
  obtain rfl := injA hm
  refine ⟨.inl rfl, Ai 0, rH H, ?_⟩
  replace A := A.d0
  exact ⟨rfl, A⟩
 refine aw_ks 1 id (at_L 1 [(3, Ai 0)] H fun fr H => aw_sq (aw_sr 4 (at_l1 9 _ _ H (fun fr => .of (s_ldA (by kernel_rfl) (A.ldA 0 rfl (o := 0) (n := 2) ⟨Nat.le_of_ble_eq_true rfl, rfl⟩))) fun fr t H => ?_)))
 obtain ⟨x2, hx, hm⟩ := bind_some hm
 obtain ⟨v1, h3, hr, rqw2, rfl, A1⟩ := ok_tree_Tree_used (av := [.agg (e_S_tree_Tree p0)]) hx (A.cut 0)
 replace A := A.g01 A1
 refine at_lc1 10 hr H fun fr t H => ?_
 refine at_L 2 [(11, Ai (x2.length : Int)), (12, Ai 0)] H fun fr H => aw_block (id := 0) (by kernel_rfl) ?_
 obtain ⟨o1, ho, hm⟩ := bind_some hm
 refine aw_mono (Q' := fun e fr' h' => (∃ x5, e = .exit 0 ∧ x5 = o1 ∧ Has fr' 28 [(3, Ai x5)] ∧ HH g h' [.obj h.size (.cells none 2 (e_S_tree_Tree p0))] F) ∨ False) ?_ ?_
 ·refine aw_loop (by kernel_rfl) (fun (s : Int × Int) fr' h' => ∃ x3 x4, (x3, x4) = s ∧ Has fr' 28 [(1, .ptr (some (h.size, 0))), (3, Ai x3), (10, rowV rqw2 x2.length), (11, Ai (x2.length : Int)), (12, Ai x4)] ∧ HH g h' [.lst rqw2 4 (lst eB x2), .obj h.size (.cells none 2 (e_S_tree_Tree p0))] F) ho ⟨_, _, rfl, H.ls, A⟩ ?_
  clear ho hm H A
  intro s q fr h4 hI hm
  obtain ⟨x3, x4, rfl, H, A⟩ := hI
  unfold M_tree_Tree_Groups_L0 at hm
  refine aw_sr 1 (at_L 1 [(13, .bool (decide (x4 < (x2.length : Int))))] H fun fr H => aw_sq (aw_if 13 H hm (fun hb hm H => ?_) fun hb hm H => ?_))
  ·refine aw_kn id (aw_sq ?_)
   obtain ⟨o2, ho, hm⟩ := bind_some hm
   refine aw_mono (Q' := fun e fr' h' => (∃ x6, e = .normal ∧ x6 = o2 ∧ Has fr' 28 [(1, .ptr (some (h.size, 0))), (3, Ai x6), (10, rowV rqw2 x2.length), (11, Ai (x2.length : Int)), (12, Ai x4)] ∧ HH g h' [.lst rqw2 4 (lst eB x2), .obj h.size (.cells none 2 (e_S_tree_Tree p0))] F) ∨ False) ?_ ?_
   ·replace hm := ho
    clear ho
    refine aw_block (id := 1) (by kernel_rfl) ?_
    refine aw_sr 5 ?_
    obtain ⟨x7, hx, hm⟩ := bind_some hm
    obtain ⟨i1, er1, _, hx, hq1⟩ := HH.ixO encB (by decide) A 0 (xs := x2) rfl hx
    refine at_g1 1 [(14, Ai x4)] 15 (.ptr (some (i1, x4.toNat * 1))) h4 H (fun fr => .of (s_ixL (s := rowS rqw2 x2.length) (by kernel_rfl) hx)) fun fr t H => ?_
    refine at_l1 16 _ _ H (fun fr => .of (s_ld (by kernel_rfl) (row_ld1 encB (HH.row A 0 rfl er1) hq1 (o := 0) rfl))) fun fr t H => ?_
    refine at_S 2 [(4, Ai x4), (5, .bool x7)] 1 H fun fr H => at_L 1 [(17, .bool x7)] H fun fr H => aw_if 17 H hm (fun hb hm H => ?_) fun hb hm H => ?_
    ·refine aw_rg 9 (at_gl 2 [(18, Ai x3)] 20 1 0 A H fun fr t H => ?_)
     obtain ⟨x8, hx, hm⟩ := bind_some hm
     refine at_g1 1 [] 22 (.vptr (e_S_tree_Node x8)) h4 H (fun fr => .of (s_ixV (e := e_S_tree_Node) (x := x8) enc_S_tree_Node (by decide) (by kernel_rfl) hx)) fun fr t H => ?_
     refine at_g1 1 [] 24 (Ai x8.Group) h4 H (fun fr => .of (s_lv (by kernel_rfl))) fun fr t H => ?_
     refine at_se 2 [(1, .ptr (some (h.size, 0))), (3, Ai (mx x3 x8.Group)), (10, rowV rqw2 x2.length), (11, Ai (x2.length : Int)), (12, Ai x4)] H fun fr H => at_nil ?_
     exact .inl ⟨_, rfl, injA hm, H.ls, A⟩
    exact aw_sk (.inl ⟨_, rfl, injA hm, H.ls, A⟩)
   clear ho
   clear A
   intro e fr h5 hQ
   rcases hQ with ⟨x6, rfl, rfl, H, A⟩ | hF
   ·show AW _ _ _ _ _ _ _
    refine aw_rg 2 (at_se 2 [(1, .ptr (some (h.size, 0))), (3, Ai x6), (10, rowV rqw2 x2.length), (11, Ai (x2.length : Int)), (12, Ai (IntKind.i64.wrap (x4 + 1)))] H fun fr H => at_nil ?_)
    exact nx hm ⟨_, _, rfl, H.ls, A⟩
   exact hF.elim
  refine aw_exit (i := 0) (by kernel_rfl) ?_
  replace A := A.k1 1
  exact nr hm fun e => .inl ⟨_, rfl, e, H.ls, A⟩
 clear ho
 clear A
 intro e fr h6 hQ
 rcases hQ with ⟨x5, rfl, rfl, H, A⟩ | hF
 ·show AW _ _ _ _ _ _ _
  refine aw_sr 2 (at_L 2 [(2, Ai x5)] H fun fr H => aw_rt ?_)
  obtain rfl := injA hm
  refine ⟨.inl rfl, Ai x5, rH H, ?_⟩
  replace A := A.d0
  exact ⟨rfl, A⟩
 exact hF.elim
end
end Go.Av.L
