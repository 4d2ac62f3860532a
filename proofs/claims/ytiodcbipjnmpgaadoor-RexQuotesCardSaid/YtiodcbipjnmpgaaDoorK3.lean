/-
 Models of functions, and that the abstract run tells them. Written by lift2.py.
-/
import Derived.Test.YtiodcbipjnmpgaaDoorKCfg
import Derived.Test.YtiodcbipjnmpgaaDoorK1
import Derived.Test.YtiodcbipjnmpgaaDoorK2
namespace Go.Av.L
open Go.Av Go.Lib
set_option maxRecDepth 10000
set_option linter.unusedVariables false
set_option linter.unusedSimpArgs false
variable {g : Gd} {h : AHeap} {F : List Ck} {av : List AVal}
noncomputable section
def M_tree_Tree_Text_L0 (p0 : S_tree_Tree) (x2 : List Bool) (s : (List (List UInt8)) × Int) : Option (((List (List UInt8)) × Int) ⊕ (((List (List UInt8))) ⊕ ((List UInt8)))) :=
 match s with
 | (x3, x4) => iteB (decide (x4 < (x2.length : Int))) (((ixV x2 x4).bind fun x9 => iteB (!x9) (some (.inl x3)) ((ixV p0.Nodes x4).bind fun x10 => (ixV x3 x10.A).bind fun x11 => (ixV x3 x10.B).bind fun x12 => iteB (decide ((IntKind.i64.wrap ((x11.length : Int) + (x12.length : Int))) > 1048576)) (some (.inr ([] : List UInt8))) ((M_tree_text_sRO x10 x3).bind fun x13 => (ixV x3 x4).bind fun x14 => (ixV (x3.set x4.toNat x13) x4).bind fun x15 => iteB (decide ((x15.length : Int) > 1048576)) (some (.inr ([] : List UInt8))) (some (.inl (x3.set x4.toNat x13))))) : Option (((List (List UInt8))) ⊕ ((List UInt8)))).bind fun o2 => (match o2 with | .inl x7 => some (.inl (x7, IntKind.i64.wrap (x4 + 1))) | .inr x8 => some (.inr (.inr x8)))) (some (.inr (.inl x3)))
def M_tree_Tree_Text (p0 : S_tree_Tree) : Option ((List UInt8)) :=
 (M_tree_Tree_Right p0).bind fun x1 => iteB (!x1) (some ([] : List UInt8)) (need (mkN 16 (p0.Nodes.length : Int)) <| (M_tree_Tree_used p0).bind fun x2 => (loop (M_tree_Tree_Text_L0 p0 x2) ((List.replicate (p0.Nodes.length : Int).toNat ([] : List UInt8)), (0 : Int))).bind fun o1 => (match o1 with | .inl x5 => (ixV x5 p0.Root).bind fun x16 => some x16 | .inr x6 => some x6))
theorem ok_tree_Tree_Text {p0 q0} (hm : M_tree_Tree_Text p0 = some q0) (A : HH g h [] F) (hc : canL (cfg.still 15) av = [.agg (e_S_tree_Tree p0)] := by kernel_rfl) : ∃ v h', Runs cfg g h 15 av v h' ∧ v = .str q0 ∧ HH g h' [] F := by
 refine rq1 61 [.tmp 2] hc ?_
 clear hc
 unfold M_tree_Tree_Text at hm
 refine bg 61 [(0, .agg (e_S_tree_Tree p0))] fun fr H => ?_
 refine aw_sr 2 ?_
 obtain ⟨h1, e1, A⟩ := A.pu (.cells none 2 (e_S_tree_Tree p0))
 refine at_ln 1 (.ptr (some (h.size, 0))) e1 H fun fr t H => ?_
 refine at_L 1 [] H fun fr H => aw_sq (aw_sr 3 (at_l1 7 _ _ H (fun fr => .of (s_ldA (by kernel_rfl) (A.ldA 0 rfl (o := 0) (n := 2) ⟨Nat.le_of_ble_eq_true rfl, rfl⟩))) fun fr t H => ?_))
 obtain ⟨x1, hx, hm⟩ := bind_some hm
 obtain ⟨v1, h2, hr, rfl, A1⟩ := ok_tree_Tree_Right (av := [.agg (e_S_tree_Tree p0)]) hx (A.cut 0)
 replace A : HH g h2 [.obj h.size (.cells none 2 (e_S_tree_Tree p0))] F := A.glue0 (n := 0) A1
 refine at_lc1 8 hr H fun fr t H => ?_
 refine at_L 1 [(9, .bool (!x1))] H fun fr H => aw_if 9 H hm (fun hb hm H => ?_) fun hb hm H => ?_
 ·refine aw_sr 1 (at_L 1 [(2, .str ([] : List UInt8))] H fun fr H => aw_rt ?_)
  obtain rfl := injA hm
  refine ⟨.inl rfl, .str ([] : List UInt8), rH H, ?_⟩
  replace A := A.d0
  exact ⟨rfl, A⟩
 refine aw_ks 5 id (at_gl 1 [] 11 0 0 A H fun fr t H => ?_)
 obtain ⟨hb, hm⟩ := need_some hm
 obtain ⟨h3, e2, A⟩ := A.pL 9 (lst eS (List.replicate (p0.Nodes.length : Int).toNat ([] : List UInt8)))
 refine at_g1 1 [] 13 (rowV (some h2.size) (List.replicate (p0.Nodes.length : Int).toNat ([] : List UInt8)).length) h3 H (fun fr => .of (s_mkO (e := eS) encS (x := ([] : List UInt8)) (by kernel_rfl) hb (congrArg some e2.symm))) fun fr t H => ?_
 refine at_L 1 [(3, rowV (some h2.size) ((List.replicate (p0.Nodes.length : Int).toNat ([] : List UInt8)).length))] H fun fr H => aw_sq (aw_sr 4 (at_l1 14 _ _ H (fun fr => .of (s_ldA (by kernel_rfl) (A.ldA 1 rfl (o := 0) (n := 2) ⟨Nat.le_of_ble_eq_true rfl, rfl⟩))) fun fr t H => ?_))
 obtain ⟨x2, hx, hm⟩ := bind_some hm
 obtain ⟨v1, h4, hr, rqw2, rfl, A1⟩ := ok_tree_Tree_used (av := [.agg (e_S_tree_Tree p0)]) hx (A.cut 0)
 replace A : HH g h4 [.lst rqw2 4 (lst eB x2), .lst (some h2.size) 9 (lst eS (List.replicate (p0.Nodes.length : Int).toNat ([] : List UInt8))), _] F := A.glue0 (n := 0) A1
 refine at_lc1 15 hr H fun fr t H => ?_
 refine at_L 2 [(16, Ai (x2.length : Int)), (17, Ai 0)] H fun fr H => aw_block (id := 0) (by kernel_rfl) ?_
 obtain ⟨o1, ho, hm⟩ := bind_some hm
 refine aw_mono (Q' := fun e fr' h' => (∃ x5, e = .exit 0 ∧ .inl x5 = o1 ∧ ∃ (hl2 : x5.length = (List.replicate (p0.Nodes.length : Int).toNat ([] : List UInt8)).length), Has fr' 61 [(1, .ptr (some (h.size, 0))), (3, rowV (some h2.size) x5.length)] ∧ HH g h' [.lst (some h2.size) 9 (lst eS x5), .obj h.size (.cells none 2 (e_S_tree_Tree p0))] F) ∨ (∃ x6, e = .ret ∧ .inr x6 = o1 ∧ Has fr' 61 [(2, .str x6)] ∧ HH g h' [.obj h.size (.cells none 2 (e_S_tree_Tree p0))] F) ∨ False) ?_ ?_
 ·refine aw_loop (by kernel_rfl) (fun (s : (List (List UInt8)) × Int) fr' h' => ∃ x3 x4, (x3, x4) = s ∧ ∃ (hl1 : x3.length = (List.replicate (p0.Nodes.length : Int).toNat ([] : List UInt8)).length), Has fr' 61 [(1, .ptr (some (h.size, 0))), (3, rowV (some h2.size) x3.length), (15, rowV rqw2 x2.length), (16, Ai (x2.length : Int)), (17, Ai x4)] ∧ HH g h' [.lst rqw2 4 (lst eB x2), .lst (some h2.size) 9 (lst eS x3), .obj h.size (.cells none 2 (e_S_tree_Tree p0))] F) ho ⟨_, _, rfl, rfl, H.ls, A⟩ ?_
  clear ho hm H A
  intro s q fr h5 hI hm
  obtain ⟨x3, x4, rfl, hl1, H, A⟩ := hI
  unfold M_tree_Tree_Text_L0 at hm
  refine aw_sr 1 (at_L 1 [(18, .bool (decide (x4 < (x2.length : Int))))] H fun fr H => aw_sq (aw_if 18 H hm (fun hb hm H => ?_) fun hb hm H => ?_))
  ·refine aw_kn id (aw_sq ?_)
   obtain ⟨o2, ho, hm⟩ := bind_some hm
   refine aw_mono (Q' := fun e fr' h' => (∃ x7, e = .normal ∧ .inl x7 = o2 ∧ ∃ (hl3 : x7.length = (List.replicate (p0.Nodes.length : Int).toNat ([] : List UInt8)).length), Has fr' 61 [(1, .ptr (some (h.size, 0))), (3, rowV (some h2.size) x7.length), (15, rowV rqw2 x2.length), (16, Ai (x2.length : Int)), (17, Ai x4)] ∧ HH g h' [.lst rqw2 4 (lst eB x2), .lst (some h2.size) 9 (lst eS x7), .obj h.size (.cells none 2 (e_S_tree_Tree p0))] F) ∨ (∃ x8, e = .ret ∧ .inr x8 = o2 ∧ Has fr' 61 [(2, .str x8)] ∧ HH g h' [.obj h.size (.cells none 2 (e_S_tree_Tree p0))] F) ∨ False) ?_ ?_
   ·replace hm := ho
    clear ho
    refine aw_block (id := 1) (by kernel_rfl) ?_
    refine aw_sr 5 ?_
    obtain ⟨x9, hx, hm⟩ := bind_some hm
    obtain ⟨i1, er1, _, hx, hq1⟩ := HH.ixO encB (by decide) A 0 (xs := x2) rfl hx
    refine at_g1 1 [(19, Ai x4)] 20 (.ptr (some (i1, x4.toNat * 1))) h5 H (fun fr => .of (s_ixL (s := rowS rqw2 x2.length) (by kernel_rfl) hx)) fun fr t H => ?_
    refine at_l1 21 _ _ H (fun fr => .of (s_ld (by kernel_rfl) (row_ld1 encB (HH.row A 0 rfl er1) hq1 (o := 0) rfl))) fun fr t H => ?_
    refine at_L 2 [(4, Ai x4), (5, .bool x9)] H fun fr H => aw_sq (aw_sr 2 (at_L 2 [(23, .bool (!x9))] H fun fr H => aw_if 23 H hm (fun hb hm H => ?_) fun hb hm H => ?_))
    ·refine aw_exit (i := 1) (by kernel_rfl) ?_
     exact .inl ⟨_, rfl, injA hm, hl1, H.ls, A⟩
    refine aw_ks 7 id (at_gl 1 [] 25 2 0 A H fun fr t H => ?_)
    obtain ⟨x10, hx, hm⟩ := bind_some hm
    refine at_g1 1 [] 27 (.vptr (e_S_tree_Node x10)) h5 H (fun fr => .of (s_ixV (e := e_S_tree_Node) (x := x10) enc_S_tree_Node (by decide) (by kernel_rfl) hx)) fun fr t H => ?_
    refine at_l1 28 (.agg (e_S_tree_Node x10)) h5 H (fun fr => .of (s_lv (by kernel_rfl))) fun fr t H => ?_
    obtain ⟨h6, e3, A⟩ := A.pu (.cells none 2 [Ai 0, Ai 0, Ai 0, Ai 0, Ai 0, Ai 0, Au 0, Au 0, Au 0, Au 0])
    refine at_ln 6 (.ptr (some (h5.size, 0))) e3 H fun fr t H => ?_
    obtain ⟨h7, hx, A⟩ := A.s0 0 (e_S_tree_Node x10) [_, _, _, _, _, _, _, _, _, _]
    refine at_lS hx H fun fr t H => ?_
    refine at_nl id (aw_sq (aw_sq (aw_dg 9 14 ?_)))
    refine at_gl 2 [(29, rowV (some h2.size) x3.length)] 31 0 1 A H fun fr t H => ?_
    obtain ⟨x11, hx, hm⟩ := bind_some hm
    obtain ⟨i2, er2, _, hx, hq2⟩ := HH.ixO encS (by decide) A 2 (xs := x3) rfl hx
    refine at_l1 32 (.ptr (some (i2, x10.A.toNat * 1))) h7 H (fun fr => .of (s_ixL (s := rowS (some h2.size) x3.length) (by kernel_rfl) hx)) fun fr t H => ?_
    refine at_l1 33 _ _ H (fun fr => .of (s_ld (by kernel_rfl) (row_ld1 encS (HH.row A 2 rfl er2) hq2 (o := 0) rfl))) fun fr t H => ?_
    refine at_gl 3 [(34, Ai (x11.length : Int)), (35, rowV (some h2.size) x3.length)] 37 0 2 A H fun fr t H => ?_
    obtain ⟨x12, hx, hm⟩ := bind_some hm
    obtain ⟨i3, er3, _, hx, hq3⟩ := HH.ixO encS (by decide) A 2 (xs := x3) rfl hx
    refine at_l1 38 (.ptr (some (i3, x10.B.toNat * 1))) h7 H (fun fr => .of (s_ixL (s := rowS (some h2.size) x3.length) (by kernel_rfl) hx)) fun fr t H => ?_
    refine at_l1 39 _ _ H (fun fr => .of (s_ld (by kernel_rfl) (row_ld1 encS (HH.row A 2 rfl er3) hq3 (o := 0) rfl))) fun fr t H => ?_
    refine at_L 3 [(42, .bool (decide ((IntKind.i64.wrap ((x11.length : Int) + (x12.length : Int))) > 1048576)))] H fun fr H => aw_if 42 H hm (fun hb hm H => ?_) fun hb hm H => ?_
    ·refine aw_sr 1 (at_L 1 [(2, .str ([] : List UInt8))] H fun fr H => aw_rt ?_)
     replace A := A.k1 3
     exact .inr (.inl ⟨_, rfl, injA hm, H.ls, A⟩)
    refine aw_ks 7 id (at_g1 2 [(43, rowV (some h2.size) x3.length), (44, Ai x4)] 45 _ _ H (fun fr => .of (s_ldA (by kernel_rfl) (A.ldA 0 rfl (o := 0) (n := 10) ⟨Nat.le_of_ble_eq_true rfl, rfl⟩))) fun fr t H => ?_)
    replace A := A.k4 2 0 1 3
    obtain ⟨x13, hx, hm⟩ := bind_some hm
    obtain ⟨v1, h8, hr, rfl, A1⟩ := ok_tree_text_sRO (av := [.agg (e_S_tree_Node x10), rowV (some h2.size) x3.length]) hx (A.cut 1)
    replace A := A.g11 A1
    refine at_gc1 1 [] 47 hr H fun fr t H => ?_
    obtain ⟨x14, hx, hm⟩ := bind_some hm
    obtain ⟨i4, er4, _, hx, hq4⟩ := HH.ixO encS (by decide) A 0 (xs := x3) rfl hx
    refine at_l1 48 (.ptr (some (i4, x4.toNat * 1))) h8 H (fun fr => .of (s_ixL (s := rowS (some h2.size) x3.length) (by kernel_rfl) hx)) fun fr t H => ?_
    obtain ⟨h9, hx, A1⟩ := HH.stO encS A 0 rfl er4 hq4 (y := x13) (o := 0) (new := [.str x13]) rfl rfl (Nat.le_of_ble_eq_true rfl)
    have hl4 : (x3.set x4.toNat x13).length = (List.replicate (p0.Nodes.length : Int).toNat ([] : List UInt8)).length := List.length_set.trans hl1
    have el : rowV (some h2.size) x3.length = rowV (some h2.size) (x3.set x4.toNat x13).length := congrArg _ List.length_set.symm
    try rw [el] at H
    try rw [el] at A1
    replace A : HH g h9 [.lst (some h2.size) 9 (lst eS (x3.set x4.toNat x13)), _, _, _] F := A1
    refine at_ls hx H fun fr t H => ?_
    refine at_ns 6 id ?_
    obtain ⟨x15, hx, hm⟩ := bind_some hm
    obtain ⟨i5, er5, _, hx, hq5⟩ := HH.ixO encS (by decide) A 0 (xs := (x3.set x4.toNat x13)) rfl hx
    refine at_g1 2 [] 51 (.ptr (some (i5, x4.toNat * 1))) h9 H (fun fr => .of (s_ixL (s := rowS (some h2.size) ((x3.set x4.toNat x13).length)) (by kernel_rfl) hx)) fun fr t H => ?_
    refine at_l1 52 _ _ H (fun fr => .of (s_ld (by kernel_rfl) (row_ld1 encS (HH.row A 0 rfl er5) hq5 (o := 0) rfl))) fun fr t H => ?_
    refine at_L 2 [(54, .bool (decide ((x15.length : Int) > 1048576)))] H fun fr H => aw_if 54 H hm (fun hb hm H => ?_) fun hb hm H => ?_
    ·refine aw_sr 1 (at_L 1 [(2, .str ([] : List UInt8))] H fun fr H => aw_rt ?_)
     replace A := A.k1 3
     exact .inr (.inl ⟨_, rfl, injA hm, H.ls, A⟩)
    refine aw_sk ?_
    replace A := A.k3 2 0 3
    exact .inl ⟨_, rfl, injA hm, hl4, H.ls, A⟩
   clear ho
   clear A
   intro e fr h10 hQ
   rcases hQ with ⟨x7, rfl, rfl, hl3, H, A⟩ | ⟨x8, rfl, rfl, H, A⟩ | hF
   ·show AW _ _ _ _ _ _ _
    refine aw_rg 2 (at_se 2 [(1, .ptr (some (h.size, 0))), (3, rowV (some h2.size) x7.length), (15, rowV rqw2 x2.length), (16, Ai (x2.length : Int)), (17, Ai (IntKind.i64.wrap (x4 + 1)))] H fun fr H => at_nil ?_)
    exact nx hm ⟨_, _, rfl, hl3, H.ls, A⟩
   ·exact nr hm fun e => Or.inr (.inl ⟨_, rfl, e, H.ls, A⟩)
   exact hF.elim
  refine aw_exit (i := 0) (by kernel_rfl) ?_
  replace A := A.k2 1 2
  exact nr hm fun e => .inl ⟨_, rfl, e, hl1, H.ls, A⟩
 clear ho
 clear A
 intro e fr h11 hQ
 rcases hQ with ⟨x5, rfl, rfl, hl2, H, A⟩ | ⟨x6, rfl, rfl, H, A⟩ | hF
 ·show AW _ _ _ _ _ _ _
  refine aw_sr 6 (at_gl 2 [(56, rowV (some h2.size) x5.length)] 58 1 1 A H fun fr t H => ?_)
  obtain ⟨x16, hx, hm⟩ := bind_some hm
  obtain ⟨i6, er6, _, hx, hq6⟩ := HH.ixO encS (by decide) A 0 (xs := x5) rfl hx
  refine at_l1 59 (.ptr (some (i6, p0.Root.toNat * 1))) h11 H (fun fr => .of (s_ixL (s := rowS (some h2.size) x5.length) (by kernel_rfl) hx)) fun fr t H => ?_
  refine at_l1 60 _ _ H (fun fr => .of (s_ld (by kernel_rfl) (row_ld1 encS (HH.row A 0 rfl er6) hq6 (o := 0) rfl))) fun fr t H => ?_
  refine at_L 1 [(2, .str x16)] H fun fr H => aw_rt ?_
  obtain rfl := injA hm
  refine ⟨.inl rfl, .str x16, rH H, ?_⟩
  replace A := A.d0
  exact ⟨rfl, A⟩
 ·obtain rfl := injA hm
  refine ⟨.inl rfl, .str x6, rH H, ?_⟩
  replace A := A.d0
  exact ⟨rfl, A⟩
 exact hF.elim
def M_boulterlaw19_awake : Option (Bool) :=
 (M_rex_Parse ([97, 92, 40, 98, 42, 92, 41] : List UInt8) false).bind fun (x1, x2, x3) => (M_rex_Parse ([97, 124, 98] : List UInt8) true).bind fun (x4, x5, x6) => (M_rex_Parse ([97, 124, 98] : List UInt8) false).bind fun (x7, x8, x9) => (iteB (x3 == 0) ((M_tree_Tree_Text x1).bind fun x11 => some (x11 == ([40, 91, 54, 49, 93, 46, 60, 49, 58, 123, 48, 44, 58, 91, 54, 50, 93, 125, 62, 41] : List UInt8))) (some false) : Option (Bool)).bind fun x10 => (iteB (x10 && (x6 == 0)) ((M_tree_Tree_Text x4).bind fun x13 => some (x13 == ([40, 91, 54, 49, 93, 124, 91, 54, 50, 93, 41] : List UInt8))) (some false) : Option (Bool)).bind fun x12 => (iteB (x12 && (x9 == 0)) ((M_tree_Tree_Text x7).bind fun x15 => some (x15 == ([40, 91, 54, 49, 93, 46, 40, 91, 55, 99, 93, 46, 91, 54, 50, 93, 41, 41] : List UInt8))) (some false) : Option (Bool)).bind fun x14 => some x14
theorem ok_boulterlaw19_awake {q0} (hm : M_boulterlaw19_awake = some q0) (A : HH g h [] F) (hc : canL (cfg.still 7) av = [] := by kernel_rfl) : ∃ v h', Runs cfg g h 7 av v h' ∧ v = .bool q0 ∧ HH g h' [] F := by
 refine rq1 50 [.tmp 0] hc ?_
 clear hc
 unfold M_boulterlaw19_awake at hm
 refine bg 50 [] fun fr H => ?_
 refine aw_sr 1 (at_S 1 [] 9 H fun fr H => ?_)
 obtain ⟨⟨x1, x2, x3⟩, hx, hm⟩ := bind_some hm
 obtain ⟨v1, h1, hr, rfl, A1⟩ := ok_rex_Parse (av := [.str ([97, 92, 40, 98, 42, 92, 41] : List UInt8), .bool false]) hx (A.cut 0)
 replace A := A.g00 A1
 refine at_lc1 11 hr H fun fr t H => ?_
 obtain ⟨h2, e1, A⟩ := A.pu (.cells none 2 [.slice none 0, Ai 0])
 refine at_gn 4 [(12, .agg (e_S_tree_Tree x1)), (13, Ai x2), (14, Ai x3)] 1 (.ptr (some (h1.size, 0))) e1 H fun fr t H => ?_
 obtain ⟨h3, hx, A⟩ := A.s0 0 (e_S_tree_Tree x1) [_, _]
 refine at_lS hx H fun fr t H => ?_
 refine at_S 2 [(3, Ai x3)] 9 H fun fr H => ?_
 obtain ⟨⟨x4, x5, x6⟩, hx, hm⟩ := bind_some hm
 obtain ⟨v1, h4, hr, rfl, A1⟩ := ok_rex_Parse (av := [.str ([97, 124, 98] : List UInt8), .bool true]) hx (A.cut 0)
 replace A := A.g00 A1
 refine at_lc1 16 hr H fun fr t H => ?_
 obtain ⟨h5, e2, A⟩ := A.pu (.cells none 2 [.slice none 0, Ai 0])
 refine at_gn 4 [(17, .agg (e_S_tree_Tree x4)), (18, Ai x5), (19, Ai x6)] 4 (.ptr (some (h4.size, 0))) e2 H fun fr t H => ?_
 obtain ⟨h6, hx, A⟩ := A.s0 0 (e_S_tree_Tree x4) [_, _]
 refine at_lS hx H fun fr t H => ?_
 refine at_S 2 [(6, Ai x6)] 9 H fun fr H => ?_
 obtain ⟨⟨x7, x8, x9⟩, hx, hm⟩ := bind_some hm
 obtain ⟨v1, h7, hr, rfl, A1⟩ := ok_rex_Parse (av := [.str ([97, 124, 98] : List UInt8), .bool false]) hx (A.cut 0)
 replace A := A.g00 A1
 refine at_lc1 21 hr H fun fr t H => ?_
 obtain ⟨h8, e3, A⟩ := A.pu (.cells none 2 [.slice none 0, Ai 0])
 refine at_gn 4 [(22, .agg (e_S_tree_Tree x7)), (23, Ai x8), (24, Ai x9)] 7 (.ptr (some (h7.size, 0))) e3 H fun fr t H => ?_
 obtain ⟨h9, hx, A⟩ := A.s0 0 (e_S_tree_Tree x7) [_, _]
 refine at_lS hx H fun fr t H => ?_
 refine at_S 2 [(9, Ai x9)] 26 H fun fr H => at_sl 3 [(27, .bool (x3 == 0))] H fun fr H => ?_
 obtain ⟨x10, ho, hm⟩ := bind_some hm
 refine at_cl 4 (fun fr' h' => Has fr' 50 [(4, .ptr (some (h4.size, 0))), (6, Ai x6), (7, .ptr (some (h7.size, 0))), (9, Ai x9), (31, .bool x10)] ∧ HH g h' [.obj h7.size (.cells none 2 (e_S_tree_Tree x7)), .obj h4.size (.cells none 2 (e_S_tree_Tree x4)), .obj h1.size (.cells none 2 (e_S_tree_Tree x1))] F) ?_ ?_
 ·rcases iteB_some ho with ⟨hb, hm⟩ | ⟨hb, hm⟩
  ·replace H := H.kn 27 hb
   refine at_l1 28 _ _ H (fun fr => .of (s_ldA (by kernel_rfl) (A.ldA 2 rfl (o := 0) (n := 2) ⟨Nat.le_of_ble_eq_true rfl, rfl⟩))) fun fr t H => ?_
   obtain ⟨x11, hx, hm⟩ := bind_some hm
   obtain ⟨v1, h11, hr, rfl, A1⟩ := ok_tree_Tree_Text (av := [.agg (e_S_tree_Tree x1)]) hx (A.cut 0)
   replace A := A.g00 A1
   refine at_lc1 29 hr H fun fr t H => ?_
   refine at_sl 2 [(31, .bool (x11 == ([40, 91, 54, 49, 93, 46, 60, 49, 58, 123, 48, 44, 58, 91, 54, 50, 93, 125, 62, 41] : List UInt8)))] H fun fr H => ?_
   obtain rfl := injA hm
   exact at_nil ⟨H.ls, A⟩
  replace H := H.kn 27 hb
  refine at_sl 4 [(31, .bool false)] H fun fr H => ?_
  obtain rfl := injA hm
  exact at_nil ⟨H.ls, A⟩
 clear A
 intro t fr h10 hK
 obtain ⟨H, A⟩ := hK
 refine at_sl 1 [(32, .bool x10)] H fun fr H => at_cl 3 (fun fr' h' => h10 = h' ∧ Has fr' 50 [(4, .ptr (some (h4.size, 0))), (7, .ptr (some (h7.size, 0))), (9, Ai x9), (35, .bool (x10 && (x6 == 0)))]) ?_ ?_
 ·cases hb : (x10 : Bool) with
  | true =>
   replace H := H.kn 32 hb
   exact at_sl 3 [(35, .bool (x6 == 0))] H fun fr H => at_zb H hb
  | false =>
   replace H := H.kn 32 hb
   exact at_sl 3 [(35, .bool false)] H fun fr H => at_zb H hb
 intro t fr h' hK
 obtain ⟨e, H⟩ := hK
 subst e
 refine at_sl 1 [(36, .bool (x10 && (x6 == 0)))] H fun fr H => ?_
 obtain ⟨x12, ho, hm⟩ := bind_some hm
 refine at_cl 4 (fun fr' h' => Has fr' 50 [(7, .ptr (some (h7.size, 0))), (9, Ai x9), (40, .bool x12)] ∧ HH g h' [.obj h7.size (.cells none 2 (e_S_tree_Tree x7)), .obj h4.size (.cells none 2 (e_S_tree_Tree x4)), .obj h1.size (.cells none 2 (e_S_tree_Tree x1))] F) ?_ ?_
 ·rcases iteB_some ho with ⟨hb, hm⟩ | ⟨hb, hm⟩
  ·replace H := H.kn 36 hb
   refine at_l1 37 _ _ H (fun fr => .of (s_ldA (by kernel_rfl) (A.ldA 1 rfl (o := 0) (n := 2) ⟨Nat.le_of_ble_eq_true rfl, rfl⟩))) fun fr t H => ?_
   obtain ⟨x13, hx, hm⟩ := bind_some hm
   obtain ⟨v1, h13, hr, rfl, A1⟩ := ok_tree_Tree_Text (av := [.agg (e_S_tree_Tree x4)]) hx (A.cut 0)
   replace A := A.g00 A1
   refine at_lc1 38 hr H fun fr t H => ?_
   refine at_sl 2 [(40, .bool (x13 == ([40, 91, 54, 49, 93, 124, 91, 54, 50, 93, 41] : List UInt8)))] H fun fr H => ?_
   obtain rfl := injA hm
   exact at_nil ⟨H.ls, A⟩
  replace H := H.kn 36 hb
  refine at_sl 4 [(40, .bool false)] H fun fr H => ?_
  obtain rfl := injA hm
  exact at_nil ⟨H.ls, A⟩
 clear A
 intro t fr h12 hK
 obtain ⟨H, A⟩ := hK
 refine at_sl 1 [(41, .bool x12)] H fun fr H => at_cl 3 (fun fr' h' => h12 = h' ∧ Has fr' 50 [(7, .ptr (some (h7.size, 0))), (44, .bool (x12 && (x9 == 0)))]) ?_ ?_
 ·cases hb : (x12 : Bool) with
  | true =>
   replace H := H.kn 41 hb
   exact at_sl 3 [(44, .bool (x9 == 0))] H fun fr H => at_zb H hb
  | false =>
   replace H := H.kn 41 hb
   exact at_sl 3 [(44, .bool false)] H fun fr H => at_zb H hb
 intro t fr h' hK
 obtain ⟨e, H⟩ := hK
 subst e
 refine at_sl 1 [(45, .bool (x12 && (x9 == 0)))] H fun fr H => ?_
 obtain ⟨x14, ho, hm⟩ := bind_some hm
 refine at_cl 4 (fun fr' h' => Has fr' 50 [(49, .bool x14)] ∧ HH g h' [.obj h7.size (.cells none 2 (e_S_tree_Tree x7)), .obj h4.size (.cells none 2 (e_S_tree_Tree x4)), .obj h1.size (.cells none 2 (e_S_tree_Tree x1))] F) ?_ ?_
 ·rcases iteB_some ho with ⟨hb, hm⟩ | ⟨hb, hm⟩
  ·replace H := H.kn 45 hb
   refine at_l1 46 _ _ H (fun fr => .of (s_ldA (by kernel_rfl) (A.ldA 0 rfl (o := 0) (n := 2) ⟨Nat.le_of_ble_eq_true rfl, rfl⟩))) fun fr t H => ?_
   obtain ⟨x15, hx, hm⟩ := bind_some hm
   obtain ⟨v1, h15, hr, rfl, A1⟩ := ok_tree_Tree_Text (av := [.agg (e_S_tree_Tree x7)]) hx (A.cut 0)
   replace A := A.g00 A1
   refine at_lc1 47 hr H fun fr t H => ?_
   refine at_sl 2 [(49, .bool (x15 == ([40, 91, 54, 49, 93, 46, 40, 91, 55, 99, 93, 46, 91, 54, 50, 93, 41, 41] : List UInt8)))] H fun fr H => ?_
   obtain rfl := injA hm
   exact at_nil ⟨H.ls, A⟩
  replace H := H.kn 45 hb
  refine at_sl 4 [(49, .bool false)] H fun fr H => ?_
  obtain rfl := injA hm
  exact at_nil ⟨H.ls, A⟩
 clear A
 intro t fr h14 hK
 obtain ⟨H, A⟩ := hK
 refine at_L 1 [(0, .bool x14)] H fun fr H => aw_rt ?_
 obtain rfl := injA hm
 refine ⟨.inl rfl, .bool x14, rH H, ?_⟩
 replace A := A.d0
 exact ⟨rfl, A⟩
def M_rex_Quote_L0 (p0 : List UInt8) (x1 : List UInt8) (s : (List UInt8) × Int) : Option (((List UInt8) × Int) ⊕ (((List UInt8)))) :=
 match s with
 | (x2, x3) => iteB (decide (x3 < (p0.length : Int))) (((ixS p0 x3).bind fun x6 => (M_strings_IndexByte x1 x6).bind fun x7 => iteB (decide (x7 ≥ 0)) (need (okN 1 (x2.length + ([(92 : UInt8)] : List UInt8).length)) <| some (x2 ++ ([(92 : UInt8)] : List UInt8))) (some x2) : Option (((List UInt8)))).bind fun x5 => (ixS p0 x3).bind fun x8 => (toY x8).bind fun x9 => need (okN 1 (x5.length + ([x9] : List UInt8).length)) <| some (.inl ((x5 ++ ([x9] : List UInt8)), IntKind.i64.wrap (x3 + 1)))) (some (.inr x2))
def M_rex_Quote (p0 : List UInt8) (p1 : Bool) : Option ((List UInt8)) :=
 (iteB p1 (need (decide (([46, 42, 91, 93, 94, 36, 92] : List UInt8).length + ([40, 41, 124, 43, 63, 123, 125] : List UInt8).length ≤ 9223372036854775807)) <| some (([46, 42, 91, 93, 94, 36, 92] : List UInt8) ++ ([40, 41, 124, 43, 63, 123, 125] : List UInt8))) (some ([46, 42, 91, 93, 94, 36, 92] : List UInt8)) : Option (((List UInt8)))).bind fun x1 => (loop (M_rex_Quote_L0 p0 x1) (([] : List UInt8), (0 : Int))).bind fun x4 => some x4
theorem ok_rex_Quote {p0 p1 q0} (hm : M_rex_Quote p0 p1 = some q0) (A : HH g h [] F) (hc : canL (cfg.still 10) av = [.str p0, .bool p1] := by kernel_rfl) : ∃ v h', Runs cfg g h 10 av v h' ∧ v = .str q0 ∧ HH g h' [] F := by
 refine rq1 34 [.tmp 4] hc ?_
 clear hc
 unfold M_rex_Quote at hm
 refine bg 34 [(0, .str p0), (1, .bool p1)] fun fr H => ?_
 refine aw_sr 1 (at_S 1 [] 1 H fun fr H => at_L 1 [(5, .str ([46, 42, 91, 93, 94, 36, 92] : List UInt8))] H fun fr H => aw_sq ?_)
 obtain ⟨o1, ho, hm⟩ := bind_some hm
 refine aw_mono (Q' := fun e fr' h' => (∃ x1, e = .normal ∧ x1 = o1 ∧ Has fr' 34 [(0, .str p0), (5, .str x1)] ∧ HH g h' [] F) ∨ False) ?_ ?_
 ·replace hm := ho
  clear ho
  refine aw_sr 1 (at_L 1 [(8, .bool p1)] H fun fr H => aw_if 8 H hm (fun hb hm H => ?_) fun hb hm H => ?_)
  ·refine aw_rg 3 (at_sl 1 [(9, .str ([46, 42, 91, 93, 94, 36, 92] : List UInt8))] H fun fr H => ?_)
   obtain ⟨hb, hm⟩ := need_some hm
   refine at_l1 10 (.str (([46, 42, 91, 93, 94, 36, 92] : List UInt8) ++ ([40, 41, 124, 43, 63, 123, 125] : List UInt8))) h H (fun fr => .of (s_cat (by kernel_rfl) hb)) fun fr t H => ?_
   refine at_se 1 [(0, .str p0), (5, .str (([46, 42, 91, 93, 94, 36, 92] : List UInt8) ++ ([40, 41, 124, 43, 63, 123, 125] : List UInt8)))] H fun fr H => at_nil ?_
   exact .inl ⟨_, rfl, injA hm, H.ls, A⟩
  exact aw_sk (.inl ⟨_, rfl, injA hm, H.ls, A⟩)
 clear ho
 clear A
 intro e fr h1 hQ
 rcases hQ with ⟨x1, rfl, rfl, H, A⟩ | hF
 ·show AW _ _ _ _ _ _ _
  refine aw_sr 1 (at_L 1 [(6, .slice none 0)] H fun fr H => aw_sq (aw_sr 3 (at_L 3 [(12, Ai (p0.length : Int)), (13, Ai 0)] H fun fr H => aw_block (id := 0) (by kernel_rfl) ?_)))
  replace A : HH g h1 [.lst none 5 (lst eY ([] : List UInt8))] F := A.nilL 5
  obtain ⟨o2, ho, hm⟩ := bind_some hm
  refine aw_mono (Q' := fun e fr' h' => (∃ x4, e = .exit 0 ∧ x4 = o2 ∧ ∃ r2, Has fr' 34 [(6, rowV r2 x4.length)] ∧ HH g h' [.lst r2 5 (lst eY x4)] F) ∨ False) ?_ ?_
  ·refine aw_loop (by kernel_rfl) (fun (s : (List UInt8) × Int) fr' h' => ∃ x2 x3, (x2, x3) = s ∧ ∃ r1, Has fr' 34 [(0, .str p0), (5, .str x1), (6, rowV r1 x2.length), (12, Ai (p0.length : Int)), (13, Ai x3)] ∧ HH g h' [.lst r1 5 (lst eY x2)] F) ho ⟨_, _, rfl, none, H.ls, A⟩ ?_
   clear ho hm H A
   intro s q fr h2 hI hm
   obtain ⟨x2, x3, rfl, r1, H, A⟩ := hI
   unfold M_rex_Quote_L0 at hm
   refine aw_sr 1 (at_L 1 [(14, .bool (decide (x3 < (p0.length : Int))))] H fun fr H => aw_sq (aw_if 14 H hm (fun hb hm H => ?_) fun hb hm H => ?_))
   ·refine aw_kn id (aw_sq (aw_block (id := 1) (by kernel_rfl) ?_))
    refine aw_sr 2 (at_L 2 [(7, Ai x3)] H fun fr H => aw_sq ?_)
    obtain ⟨o3, ho, hm⟩ := bind_some hm
    refine aw_mono (Q' := fun e fr' h' => (∃ x5, e = .normal ∧ x5 = o3 ∧ ∃ r3, Has fr' 34 [(0, .str p0), (5, .str x1), (6, rowV r3 x5.length), (7, Ai x3), (12, Ai (p0.length : Int)), (13, Ai x3)] ∧ HH g h' [.lst r3 5 (lst eY x5)] F) ∨ False) ?_ ?_
    ·replace hm := ho
     clear ho
     refine aw_sr 6 ?_
     obtain ⟨x6, hx, hm⟩ := bind_some hm
     refine at_g1 3 [(16, .str x1)] 19 (Ab x6) h2 H (fun fr => .of (s_ixS (by kernel_rfl) hx)) fun fr t H => ?_
     obtain ⟨x7, hx, hm⟩ := bind_some hm
     obtain ⟨v1, h3, hr, rfl, A1⟩ := ok_strings_IndexByte (av := [.str x1, Ab x6]) hx (A.cut 0)
     replace A := A.g00 A1
     refine at_lc1 20 hr H fun fr t H => ?_
     refine at_L 1 [(21, .bool (decide (x7 ≥ 0)))] H fun fr H => aw_if 21 H hm (fun hb hm H => ?_) fun hb hm H => ?_
     ·refine aw_rg 4 (at_sl 1 [(22, rowV r1 x2.length)] H fun fr H => ?_)
      obtain ⟨h4, e1, A⟩ := A.pL 5 [Ab 92]
      refine at_ln 23 (rowV (some h3.size) (([(92 : UInt8)] : List UInt8).length)) e1 H fun fr t H => ?_
      obtain ⟨hb, hm⟩ := need_some hm
      obtain ⟨r4, h5, hx, A1⟩ := HH.appO encY (by decide) A 1 (xs := x2) (ys := ([(92 : UInt8)] : List UInt8)) rfl (row_first A 0 rfl (n := ([(92 : UInt8)] : List UInt8).length) (z := 1) rfl (by decide)) rfl rfl hb
      replace A : HH g h5 [.lst (some h3.size) 5 ([Ab 92]), .lst r4 5 (lst eY (x2 ++ ([(92 : UInt8)] : List UInt8)))] F := A1
      replace A := A.k1 1
      refine at_l1 24 _ _ H (fun fr => .of (s_app (s := rowS r1 x2.length) (by kernel_rfl) hx)) fun fr t H => ?_
      refine at_se 1 [(0, .str p0), (5, .str x1), (6, rowV r4 ((x2 ++ ([(92 : UInt8)] : List UInt8)).length)), (7, Ai x3), (12, Ai (p0.length : Int)), (13, Ai x3)] H fun fr H => at_nil ?_
      exact .inl ⟨_, rfl, injA hm, _, H.ls, A⟩
     exact aw_sk (.inl ⟨_, rfl, injA hm, _, H.ls, A⟩)
    clear ho
    clear A
    intro e fr h6 hQ
    rcases hQ with ⟨x5, rfl, rfl, r3, H, A⟩ | hF
    ·show AW _ _ _ _ _ _ _
     refine aw_rg 7 ?_
     obtain ⟨x8, hx, hm⟩ := bind_some hm
     refine at_g1 3 [(25, rowV r3 x5.length)] 28 (Ab x8) h6 H (fun fr => .of (s_ixS (by kernel_rfl) hx)) fun fr t H => ?_
     obtain ⟨x9, hx, hm⟩ := bind_some hm
     have hx := toY_eq hx
     have kH := hm
     have kA := A
     have kR := H
     subst hx
     have hm := kH
     have A := kA
     have H := kR
     clear kH kA kR
     obtain ⟨h7, e2, A⟩ := A.pL 5 [Ab (x9.toNat : Int)]
     refine at_ln 29 (rowV (some h6.size) (([x9] : List UInt8).length)) e2 H fun fr t H => ?_
     obtain ⟨hb, hm⟩ := need_some hm
     obtain ⟨r5, h8, hx, A1⟩ := HH.appO encY (by decide) A 1 (xs := x5) (ys := ([x9] : List UInt8)) rfl (row_first A 0 rfl (n := ([x9] : List UInt8).length) (z := 1) rfl (by decide)) rfl rfl hb
     replace A : HH g h8 [.lst (some h6.size) 5 ([Ab (x9.toNat : Int)]), .lst r5 5 (lst eY (x5 ++ ([x9] : List UInt8)))] F := A1
     replace A := A.k1 1
     refine at_l1 30 _ _ H (fun fr => .of (s_app (s := rowS r3 x5.length) (by kernel_rfl) hx)) fun fr t H => ?_
     refine at_se 1 [(0, .str p0), (5, .str x1), (6, rowV r5 ((x5 ++ ([x9] : List UInt8)).length)), (12, Ai (p0.length : Int)), (13, Ai x3)] H fun fr H => at_nr 2 id (at_se 2 [(0, .str p0), (5, .str x1), (6, rowV r5 ((x5 ++ ([x9] : List UInt8)).length)), (12, Ai (p0.length : Int)), (13, Ai (IntKind.i64.wrap (x3 + 1)))] H fun fr H => at_nil ?_)
     exact nx hm ⟨_, _, rfl, _, H.ls, A⟩
    exact hF.elim
   refine aw_exit (i := 0) (by kernel_rfl) ?_
   exact nr hm fun e => .inl ⟨_, rfl, e, _, H.ls, A⟩
  clear ho
  clear A
  intro e fr h9 hQ
  rcases hQ with ⟨x4, rfl, rfl, r2, H, A⟩ | hF
  ·show AW _ _ _ _ _ _ _
   refine aw_sr 3 (at_sl 1 [(32, rowV r2 x4.length)] H fun fr H => at_l1 33 (.str x4) h9 H (fun fr => .of (s_byO (xs := x4) A 0 rfl (by kernel_rfl))) fun fr t H => ?_)
   refine at_L 1 [(4, .str x4)] H fun fr H => aw_rt ?_
   obtain rfl := injA hm
   refine ⟨.inl rfl, .str x4, rH H, ?_⟩
   replace A := A.d0
   exact ⟨rfl, A⟩
  exact hF.elim
 exact hF.elim
structure SC_tree_asker_does_1_sIIIPP where
 M_tree_asker_does_1_sIIIPP : Int → Int → Int → S_tree_asker → Option (Bool × (List (S_tree_question × Bool)))
 M_tree_asker_asks : S_tree_asker → S_tree_question → Option (Bool × (List (S_tree_question × Bool)))
 M_tree_asker_does : S_tree_asker → S_tree_question → Option (Bool × (List (S_tree_question × Bool)))
 M_tree_asker_cut_sPRFPFPe0PPFe2e4e5 : S_tree_asker → S_tree_question → S_tree_Node → S_tree_question → Option (Bool × (List (S_tree_question × Bool)))
 M_tree_asker_does_2_sIPFPPPP : Int → S_tree_asker → S_tree_Node → S_tree_question → Option (Bool × (List (S_tree_question × Bool)))
 M_tree_asker_does_3_sIPFPPPP : Int → S_tree_asker → S_tree_Node → S_tree_question → Option (Bool × (List (S_tree_question × Bool)))
structure OkSC_tree_asker_does_1_sIIIPP (S : SC_tree_asker_does_1_sIIIPP) : Prop where
 ok_tree_asker_does_1_sIIIPP : ∀ {g : Gd} {h : AHeap} {F : List Ck} {p0 : Int} {p1 : Int} {p2 : Int} {p3_0 : S_tree_asker} {bp3 : Nat} {bp3_0 : Nat} {bp3_0_3 : Nat} {q0 : Bool} {u2 : List (S_tree_question × Bool)} {av : List AVal} (hm : S.M_tree_asker_does_1_sIIIPP p0 p1 p2 p3_0 = some (q0, u2)) (hc : canL (cfg.still 37) av = [Ai p0, Ai p1, Ai p2, .ptr (some (bp3, 0))]) (A : HH g h [.obj bp3 (.cells none 2 [.ptr (some (bp3_0, 0))]), .obj bp3_0 (.cells none 2 [vs e_S_tree_Node p3_0.t_.Nodes, Ai p3_0.t_.Root, .str p3_0.s_, .map (some bp3_0_3)]), .obj bp3_0_3 (.map 2 (encM (fun k : S_tree_question => .agg (e_S_tree_question k)) (fun v : Bool => .bool v) p3_0.told_))] F), ∃ v h', Runs cfg g h 37 av v h' ∧ v = .bool q0 ∧ HH g h' [.obj bp3 (.cells none 2 [.ptr (some (bp3_0, 0))]), .obj bp3_0 (.cells none 2 [vs e_S_tree_Node p3_0.t_.Nodes, Ai p3_0.t_.Root, .str p3_0.s_, .map (some bp3_0_3)]), .obj bp3_0_3 (.map 2 (encM (fun k : S_tree_question => .agg (e_S_tree_question k)) (fun v : Bool => .bool v) u2))] F
 ok_tree_asker_asks : ∀ {g : Gd} {h : AHeap} {F : List Ck} {p0 : S_tree_asker} {p1 : S_tree_question} {bp0 : Nat} {bp0_3 : Nat} {q0 : Bool} {u1 : List (S_tree_question × Bool)} {av : List AVal} (hm : S.M_tree_asker_asks p0 p1 = some (q0, u1)) (hc : canL (cfg.still 19) av = [.ptr (some (bp0, 0)), .agg (e_S_tree_question p1)]) (A : HH g h [.obj bp0 (.cells none 2 [vs e_S_tree_Node p0.t_.Nodes, Ai p0.t_.Root, .str p0.s_, .map (some bp0_3)]), .obj bp0_3 (.map 2 (encM (fun k : S_tree_question => .agg (e_S_tree_question k)) (fun v : Bool => .bool v) p0.told_))] F), ∃ v h', Runs cfg g h 19 av v h' ∧ v = .bool q0 ∧ HH g h' [.obj bp0 (.cells none 2 [vs e_S_tree_Node p0.t_.Nodes, Ai p0.t_.Root, .str p0.s_, .map (some bp0_3)]), .obj bp0_3 (.map 2 (encM (fun k : S_tree_question => .agg (e_S_tree_question k)) (fun v : Bool => .bool v) u1))] F
 ok_tree_asker_does : ∀ {g : Gd} {h : AHeap} {F : List Ck} {p0 : S_tree_asker} {p1 : S_tree_question} {bp0 : Nat} {bp0_3 : Nat} {q0 : Bool} {u1 : List (S_tree_question × Bool)} {av : List AVal} (hm : S.M_tree_asker_does p0 p1 = some (q0, u1)) (hc : canL (cfg.still 27) av = [.ptr (some (bp0, 0)), .agg (e_S_tree_question p1)]) (A : HH g h [.obj bp0 (.cells none 2 [vs e_S_tree_Node p0.t_.Nodes, Ai p0.t_.Root, .str p0.s_, .map (some bp0_3)]), .obj bp0_3 (.map 2 (encM (fun k : S_tree_question => .agg (e_S_tree_question k)) (fun v : Bool => .bool v) p0.told_))] F), ∃ v h', Runs cfg g h 27 av v h' ∧ v = .bool q0 ∧ HH g h' [.obj bp0 (.cells none 2 [vs e_S_tree_Node p0.t_.Nodes, Ai p0.t_.Root, .str p0.s_, .map (some bp0_3)]), .obj bp0_3 (.map 2 (encM (fun k : S_tree_question => .agg (e_S_tree_question k)) (fun v : Bool => .bool v) u1))] F
 ok_tree_asker_cut_sPRFPFPe0PPFe2e4e5 : ∀ {g : Gd} {h : AHeap} {F : List Ck} {p0 : S_tree_asker} {p1 : S_tree_question} {p2_11 : S_tree_Node} {p2_12 : S_tree_question} {bp0 : Nat} {bp0_3 : Nat} {bp2_10 : Nat} {bp2_10_0_10 : Nat} {bp2_11 : Nat} {bp2_12 : Nat} {q0 : Bool} {u1 : List (S_tree_question × Bool)} {av : List AVal} (hm : S.M_tree_asker_cut_sPRFPFPe0PPFe2e4e5 p0 p1 p2_11 p2_12 = some (q0, u1)) (hc : canL (cfg.still 39) av = [.ptr (some (bp0, 0)), .agg (e_S_tree_question p1), .func (.func 40) [] [.ptr (some (bp2_10, 0)), .ptr (some (bp2_11, 0)), .ptr (some (bp2_12, 0))], .func (.func 41) [] [.ptr (some (bp2_10, 0)), .ptr (some (bp2_11, 0)), .ptr (some (bp2_12, 0))]]) (A : HH g h [.obj bp0 (.cells none 2 [vs e_S_tree_Node p0.t_.Nodes, Ai p0.t_.Root, .str p0.s_, .map (some bp0_3)]), .obj bp0_3 (.map 2 (encM (fun k : S_tree_question => .agg (e_S_tree_question k)) (fun v : Bool => .bool v) p0.told_)), .obj bp2_10 (.cells none 2 [.func (.func 37) [] [.ptr (some (bp2_10_0_10, 0))]]), .obj bp2_10_0_10 (.cells none 2 [.ptr (some (bp0, 0))]), .obj bp2_11 (.cells none 2 (e_S_tree_Node p2_11)), .obj bp2_12 (.cells none 2 (e_S_tree_question p2_12))] F), ∃ v h', Runs cfg g h 39 av v h' ∧ v = .bool q0 ∧ HH g h' [.obj bp0 (.cells none 2 [vs e_S_tree_Node p0.t_.Nodes, Ai p0.t_.Root, .str p0.s_, .map (some bp0_3)]), .obj bp0_3 (.map 2 (encM (fun k : S_tree_question => .agg (e_S_tree_question k)) (fun v : Bool => .bool v) u1)), .obj bp2_10 (.cells none 2 [.func (.func 37) [] [.ptr (some (bp2_10_0_10, 0))]]), .obj bp2_10_0_10 (.cells none 2 [.ptr (some (bp0, 0))]), .obj bp2_11 (.cells none 2 (e_S_tree_Node p2_11)), .obj bp2_12 (.cells none 2 (e_S_tree_question p2_12))] F
 ok_tree_asker_does_2_sIPFPPPP : ∀ {g : Gd} {h : AHeap} {F : List Ck} {p0 : Int} {p1_0_10_0 : S_tree_asker} {p2 : S_tree_Node} {p3 : S_tree_question} {bp1 : Nat} {bp1_0_10 : Nat} {bp1_0_10_0 : Nat} {bp1_0_10_0_3 : Nat} {bp2 : Nat} {bp3 : Nat} {q0 : Bool} {u3 : List (S_tree_question × Bool)} {av : List AVal} (hm : S.M_tree_asker_does_2_sIPFPPPP p0 p1_0_10_0 p2 p3 = some (q0, u3)) (hc : canL (cfg.still 40) av = [Ai p0, .ptr (some (bp1, 0)), .ptr (some (bp2, 0)), .ptr (some (bp3, 0))]) (A : HH g h [.obj bp1 (.cells none 2 [.func (.func 37) [] [.ptr (some (bp1_0_10, 0))]]), .obj bp1_0_10 (.cells none 2 [.ptr (some (bp1_0_10_0, 0))]), .obj bp1_0_10_0 (.cells none 2 [vs e_S_tree_Node p1_0_10_0.t_.Nodes, Ai p1_0_10_0.t_.Root, .str p1_0_10_0.s_, .map (some bp1_0_10_0_3)]), .obj bp1_0_10_0_3 (.map 2 (encM (fun k : S_tree_question => .agg (e_S_tree_question k)) (fun v : Bool => .bool v) p1_0_10_0.told_)), .obj bp2 (.cells none 2 (e_S_tree_Node p2)), .obj bp3 (.cells none 2 (e_S_tree_question p3))] F), ∃ v h', Runs cfg g h 40 av v h' ∧ v = .bool q0 ∧ HH g h' [.obj bp1 (.cells none 2 [.func (.func 37) [] [.ptr (some (bp1_0_10, 0))]]), .obj bp1_0_10 (.cells none 2 [.ptr (some (bp1_0_10_0, 0))]), .obj bp1_0_10_0 (.cells none 2 [vs e_S_tree_Node p1_0_10_0.t_.Nodes, Ai p1_0_10_0.t_.Root, .str p1_0_10_0.s_, .map (some bp1_0_10_0_3)]), .obj bp1_0_10_0_3 (.map 2 (encM (fun k : S_tree_question => .agg (e_S_tree_question k)) (fun v : Bool => .bool v) u3)), .obj bp2 (.cells none 2 (e_S_tree_Node p2)), .obj bp3 (.cells none 2 (e_S_tree_question p3))] F
 ok_tree_asker_does_3_sIPFPPPP : ∀ {g : Gd} {h : AHeap} {F : List Ck} {p0 : Int} {p1_0_10_0 : S_tree_asker} {p2 : S_tree_Node} {p3 : S_tree_question} {bp1 : Nat} {bp1_0_10 : Nat} {bp1_0_10_0 : Nat} {bp1_0_10_0_3 : Nat} {bp2 : Nat} {bp3 : Nat} {q0 : Bool} {u3 : List (S_tree_question × Bool)} {av : List AVal} (hm : S.M_tree_asker_does_3_sIPFPPPP p0 p1_0_10_0 p2 p3 = some (q0, u3)) (hc : canL (cfg.still 41) av = [Ai p0, .ptr (some (bp1, 0)), .ptr (some (bp2, 0)), .ptr (some (bp3, 0))]) (A : HH g h [.obj bp1 (.cells none 2 [.func (.func 37) [] [.ptr (some (bp1_0_10, 0))]]), .obj bp1_0_10 (.cells none 2 [.ptr (some (bp1_0_10_0, 0))]), .obj bp1_0_10_0 (.cells none 2 [vs e_S_tree_Node p1_0_10_0.t_.Nodes, Ai p1_0_10_0.t_.Root, .str p1_0_10_0.s_, .map (some bp1_0_10_0_3)]), .obj bp1_0_10_0_3 (.map 2 (encM (fun k : S_tree_question => .agg (e_S_tree_question k)) (fun v : Bool => .bool v) p1_0_10_0.told_)), .obj bp2 (.cells none 2 (e_S_tree_Node p2)), .obj bp3 (.cells none 2 (e_S_tree_question p3))] F), ∃ v h', Runs cfg g h 41 av v h' ∧ v = .bool q0 ∧ HH g h' [.obj bp1 (.cells none 2 [.func (.func 37) [] [.ptr (some (bp1_0_10, 0))]]), .obj bp1_0_10 (.cells none 2 [.ptr (some (bp1_0_10_0, 0))]), .obj bp1_0_10_0 (.cells none 2 [vs e_S_tree_Node p1_0_10_0.t_.Nodes, Ai p1_0_10_0.t_.Root, .str p1_0_10_0.s_, .map (some bp1_0_10_0_3)]), .obj bp1_0_10_0_3 (.map 2 (encM (fun k : S_tree_question => .agg (e_S_tree_question k)) (fun v : Bool => .bool v) u3)), .obj bp2 (.cells none 2 (e_S_tree_Node p2)), .obj bp3 (.cells none 2 (e_S_tree_question p3))] F
def B_tree_asker_does_1_sIIIPP (S : SC_tree_asker_does_1_sIIIPP) (p0 : Int) (p1 : Int) (p2 : Int) (p3_0 : S_tree_asker) : Option (Bool × (List (S_tree_question × Bool))) :=
 (S.M_tree_asker_asks p3_0 (⟨p0, (0 : Int), p1, p2⟩ : S_tree_question)).bind fun (x1, x2) => some (x1, x2)
theorem okB_tree_asker_does_1_sIIIPP {S : SC_tree_asker_does_1_sIIIPP} (hS : OkSC_tree_asker_does_1_sIIIPP S) {p0 p1 p2 p3_0 bp3 bp3_0 bp3_0_3 q0 u2} (hm : B_tree_asker_does_1_sIIIPP S p0 p1 p2 p3_0 = some (q0, u2)) (hc : canL (cfg.still 37) av = [Ai p0, Ai p1, Ai p2, .ptr (some (bp3, 0))]) (A : HH g h [.obj bp3 (.cells none 2 [.ptr (some (bp3_0, 0))]), .obj bp3_0 (.cells none 2 [vs e_S_tree_Node p3_0.t_.Nodes, Ai p3_0.t_.Root, .str p3_0.s_, .map (some bp3_0_3)]), .obj bp3_0_3 (.map 2 (encM (fun k : S_tree_question => .agg (e_S_tree_question k)) (fun v : Bool => .bool v) p3_0.told_))] F) : ∃ v h', Runs cfg g h 37 av v h' ∧ v = .bool q0 ∧ HH g h' [.obj bp3 (.cells none 2 [.ptr (some (bp3_0, 0))]), .obj bp3_0 (.cells none 2 [vs e_S_tree_Node p3_0.t_.Nodes, Ai p3_0.t_.Root, .str p3_0.s_, .map (some bp3_0_3)]), .obj bp3_0_3 (.map 2 (encM (fun k : S_tree_question => .agg (e_S_tree_question k)) (fun v : Bool => .bool v) u2))] F := by
 refine rq1 14 [.tmp 7] hc ?_
 clear hc
 unfold B_tree_asker_does_1_sIIIPP at hm
 refine bg 14 [(0, Ai p0), (1, Ai p1), (2, Ai p2), (3, .ptr (some (bp3, 0)))] fun fr H => ?_
 refine aw_sr 1 (at_S 1 [] 7 H fun fr H => at_ll 8 0 0 A H fun fr t H => ?_)
 replace A := A.k3 1 2 0
 have A1 := A.cut 2
 obtain ⟨⟨x1, x2⟩, hx, hm⟩ := bind_some hm
 obtain ⟨v1, h1, hr, rfl, A1⟩ := hS.ok_tree_asker_asks (av := [.ptr (some (bp3_0, 0)), .agg [Ai p0, Ai 0, Ai p1, Ai p2]]) hx (by kernel_rfl) A1
 replace A := A.g22 A1
 refine at_gc1 4 [] 13 hr H fun fr t H => ?_
 refine at_L 1 [(7, .bool x1)] H fun fr H => aw_rt ?_
 obtain ⟨rfl, rfl⟩ := injB hm
 refine ⟨.inl rfl, .bool x1, rH H, ?_⟩
 replace A := A.k3 2 0 1
 exact ⟨rfl, A⟩
def B_tree_asker_asks (S : SC_tree_asker_does_1_sIIIPP) (p0 : S_tree_asker) (p1 : S_tree_question) : Option (Bool × (List (S_tree_question × Bool))) :=
 iteB ((mfind p0.told_ p1).isSome) (some (((mfind p0.told_ p1).getD false), p0.told_)) ((S.M_tree_asker_does p0 p1).bind fun (x1, x2) => some (x1, (mput x2 p1 x1)))
theorem okB_tree_asker_asks {S : SC_tree_asker_does_1_sIIIPP} (hS : OkSC_tree_asker_does_1_sIIIPP S) {p0 p1 bp0 bp0_3 q0 u1} (hm : B_tree_asker_asks S p0 p1 = some (q0, u1)) (hc : canL (cfg.still 19) av = [.ptr (some (bp0, 0)), .agg (e_S_tree_question p1)]) (A : HH g h [.obj bp0 (.cells none 2 [vs e_S_tree_Node p0.t_.Nodes, Ai p0.t_.Root, .str p0.s_, .map (some bp0_3)]), .obj bp0_3 (.map 2 (encM (fun k : S_tree_question => .agg (e_S_tree_question k)) (fun v : Bool => .bool v) p0.told_))] F) : ∃ v h', Runs cfg g h 19 av v h' ∧ v = .bool q0 ∧ HH g h' [.obj bp0 (.cells none 2 [vs e_S_tree_Node p0.t_.Nodes, Ai p0.t_.Root, .str p0.s_, .map (some bp0_3)]), .obj bp0_3 (.map 2 (encM (fun k : S_tree_question => .agg (e_S_tree_question k)) (fun v : Bool => .bool v) u1))] F := by
 refine rq1 29 [.tmp 4] hc ?_
 clear hc
 unfold B_tree_asker_asks at hm
 refine bg 29 [(0, .ptr (some (bp0, 0))), (1, .agg (e_S_tree_question p1))] fun fr H => ?_
 refine aw_sr 2 ?_
 obtain ⟨h1, e1, A⟩ := A.pu (.cells none 2 (e_S_tree_question p1))
 refine at_ln 3 (.ptr (some (h.size, 0))) e1 H fun fr t H => ?_
 refine at_L 1 [] H fun fr H => aw_sq (aw_sq (aw_dg 1 11 ?_))
 refine at_gl 3 [] 12 1 3 A H fun fr t H => ?_
 refine at_l1 13 _ _ H (fun fr => .of (s_ldA (by kernel_rfl) (A.ldA 0 rfl (o := 0) (n := 4) ⟨Nat.le_of_ble_eq_true rfl, rfl⟩))) fun fr t H => ?_
 refine at_l1 14 (.tuple [.bool ((mfind p0.told_ p1).getD false), .bool ((mfind p0.told_ p1).isSome)]) h1 H (fun fr => .of (s_lkT (by kernel_rfl) (HH.mlook (kt := 56) (et := 4) (ek := fun k : S_tree_question => .agg (e_S_tree_question k)) (ev := fun v : Bool => .bool v) key_S_tree_question A 2 rfl (t := 51) (by kernel_rfl) (z := false) (by kernel_rfl) p1))) fun fr t H => ?_
 refine at_S 5 [(5, .bool ((mfind p0.told_ p1).getD false)), (6, .bool ((mfind p0.told_ p1).isSome))] 1 H fun fr H => at_L 1 [(17, .bool ((mfind p0.told_ p1).isSome))] H fun fr H => aw_if 17 H hm (fun hb hm H => ?_) fun hb hm H => ?_
 ·refine aw_sr 2 (at_L 2 [(4, .bool ((mfind p0.told_ p1).getD false))] H fun fr H => aw_rt ?_)
  obtain ⟨rfl, rfl⟩ := injB hm
  refine ⟨.inl rfl, .bool ((mfind p0.told_ p1).getD false), rH H, ?_⟩
  replace A := A.k2 1 2
  exact ⟨rfl, A⟩
 refine aw_ks 4 id (at_g1 1 [(19, .ptr (some (bp0, 0)))] 20 _ _ H (fun fr => .of (s_ldA (by kernel_rfl) (A.ldA 0 rfl (o := 0) (n := 4) ⟨Nat.le_of_ble_eq_true rfl, rfl⟩))) fun fr t H => ?_)
 replace A : HH g h1 [_, _, .obj h.size (.cells none 2 (e_S_tree_question p1))] F := ((A.front 2 rfl).front 2 rfl)
 have A1 := A.cut 2
 obtain ⟨⟨x1, x2⟩, hx, hm⟩ := bind_some hm
 obtain ⟨v1, h2, hr, rfl, A1⟩ := hS.ok_tree_asker_does (av := [.ptr (some (bp0, 0)), .agg (e_S_tree_question p1)]) hx (by kernel_rfl) A1
 replace A := A.g22 A1
 refine at_lc1 21 hr H fun fr t H => ?_
 refine at_L 1 [(7, .bool x1)] H fun fr H => aw_sq (aw_dg 5 7 ?_)
 refine at_gl 3 [] 25 0 3 A H fun fr t H => ?_
 refine at_l1 26 _ _ H (fun fr => .of (s_ldA (by kernel_rfl) (A.ldA 2 rfl (o := 0) (n := 4) ⟨Nat.le_of_ble_eq_true rfl, rfl⟩))) fun fr t H => ?_
 refine at_sl 1 [(27, .bool x1)] H fun fr H => ?_
 obtain ⟨h3, hx, A1⟩ := HH.mset (kt := 56) (et := 4) (ek := fun k : S_tree_question => .agg (e_S_tree_question k)) (ev := fun v : Bool => .bool v) key_S_tree_question A 1 rfl (t := 51) (by kernel_rfl) p1 x1
 replace A : HH g h3 [_, .obj bp0_3 (.map 2 (encM (fun k : S_tree_question => .agg (e_S_tree_question k)) (fun v : Bool => .bool v) (mput x2 p1 x1))), _] F := A1
 refine at_l0 (.tuple []) h3 H (fun fr => .of (s_ms (by kernel_rfl) hx)) fun fr t H => ?_
 refine at_ns 2 id (at_L 2 [(4, .bool x1)] H fun fr H => aw_rt ?_)
 obtain ⟨rfl, rfl⟩ := injB hm
 refine ⟨.inl rfl, .bool x1, rH H, ?_⟩
 replace A := A.d2
 exact ⟨rfl, A⟩
def B_tree_asker_does (S : SC_tree_asker_does_1_sIIIPP) (p0 : S_tree_asker) (p1 : S_tree_question) : Option (Bool × (List (S_tree_question × Bool))) :=
 (ixV p0.t_.Nodes p1.node_).bind fun x1 => iteB (x1.Kind == 0) (some (p1.i_ == p1.j_, p0.told_)) (iteB (x1.Kind == 1) ((iteB (p1.j_ == (IntKind.i64.wrap (p1.i_ + 1))) ((ixS p0.s_ p1.i_).bind fun x3 => (M_class_Set_Has x1.Set x3).bind fun x4 => some x4) (some false) : Option (Bool)).bind fun x2 => some (x2, p0.told_)) (iteB (x1.Kind == 6) (some ((p1.i_ == 0) && (p1.j_ == 0), p0.told_)) (iteB (x1.Kind == 7) (some ((p1.i_ == (p0.s_.length : Int)) && (p1.j_ == (p0.s_.length : Int)), p0.told_)) (iteB (x1.Kind == 3) ((S.M_tree_asker_does_1_sIIIPP x1.A p1.i_ p1.j_ p0).bind fun (x5, x6) => (iteB x5 (some (x6, true)) ((S.M_tree_asker_does_1_sIIIPP x1.B p1.i_ p1.j_ (⟨p0.t_, p0.s_, x6⟩ : S_tree_asker)).bind fun (x9, x10) => some (x10, x9)) : Option ((List (S_tree_question × Bool)) × Bool)).bind fun (x7, x8) => some (x8, x7)) (iteB (x1.Kind == 5) ((S.M_tree_asker_does_1_sIIIPP x1.A p1.i_ p1.j_ p0).bind fun (x11, x12) => some (x11, x12)) (iteB (x1.Kind == 2) ((S.M_tree_asker_cut_sPRFPFPe0PPFe2e4e5 p0 p1 x1 p1).bind fun (x13, x14) => some (x13, x14)) (none)))))))
theorem okB_tree_asker_does {S : SC_tree_asker_does_1_sIIIPP} (hS : OkSC_tree_asker_does_1_sIIIPP S) {p0 p1 bp0 bp0_3 q0 u1} (hm : B_tree_asker_does S p0 p1 = some (q0, u1)) (hc : canL (cfg.still 27) av = [.ptr (some (bp0, 0)), .agg (e_S_tree_question p1)]) (A : HH g h [.obj bp0 (.cells none 2 [vs e_S_tree_Node p0.t_.Nodes, Ai p0.t_.Root, .str p0.s_, .map (some bp0_3)]), .obj bp0_3 (.map 2 (encM (fun k : S_tree_question => .agg (e_S_tree_question k)) (fun v : Bool => .bool v) p0.told_))] F) : ∃ v h', Runs cfg g h 27 av v h' ∧ v = .bool q0 ∧ HH g h' [.obj bp0 (.cells none 2 [vs e_S_tree_Node p0.t_.Nodes, Ai p0.t_.Root, .str p0.s_, .map (some bp0_3)]), .obj bp0_3 (.map 2 (encM (fun k : S_tree_question => .agg (e_S_tree_question k)) (fun v : Bool => .bool v) u1))] F := by
 refine rq1 117 [.tmp 4] hc ?_
 clear hc
 unfold B_tree_asker_does at hm
 refine bg 117 [(0, .ptr (some (bp0, 0))), (1, .agg (e_S_tree_question p1))] fun fr H => ?_
 refine aw_sr 3 ?_
 obtain ⟨h1, e1, A⟩ := A.pu (.cells none 2 [.ptr (some (bp0, 0))])
 refine at_ln 2 (.ptr (some (h.size, 0))) e1 H fun fr t H => ?_
 obtain ⟨h2, e2, A⟩ := A.pu (.cells none 2 (e_S_tree_question p1))
 refine at_ln 3 (.ptr (some (h1.size, 0))) e2 H fun fr t H => ?_
 refine at_L 1 [] H fun fr H => aw_sq (aw_dg 1 11 ?_)
 refine at_ll 7 1 0 A H fun fr t H => ?_
 refine at_gl 3 [] 11 2 0 A H fun fr t H => ?_
 refine at_gl 1 [] 13 0 0 A H fun fr t H => ?_
 obtain ⟨x1, hx, hm⟩ := bind_some hm
 refine at_l1 14 (.vptr (e_S_tree_Node x1)) h2 H (fun fr => .of (s_ixV (e := e_S_tree_Node) (x := x1) enc_S_tree_Node (by decide) (by kernel_rfl) hx)) fun fr t H => ?_
 refine at_l1 15 (.agg (e_S_tree_Node x1)) h2 H (fun fr => .of (s_lv (by kernel_rfl))) fun fr t H => ?_
 obtain ⟨h3, e3, A⟩ := A.pu (.cells none 2 [Ai 0, Ai 0, Ai 0, Ai 0, Ai 0, Ai 0, Au 0, Au 0, Au 0, Au 0])
 refine at_ln 5 (.ptr (some (h2.size, 0))) e3 H fun fr t H => ?_
 obtain ⟨h4, hx, A1⟩ := A.st 0 rfl (o := 0) (new := (e_S_tree_Node x1)) (ds := (e_S_tree_Node x1)) (Nat.le_of_ble_eq_true rfl) rfl rfl
 replace A : HH g h4 [.obj h2.size (.cells none 2 (e_S_tree_Node x1)), .obj h1.size (.cells none 2 (e_S_tree_question p1)), .obj h.size (.cells none 2 [.ptr (some (bp0, 0))]), _, _] F := A1
 refine at_lS hx H fun fr t H => ?_
 refine at_ns 3 id ?_
 obtain ⟨h5, e4, A⟩ := A.pu (.cells none 2 [.nilFunc])
 refine at_gn 1 [(16, .func (.func 37) [] [.ptr (some (h.size, 0))])] 6 (.ptr (some (h4.size, 0))) e4 H fun fr t H => ?_
 obtain ⟨h6, hx, A⟩ := A.s0 0 [.func (.func 37) [] [.ptr (some (h.size, 0))]] [_]
 refine at_ls hx H fun fr t H => ?_
 refine at_nl id (aw_sq (aw_sr 2 (at_gl 1 [] 18 1 0 A H fun fr t H => ?_)))
 refine at_nl id (aw_block (id := 0) (by kernel_rfl) ?_)
 refine aw_sr 2 (at_L 2 [(19, .bool (x1.Kind == 0))] H fun fr H => aw_if 19 H hm (fun hb hm H => ?_) fun hb hm H => ?_)
 ·refine aw_sr 6 (at_gl 1 [] 22 2 2 A H fun fr t H => ?_)
  refine at_gl 1 [] 24 2 3 A H fun fr t H => ?_
  refine at_L 2 [(4, .bool (p1.i_ == p1.j_))] H fun fr H => aw_rt ?_
  obtain ⟨rfl, rfl⟩ := injB hm
  refine ⟨.inl rfl, .bool (p1.i_ == p1.j_), rH H, ?_⟩
  replace A := A.k2 4 5
  exact ⟨rfl, A⟩
 refine aw_sr 2 (at_L 2 [(26, .bool (x1.Kind == 1))] H fun fr H => aw_if 26 H hm (fun hb hm H => ?_) fun hb hm H => ?_)
 ·refine aw_sq (aw_dg 7 19 ?_)
  refine at_gl 1 [] 29 2 3 A H fun fr t H => ?_
  refine at_gl 1 [] 31 2 2 A H fun fr t H => ?_
  refine at_sl 3 [(34, .bool (p1.j_ == (IntKind.i64.wrap (p1.i_ + 1))))] H fun fr H => ?_
  obtain ⟨x2, ho, hm⟩ := bind_some hm
  refine at_cl 11 (fun fr' h' => Has fr' 117 [(45, .bool x2)] ∧ HH g h' [.obj h4.size (.cells none 2 [.func (.func 37) [] [.ptr (some (h.size, 0))]]), .obj h2.size (.cells none 2 (e_S_tree_Node x1)), .obj h1.size (.cells none 2 (e_S_tree_question p1)), .obj h.size (.cells none 2 [.ptr (some (bp0, 0))]), .obj bp0 (.cells none 2 [vs e_S_tree_Node p0.t_.Nodes, Ai p0.t_.Root, .str p0.s_, .map (some bp0_3)]), .obj bp0_3 (.map 2 (encM (fun k : S_tree_question => .agg (e_S_tree_question k)) (fun v : Bool => .bool v) p0.told_))] F) ?_ ?_
  ·rcases iteB_some ho with ⟨hb, hm⟩ | ⟨hb, hm⟩
   ·replace H := H.kn 34 hb
    refine at_g1 1 [] 36 _ _ H (fun fr => .of (s_ldA (by kernel_rfl) (A.ldA 1 rfl (o := 6) (n := 4) ⟨Nat.le_of_ble_eq_true rfl, rfl⟩))) fun fr t H => ?_
    refine at_ll 37 3 0 A H fun fr t H => ?_
    refine at_gl 2 [] 40 4 2 A H fun fr t H => ?_
    refine at_gl 1 [] 42 2 2 A H fun fr t H => ?_
    obtain ⟨x3, hx, hm⟩ := bind_some hm
    refine at_l1 43 (Ab x3) h6 H (fun fr => .of (s_ixS (by kernel_rfl) hx)) fun fr t H => ?_
    obtain ⟨x4, hx, hm⟩ := bind_some hm
    obtain ⟨v1, h8, hr, rfl, A1⟩ := ok_class_Set_Has (av := [.agg (e_A4_uint64 x1.Set), Ab x3]) hx (A.cut 0)
    replace A := A.g00 A1
    refine at_lc1 44 hr H fun fr t H => ?_
    refine at_sl 1 [(45, .bool x4)] H fun fr H => ?_
    obtain rfl := injA hm
    exact at_nil ⟨H.ls, A⟩
   replace H := H.kn 34 hb
   refine at_sl 11 [(45, .bool false)] H fun fr H => ?_
   obtain rfl := injA hm
   exact at_nil ⟨H.ls, A⟩
  clear A
  intro t fr h7 hK
  obtain ⟨H, A⟩ := hK
  refine at_L 1 [(4, .bool x2)] H fun fr H => aw_rt ?_
  obtain ⟨rfl, rfl⟩ := injB hm
  refine ⟨.inl rfl, .bool x2, rH H, ?_⟩
  replace A := A.k2 4 5
  exact ⟨rfl, A⟩
 refine aw_sr 2 (at_L 2 [(46, .bool (x1.Kind == 6))] H fun fr H => aw_if 46 H hm (fun hb hm H => ?_) fun hb hm H => ?_)
 ·refine aw_sr 9 (at_gl 1 [] 49 2 2 A H fun fr t H => ?_)
  refine at_sl 2 [(51, .bool (p1.i_ == 0))] H fun fr H => at_cl 4 (fun fr' h' => h6 = h' ∧ Has fr' 117 [(55, .bool ((p1.i_ == 0) && (p1.j_ == 0)))]) ?_ ?_
  ·cases hb : (p1.i_ == 0 : Bool) with
   | true =>
    replace H := H.kn 51 hb
    refine at_gl 1 [] 53 2 3 A H fun fr t H => ?_
    exact at_sl 2 [(55, .bool (p1.j_ == 0))] H fun fr H => at_zb H hb
   | false =>
    replace H := H.kn 51 hb
    exact at_sl 4 [(55, .bool false)] H fun fr H => at_zb H hb
  intro t fr h' hK
  obtain ⟨e, H⟩ := hK
  subst e
  refine at_L 1 [(4, .bool ((p1.i_ == 0) && (p1.j_ == 0)))] H fun fr H => aw_rt ?_
  obtain ⟨rfl, rfl⟩ := injB hm
  refine ⟨.inl rfl, .bool ((p1.i_ == 0) && (p1.j_ == 0)), rH H, ?_⟩
  replace A := A.k2 4 5
  exact ⟨rfl, A⟩
 refine aw_sr 2 (at_L 2 [(56, .bool (x1.Kind == 7))] H fun fr H => aw_if 56 H hm (fun hb hm H => ?_) fun hb hm H => ?_)
 ·refine aw_sq (aw_dg 11 19 ?_)
  refine at_gl 1 [] 59 2 2 A H fun fr t H => ?_
  refine at_ll 60 3 0 A H fun fr t H => ?_
  refine at_gl 2 [] 63 4 2 A H fun fr t H => ?_
  refine at_sl 3 [(66, .bool (p1.i_ == (p0.s_.length : Int)))] H fun fr H => at_cl 9 (fun fr' h' => h6 = h' ∧ Has fr' 117 [(75, .bool ((p1.i_ == (p0.s_.length : Int)) && (p1.j_ == (p0.s_.length : Int))))]) ?_ ?_
  ·cases hb : (p1.i_ == (p0.s_.length : Int) : Bool) with
   | true =>
    replace H := H.kn 66 hb
    refine at_gl 1 [] 68 2 3 A H fun fr t H => ?_
    refine at_ll 69 3 0 A H fun fr t H => ?_
    refine at_gl 2 [] 72 4 2 A H fun fr t H => ?_
    exact at_sl 3 [(75, .bool (p1.j_ == (p0.s_.length : Int)))] H fun fr H => at_zb H hb
   | false =>
    replace H := H.kn 66 hb
    exact at_sl 9 [(75, .bool false)] H fun fr H => at_zb H hb
  intro t fr h' hK
  obtain ⟨e, H⟩ := hK
  subst e
  refine at_L 1 [(4, .bool ((p1.i_ == (p0.s_.length : Int)) && (p1.j_ == (p0.s_.length : Int))))] H fun fr H => aw_rt ?_
  obtain ⟨rfl, rfl⟩ := injB hm
  refine ⟨.inl rfl, .bool ((p1.i_ == (p0.s_.length : Int)) && (p1.j_ == (p0.s_.length : Int))), rH H, ?_⟩
  replace A := A.k2 4 5
  exact ⟨rfl, A⟩
 refine aw_sr 2 (at_L 2 [(76, .bool (x1.Kind == 3))] H fun fr H => aw_if 76 H hm (fun hb hm H => ?_) fun hb hm H => ?_)
 ·refine aw_sr 19 (at_ll 78 0 0 A H fun fr t H => ?_)
  refine at_gl 1 [] 80 1 1 A H fun fr t H => ?_
  refine at_gl 1 [] 82 2 2 A H fun fr t H => ?_
  refine at_gl 1 [] 84 2 3 A H fun fr t H => ?_
  replace A := A.k6 3 4 5 0 1 2
  have A1 := A.cut 3
  obtain ⟨⟨x5, x6⟩, hx, hm⟩ := bind_some hm
  obtain ⟨v1, h9, hr, rfl, A1⟩ := hS.ok_tree_asker_does_1_sIIIPP (av := [Ai x1.A, Ai p1.i_, Ai p1.j_, .ptr (some (h.size, 0))]) hx (by kernel_rfl) A1
  replace A := A.g33 A1
  refine at_lc1 85 hr H fun fr t H => ?_
  refine at_sl 1 [(86, .bool x5)] H fun fr H => ?_
  obtain ⟨⟨x7, x8⟩, ho, hm⟩ := bind_some hm
  refine at_cl 9 (fun fr' h' => Has fr' 117 [(95, .bool x8)] ∧ HH g h' [.obj h.size (.cells none 2 [.ptr (some (bp0, 0))]), .obj bp0 (.cells none 2 [vs e_S_tree_Node p0.t_.Nodes, Ai p0.t_.Root, .str p0.s_, .map (some bp0_3)]), .obj bp0_3 (.map 2 (encM (fun k : S_tree_question => .agg (e_S_tree_question k)) (fun v : Bool => .bool v) x7)), .obj h4.size (.cells none 2 [.func (.func 37) [] [.ptr (some (h.size, 0))]]), .obj h2.size (.cells none 2 (e_S_tree_Node x1)), .obj h1.size (.cells none 2 (e_S_tree_question p1))] F) ?_ ?_
  ·rcases iteB_some ho with ⟨hb, hm⟩ | ⟨hb, hm⟩
   ·replace H := H.kn 86 hb
    refine at_sl 9 [(95, .bool true)] H fun fr H => ?_
    obtain ⟨rfl, rfl⟩ := injB hm
    exact at_nil ⟨H.ls, A⟩
   replace H := H.kn 86 hb
   refine at_ll 87 3 0 A H fun fr t H => ?_
   refine at_gl 1 [] 89 4 2 A H fun fr t H => ?_
   refine at_gl 1 [] 91 5 2 A H fun fr t H => ?_
   refine at_gl 1 [] 93 5 3 A H fun fr t H => ?_
   have A1 := A.cut 3
   obtain ⟨⟨x9, x10⟩, hx, hm⟩ := bind_some hm
   obtain ⟨v1, h11, hr, rfl, A1⟩ := hS.ok_tree_asker_does_1_sIIIPP (av := [Ai x1.B, Ai p1.i_, Ai p1.j_, .ptr (some (h.size, 0))]) hx (by kernel_rfl) A1
   replace A := A.g33 A1
   refine at_lc1 94 hr H fun fr t H => ?_
   refine at_sl 1 [(95, .bool x9)] H fun fr H => ?_
   obtain ⟨rfl, rfl⟩ := injB hm
   exact at_nil ⟨H.ls, A⟩
  clear A
  intro t fr h10 hK
  obtain ⟨H, A⟩ := hK
  refine at_L 1 [(4, .bool x8)] H fun fr H => aw_rt ?_
  obtain ⟨rfl, rfl⟩ := injB hm
  refine ⟨.inl rfl, .bool x8, rH H, ?_⟩
  replace A := A.k2 1 2
  exact ⟨rfl, A⟩
 refine aw_sr 2 (at_L 2 [(96, .bool (x1.Kind == 5))] H fun fr H => aw_if 96 H hm (fun hb hm H => ?_) fun hb hm H => ?_)
 ·refine aw_sr 9 (at_ll 98 0 0 A H fun fr t H => ?_)
  refine at_gl 1 [] 100 1 1 A H fun fr t H => ?_
  refine at_gl 1 [] 102 2 2 A H fun fr t H => ?_
  refine at_gl 1 [] 104 2 3 A H fun fr t H => ?_
  replace A := A.k6 3 4 5 0 1 2
  have A1 := A.cut 3
  obtain ⟨⟨x11, x12⟩, hx, hm⟩ := bind_some hm
  obtain ⟨v1, h12, hr, rfl, A1⟩ := hS.ok_tree_asker_does_1_sIIIPP (av := [Ai x1.A, Ai p1.i_, Ai p1.j_, .ptr (some (h.size, 0))]) hx (by kernel_rfl) A1
  replace A := A.g33 A1
  refine at_lc1 105 hr H fun fr t H => ?_
  refine at_L 1 [(4, .bool x11)] H fun fr H => aw_rt ?_
  obtain ⟨rfl, rfl⟩ := injB hm
  refine ⟨.inl rfl, .bool x11, rH H, ?_⟩
  replace A := A.k2 1 2
  exact ⟨rfl, A⟩
 refine aw_sr 2 (at_L 2 [(106, .bool (x1.Kind == 2))] H fun fr H => aw_if 106 H hm (fun hb hm H => ?_) fun hb hm H => ?_)
 ·refine aw_sr 6 (at_ll 108 3 0 A H fun fr t H => ?_)
  refine at_l1 109 _ _ H (fun fr => .of (s_ldA (by kernel_rfl) (A.ldA 2 rfl (o := 0) (n := 4) ⟨Nat.le_of_ble_eq_true rfl, rfl⟩))) fun fr t H => ?_
  replace A := A.k6 4 5 0 3 1 2
  have A1 := A.cut 6
  obtain ⟨⟨x13, x14⟩, hx, hm⟩ := bind_some hm
  obtain ⟨v1, h13, hr, rfl, A1⟩ := hS.ok_tree_asker_cut_sPRFPFPe0PPFe2e4e5 (av := [.ptr (some (bp0, 0)), .agg (e_S_tree_question p1), .func (.func 40) [] [.ptr (some (h4.size, 0)), .ptr (some (h2.size, 0)), .ptr (some (h1.size, 0))], .func (.func 41) [] [.ptr (some (h4.size, 0)), .ptr (some (h2.size, 0)), .ptr (some (h1.size, 0))]]) hx (by kernel_rfl) A1
  replace A : HH g h13 [.obj bp0 (.cells none 2 [_, _, _, _]), .obj bp0_3 (.map 2 (encM (fun k : S_tree_question => .agg (e_S_tree_question k)) (fun v : Bool => .bool v) x14)), .obj h4.size (.cells none 2 [.func (.func 37) [] [.ptr (some (h.size, 0))]]), .obj h.size (.cells none 2 [.ptr (some (bp0, 0))]), .obj h2.size (.cells none 2 (e_S_tree_Node x1)), .obj h1.size (.cells none 2 (e_S_tree_question p1))] F := A.glue0 (n := 6) A1
  refine at_gc1 2 [] 112 hr H fun fr t H => ?_
  refine at_L 1 [(4, .bool x13)] H fun fr H => aw_rt ?_
  obtain ⟨rfl, rfl⟩ := injB hm
  refine ⟨.inl rfl, .bool x13, rH H, ?_⟩
  replace A := A.d2
  exact ⟨rfl, A⟩
 refine aw_ks 5 id (at_ll 113 3 0 A H fun fr t H => ?_)
 refine at_l1 114 _ _ H (fun fr => .of (s_ldA (by kernel_rfl) (A.ldA 2 rfl (o := 0) (n := 4) ⟨Nat.le_of_ble_eq_true rfl, rfl⟩))) fun fr t H => ?_
 refine at_l1 115 _ _ H (fun fr => .of (s_ldA (by kernel_rfl) (A.ldA 1 rfl (o := 0) (n := 10) ⟨Nat.le_of_ble_eq_true rfl, rfl⟩))) fun fr t H => ?_
 cases hm
def M_tree_asker_cut_sPRFPFPe0PPFe2e4e5_L0 (S : SC_tree_asker_does_1_sIIIPP) (p0 : S_tree_asker) (p1 : S_tree_question) (p2_11 : S_tree_Node) (p2_12 : S_tree_question) (s : (List (S_tree_question × Bool)) × Int) : Option (((List (S_tree_question × Bool)) × Int) ⊕ (((List (S_tree_question × Bool))) ⊕ ((List (S_tree_question × Bool)) × Bool))) :=
 match s with
 | (x1, x2) => iteB (decide (x2 ≤ p1.j_)) ((S.M_tree_asker_does_2_sIPFPPPP x2 (⟨p0.t_, p0.s_, x1⟩ : S_tree_asker) p2_11 p2_12).bind fun (x6, x7) => (iteB x6 ((S.M_tree_asker_does_3_sIPFPPPP x2 (⟨p0.t_, p0.s_, x7⟩ : S_tree_asker) p2_11 p2_12).bind fun (x10, x11) => some (x11, x10)) (some (x7, false)) : Option ((List (S_tree_question × Bool)) × Bool)).bind fun (x8, x9) => iteB x9 (some (.inr (.inr (x8, true)))) (some (.inl (x8, IntKind.i64.wrap (x2 + 1))))) (some (.inr (.inl x1)))
def B_tree_asker_cut_sPRFPFPe0PPFe2e4e5 (S : SC_tree_asker_does_1_sIIIPP) (p0 : S_tree_asker) (p1 : S_tree_question) (p2_11 : S_tree_Node) (p2_12 : S_tree_question) : Option (Bool × (List (S_tree_question × Bool))) :=
 (loop (M_tree_asker_cut_sPRFPFPe0PPFe2e4e5_L0 S p0 p1 p2_11 p2_12) (p0.told_, p1.i_)).bind fun o1 => (match o1 with | .inl x3 => some (false, x3) | .inr (x4, x5) => some (x5, x4))
theorem okB_tree_asker_cut_sPRFPFPe0PPFe2e4e5 {S : SC_tree_asker_does_1_sIIIPP} (hS : OkSC_tree_asker_does_1_sIIIPP S) {p0 p1 p2_11 p2_12 bp0 bp0_3 bp2_10 bp2_10_0_10 bp2_11 bp2_12 q0 u1} (hm : B_tree_asker_cut_sPRFPFPe0PPFe2e4e5 S p0 p1 p2_11 p2_12 = some (q0, u1)) (hc : canL (cfg.still 39) av = [.ptr (some (bp0, 0)), .agg (e_S_tree_question p1), .func (.func 40) [] [.ptr (some (bp2_10, 0)), .ptr (some (bp2_11, 0)), .ptr (some (bp2_12, 0))], .func (.func 41) [] [.ptr (some (bp2_10, 0)), .ptr (some (bp2_11, 0)), .ptr (some (bp2_12, 0))]]) (A : HH g h [.obj bp0 (.cells none 2 [vs e_S_tree_Node p0.t_.Nodes, Ai p0.t_.Root, .str p0.s_, .map (some bp0_3)]), .obj bp0_3 (.map 2 (encM (fun k : S_tree_question => .agg (e_S_tree_question k)) (fun v : Bool => .bool v) p0.told_)), .obj bp2_10 (.cells none 2 [.func (.func 37) [] [.ptr (some (bp2_10_0_10, 0))]]), .obj bp2_10_0_10 (.cells none 2 [.ptr (some (bp0, 0))]), .obj bp2_11 (.cells none 2 (e_S_tree_Node p2_11)), .obj bp2_12 (.cells none 2 (e_S_tree_question p2_12))] F) : ∃ v h', Runs cfg g h 39 av v h' ∧ v = .bool q0 ∧ HH g h' [.obj bp0 (.cells none 2 [vs e_S_tree_Node p0.t_.Nodes, Ai p0.t_.Root, .str p0.s_, .map (some bp0_3)]), .obj bp0_3 (.map 2 (encM (fun k : S_tree_question => .agg (e_S_tree_question k)) (fun v : Bool => .bool v) u1)), .obj bp2_10 (.cells none 2 [.func (.func 37) [] [.ptr (some (bp2_10_0_10, 0))]]), .obj bp2_10_0_10 (.cells none 2 [.ptr (some (bp0, 0))]), .obj bp2_11 (.cells none 2 (e_S_tree_Node p2_11)), .obj bp2_12 (.cells none 2 (e_S_tree_question p2_12))] F := by
 refine rq1 26 [.tmp 8] hc ?_
 clear hc
 unfold B_tree_asker_cut_sPRFPFPe0PPFe2e4e5 at hm
 refine bg 26 [(1, .agg (e_S_tree_question p1)), (2, .func (.func 40) [] [.ptr (some (bp2_10, 0)), .ptr (some (bp2_11, 0)), .ptr (some (bp2_12, 0))]), (3, .func (.func 41) [] [.ptr (some (bp2_10, 0)), .ptr (some (bp2_11, 0)), .ptr (some (bp2_12, 0))])] fun fr H => ?_
 refine aw_sr 2 ?_
 obtain ⟨h1, e1, A⟩ := A.pu (.cells none 2 (e_S_tree_question p1))
 refine at_ln 5 (.ptr (some (h.size, 0))) e1 H fun fr t H => ?_
 refine at_L 1 [] H fun fr H => aw_sq (aw_sr 3 (at_gl 1 [] 11 0 2 A H fun fr t H => ?_))
 refine at_L 1 [(9, Ai p1.i_)] H fun fr H => aw_block (id := 0) (by kernel_rfl) ?_
 obtain ⟨o1, ho, hm⟩ := bind_some hm
 refine aw_mono (Q' := fun e fr' h' => (∃ x3, e = .exit 0 ∧ .inl x3 = o1 ∧ Has fr' 26 [] ∧ HH g h' [.obj h.size (.cells none 2 (e_S_tree_question p1)), .obj bp0 (.cells none 2 [vs e_S_tree_Node p0.t_.Nodes, Ai p0.t_.Root, .str p0.s_, .map (some bp0_3)]), .obj bp0_3 (.map 2 (encM (fun k : S_tree_question => .agg (e_S_tree_question k)) (fun v : Bool => .bool v) x3)), .obj bp2_10 (.cells none 2 [.func (.func 37) [] [.ptr (some (bp2_10_0_10, 0))]]), .obj bp2_10_0_10 (.cells none 2 [.ptr (some (bp0, 0))]), .obj bp2_11 (.cells none 2 (e_S_tree_Node p2_11)), .obj bp2_12 (.cells none 2 (e_S_tree_question p2_12))] F) ∨ (∃ x4 x5, e = .ret ∧ .inr (x4, x5) = o1 ∧ Has fr' 26 [(8, .bool x5)] ∧ HH g h' [.obj h.size (.cells none 2 (e_S_tree_question p1)), .obj bp0 (.cells none 2 [vs e_S_tree_Node p0.t_.Nodes, Ai p0.t_.Root, .str p0.s_, .map (some bp0_3)]), .obj bp0_3 (.map 2 (encM (fun k : S_tree_question => .agg (e_S_tree_question k)) (fun v : Bool => .bool v) x4)), .obj bp2_10 (.cells none 2 [.func (.func 37) [] [.ptr (some (bp2_10_0_10, 0))]]), .obj bp2_10_0_10 (.cells none 2 [.ptr (some (bp0, 0))]), .obj bp2_11 (.cells none 2 (e_S_tree_Node p2_11)), .obj bp2_12 (.cells none 2 (e_S_tree_question p2_12))] F) ∨ False) ?_ ?_
 ·refine aw_loop (by kernel_rfl) (fun (s : (List (S_tree_question × Bool)) × Int) fr' h' => ∃ x1 x2, (x1, x2) = s ∧ Has fr' 26 [(2, .func (.func 40) [] [.ptr (some (bp2_10, 0)), .ptr (some (bp2_11, 0)), .ptr (some (bp2_12, 0))]), (3, .func (.func 41) [] [.ptr (some (bp2_10, 0)), .ptr (some (bp2_11, 0)), .ptr (some (bp2_12, 0))]), (5, .ptr (some (h.size, 0))), (9, Ai x2)] ∧ HH g h' [.obj h.size (.cells none 2 (e_S_tree_question p1)), .obj bp0 (.cells none 2 [vs e_S_tree_Node p0.t_.Nodes, Ai p0.t_.Root, .str p0.s_, .map (some bp0_3)]), .obj bp0_3 (.map 2 (encM (fun k : S_tree_question => .agg (e_S_tree_question k)) (fun v : Bool => .bool v) x1)), .obj bp2_10 (.cells none 2 [.func (.func 37) [] [.ptr (some (bp2_10_0_10, 0))]]), .obj bp2_10_0_10 (.cells none 2 [.ptr (some (bp0, 0))]), .obj bp2_11 (.cells none 2 (e_S_tree_Node p2_11)), .obj bp2_12 (.cells none 2 (e_S_tree_question p2_12))] F) ho ⟨_, _, rfl, H.ls, A⟩ ?_
  clear ho hm H A
  intro s q fr h2 hI hm
  obtain ⟨x1, x2, rfl, H, A⟩ := hI
  unfold M_tree_asker_cut_sPRFPFPe0PPFe2e4e5_L0 at hm
  refine aw_sq (aw_sr 4 (at_gl 2 [(12, Ai x2)] 14 0 3 A H fun fr t H => ?_))
  refine at_L 1 [(15, .bool (decide (x2 ≤ p1.j_)))] H fun fr H => aw_if 15 H hm (fun hb hm H => ?_) fun hb hm H => ?_
  ·refine aw_kn id (aw_sq (aw_block (id := 1) (by kernel_rfl) ?_))
   refine aw_sr 8 ?_
   replace A := A.k7 3 4 1 2 5 6 0
   have A1 := A.cut 6
   obtain ⟨⟨x6, x7⟩, hx, hm⟩ := bind_some hm
   obtain ⟨v1, h3, hr, rfl, A1⟩ := hS.ok_tree_asker_does_2_sIPFPPPP (av := [Ai x2, .ptr (some (bp2_10, 0)), .ptr (some (bp2_11, 0)), .ptr (some (bp2_12, 0))]) hx (by kernel_rfl) A1
   replace A : HH g h3 [.obj bp2_10 (.cells none 2 [.func (.func 37) [] [.ptr (some (bp2_10_0_10, 0))]]), .obj bp2_10_0_10 (.cells none 2 [.ptr (some (bp0, 0))]), .obj bp0 (.cells none 2 [_, _, _, _]), .obj bp0_3 (.map 2 (encM (fun k : S_tree_question => .agg (e_S_tree_question k)) (fun v : Bool => .bool v) x7)), .obj bp2_11 (.cells none 2 (e_S_tree_Node p2_11)), .obj bp2_12 (.cells none 2 (e_S_tree_question p2_12)), _] F := A.glue0 (n := 6) A1
   refine at_gc1 2 [] 20 hr H fun fr t H => ?_
   refine at_sl 1 [(21, .bool x6)] H fun fr H => ?_
   obtain ⟨⟨x8, x9⟩, ho, hm⟩ := bind_some hm
   refine at_cl 4 (fun fr' h' => Has fr' 26 [(2, .func (.func 40) [] [.ptr (some (bp2_10, 0)), .ptr (some (bp2_11, 0)), .ptr (some (bp2_12, 0))]), (3, .func (.func 41) [] [.ptr (some (bp2_10, 0)), .ptr (some (bp2_11, 0)), .ptr (some (bp2_12, 0))]), (5, .ptr (some (h.size, 0))), (9, Ai x2), (25, .bool x9)] ∧ HH g h' [.obj bp2_10 (.cells none 2 [.func (.func 37) [] [.ptr (some (bp2_10_0_10, 0))]]), .obj bp2_10_0_10 (.cells none 2 [.ptr (some (bp0, 0))]), .obj bp0 (.cells none 2 [vs e_S_tree_Node p0.t_.Nodes, Ai p0.t_.Root, .str p0.s_, .map (some bp0_3)]), .obj bp0_3 (.map 2 (encM (fun k : S_tree_question => .agg (e_S_tree_question k)) (fun v : Bool => .bool v) x8)), .obj bp2_11 (.cells none 2 (e_S_tree_Node p2_11)), .obj bp2_12 (.cells none 2 (e_S_tree_question p2_12)), .obj h.size (.cells none 2 (e_S_tree_question p1))] F) ?_ ?_
   ·rcases iteB_some ho with ⟨hb, hm⟩ | ⟨hb, hm⟩
    ·replace H := H.kn 21 hb
     have A1 := A.cut 6
     obtain ⟨⟨x10, x11⟩, hx, hm⟩ := bind_some hm
     obtain ⟨v1, h5, hr, rfl, A1⟩ := hS.ok_tree_asker_does_3_sIPFPPPP (av := [Ai x2, .ptr (some (bp2_10, 0)), .ptr (some (bp2_11, 0)), .ptr (some (bp2_12, 0))]) hx (by kernel_rfl) A1
     replace A : HH g h5 [.obj bp2_10 (.cells none 2 [.func (.func 37) [] [.ptr (some (bp2_10_0_10, 0))]]), .obj bp2_10_0_10 (.cells none 2 [.ptr (some (bp0, 0))]), .obj bp0 (.cells none 2 [_, _, _, _]), .obj bp0_3 (.map 2 (encM (fun k : S_tree_question => .agg (e_S_tree_question k)) (fun v : Bool => .bool v) x11)), .obj bp2_11 (.cells none 2 (e_S_tree_Node p2_11)), .obj bp2_12 (.cells none 2 (e_S_tree_question p2_12)), _] F := A.glue0 (n := 6) A1
     refine at_gc1 2 [] 24 hr H fun fr t H => ?_
     refine at_sl 1 [(25, .bool x10)] H fun fr H => ?_
     obtain ⟨rfl, rfl⟩ := injB hm
     exact at_nil ⟨H.ls, A⟩
    replace H := H.kn 21 hb
    refine at_sl 4 [(25, .bool false)] H fun fr H => ?_
    obtain ⟨rfl, rfl⟩ := injB hm
    exact at_nil ⟨H.ls, A⟩
   clear A
   intro t fr h4 hK
   obtain ⟨H, A⟩ := hK
   refine at_nl id (aw_if 25 H hm (fun hb hm H => ?_) fun hb hm H => ?_)
   ·refine aw_sr 1 (at_L 1 [(8, .bool true)] H fun fr H => aw_rt ?_)
    replace A := A.k7 6 2 3 0 1 4 5
    exact nr hm fun e => Or.inr (.inl ⟨_, _, rfl, e, H.ls, A⟩)
   refine aw_kr 3 id (at_se 3 [(2, .func (.func 40) [] [.ptr (some (bp2_10, 0)), .ptr (some (bp2_11, 0)), .ptr (some (bp2_12, 0))]), (3, .func (.func 41) [] [.ptr (some (bp2_10, 0)), .ptr (some (bp2_11, 0)), .ptr (some (bp2_12, 0))]), (5, .ptr (some (h.size, 0))), (9, Ai (IntKind.i64.wrap (x2 + 1)))] H fun fr H => at_nil ?_)
   replace A := A.k7 6 2 3 0 1 4 5
   exact nx hm ⟨_, _, rfl, H.ls, A⟩
  refine aw_exit (i := 0) (by kernel_rfl) ?_
  exact nr hm fun e => .inl ⟨_, rfl, e, H.ls, A⟩
 clear ho
 clear A
 intro e fr h6 hQ
 rcases hQ with ⟨x3, rfl, rfl, H, A⟩ | ⟨x4, x5, rfl, rfl, H, A⟩ | hF
 ·show AW _ _ _ _ _ _ _
  refine aw_sr 1 (at_L 1 [(8, .bool false)] H fun fr H => aw_rt ?_)
  obtain ⟨rfl, rfl⟩ := injB hm
  refine ⟨.inl rfl, .bool false, rH H, ?_⟩
  replace A := A.k6 1 2 3 4 5 6
  exact ⟨rfl, A⟩
 ·obtain ⟨rfl, rfl⟩ := injB hm
  refine ⟨.inl rfl, .bool x5, rH H, ?_⟩
  replace A := A.k6 1 2 3 4 5 6
  exact ⟨rfl, A⟩
 exact hF.elim
def B_tree_asker_does_2_sIPFPPPP (S : SC_tree_asker_does_1_sIIIPP) (p0 : Int) (p1_0_10_0 : S_tree_asker) (p2 : S_tree_Node) (p3 : S_tree_question) : Option (Bool × (List (S_tree_question × Bool))) :=
 (S.M_tree_asker_does_1_sIIIPP p2.A p3.i_ p0 p1_0_10_0).bind fun (x1, x2) => some (x1, x2)
theorem okB_tree_asker_does_2_sIPFPPPP {S : SC_tree_asker_does_1_sIIIPP} (hS : OkSC_tree_asker_does_1_sIIIPP S) {p0 p1_0_10_0 p2 p3 bp1 bp1_0_10 bp1_0_10_0 bp1_0_10_0_3 bp2 bp3 q0 u3} (hm : B_tree_asker_does_2_sIPFPPPP S p0 p1_0_10_0 p2 p3 = some (q0, u3)) (hc : canL (cfg.still 40) av = [Ai p0, .ptr (some (bp1, 0)), .ptr (some (bp2, 0)), .ptr (some (bp3, 0))]) (A : HH g h [.obj bp1 (.cells none 2 [.func (.func 37) [] [.ptr (some (bp1_0_10, 0))]]), .obj bp1_0_10 (.cells none 2 [.ptr (some (bp1_0_10_0, 0))]), .obj bp1_0_10_0 (.cells none 2 [vs e_S_tree_Node p1_0_10_0.t_.Nodes, Ai p1_0_10_0.t_.Root, .str p1_0_10_0.s_, .map (some bp1_0_10_0_3)]), .obj bp1_0_10_0_3 (.map 2 (encM (fun k : S_tree_question => .agg (e_S_tree_question k)) (fun v : Bool => .bool v) p1_0_10_0.told_)), .obj bp2 (.cells none 2 (e_S_tree_Node p2)), .obj bp3 (.cells none 2 (e_S_tree_question p3))] F) : ∃ v h', Runs cfg g h 40 av v h' ∧ v = .bool q0 ∧ HH g h' [.obj bp1 (.cells none 2 [.func (.func 37) [] [.ptr (some (bp1_0_10, 0))]]), .obj bp1_0_10 (.cells none 2 [.ptr (some (bp1_0_10_0, 0))]), .obj bp1_0_10_0 (.cells none 2 [vs e_S_tree_Node p1_0_10_0.t_.Nodes, Ai p1_0_10_0.t_.Root, .str p1_0_10_0.s_, .map (some bp1_0_10_0_3)]), .obj bp1_0_10_0_3 (.map 2 (encM (fun k : S_tree_question => .agg (e_S_tree_question k)) (fun v : Bool => .bool v) u3)), .obj bp2 (.cells none 2 (e_S_tree_Node p2)), .obj bp3 (.cells none 2 (e_S_tree_question p3))] F := by
 refine rq1 13 [.tmp 5] hc ?_
 clear hc
 unfold B_tree_asker_does_2_sIPFPPPP at hm
 refine bg 13 [(0, Ai p0), (1, .ptr (some (bp1, 0))), (2, .ptr (some (bp2, 0))), (3, .ptr (some (bp3, 0)))] fun fr H => ?_
 refine aw_sr 1 (at_S 1 [] 8 H fun fr H => at_ll 6 0 0 A H fun fr t H => ?_)
 refine at_gl 1 [] 8 4 1 A H fun fr t H => ?_
 refine at_gl 1 [] 10 5 2 A H fun fr t H => ?_
 replace A := A.k6 1 2 3 0 4 5
 have A1 := A.cut 3
 obtain ⟨⟨x1, x2⟩, hx, hm⟩ := bind_some hm
 obtain ⟨v1, h1, hr, rfl, A1⟩ := hS.ok_tree_asker_does_1_sIIIPP (av := [Ai p2.A, Ai p3.i_, Ai p0, .ptr (some (bp1_0_10, 0))]) hx (by kernel_rfl) A1
 replace A := A.g33 A1
 refine at_gc1 1 [] 12 hr H fun fr t H => ?_
 refine at_L 1 [(5, .bool x1)] H fun fr H => aw_rt ?_
 obtain ⟨rfl, rfl⟩ := injB hm
 refine ⟨.inl rfl, .bool x1, rH H, ?_⟩
 replace A := A.k6 3 0 1 2 4 5
 exact ⟨rfl, A⟩
def B_tree_asker_does_3_sIPFPPPP (S : SC_tree_asker_does_1_sIIIPP) (p0 : Int) (p1_0_10_0 : S_tree_asker) (p2 : S_tree_Node) (p3 : S_tree_question) : Option (Bool × (List (S_tree_question × Bool))) :=
 (S.M_tree_asker_does_1_sIIIPP p2.B p0 p3.j_ p1_0_10_0).bind fun (x1, x2) => some (x1, x2)
theorem okB_tree_asker_does_3_sIPFPPPP {S : SC_tree_asker_does_1_sIIIPP} (hS : OkSC_tree_asker_does_1_sIIIPP S) {p0 p1_0_10_0 p2 p3 bp1 bp1_0_10 bp1_0_10_0 bp1_0_10_0_3 bp2 bp3 q0 u3} (hm : B_tree_asker_does_3_sIPFPPPP S p0 p1_0_10_0 p2 p3 = some (q0, u3)) (hc : canL (cfg.still 41) av = [Ai p0, .ptr (some (bp1, 0)), .ptr (some (bp2, 0)), .ptr (some (bp3, 0))]) (A : HH g h [.obj bp1 (.cells none 2 [.func (.func 37) [] [.ptr (some (bp1_0_10, 0))]]), .obj bp1_0_10 (.cells none 2 [.ptr (some (bp1_0_10_0, 0))]), .obj bp1_0_10_0 (.cells none 2 [vs e_S_tree_Node p1_0_10_0.t_.Nodes, Ai p1_0_10_0.t_.Root, .str p1_0_10_0.s_, .map (some bp1_0_10_0_3)]), .obj bp1_0_10_0_3 (.map 2 (encM (fun k : S_tree_question => .agg (e_S_tree_question k)) (fun v : Bool => .bool v) p1_0_10_0.told_)), .obj bp2 (.cells none 2 (e_S_tree_Node p2)), .obj bp3 (.cells none 2 (e_S_tree_question p3))] F) : ∃ v h', Runs cfg g h 41 av v h' ∧ v = .bool q0 ∧ HH g h' [.obj bp1 (.cells none 2 [.func (.func 37) [] [.ptr (some (bp1_0_10, 0))]]), .obj bp1_0_10 (.cells none 2 [.ptr (some (bp1_0_10_0, 0))]), .obj bp1_0_10_0 (.cells none 2 [vs e_S_tree_Node p1_0_10_0.t_.Nodes, Ai p1_0_10_0.t_.Root, .str p1_0_10_0.s_, .map (some bp1_0_10_0_3)]), .obj bp1_0_10_0_3 (.map 2 (encM (fun k : S_tree_question => .agg (e_S_tree_question k)) (fun v : Bool => .bool v) u3)), .obj bp2 (.cells none 2 (e_S_tree_Node p2)), .obj bp3 (.cells none 2 (e_S_tree_question p3))] F := by
 refine rq1 13 [.tmp 5] hc ?_
 clear hc
 unfold B_tree_asker_does_3_sIPFPPPP at hm
 refine bg 13 [(0, Ai p0), (1, .ptr (some (bp1, 0))), (2, .ptr (some (bp2, 0))), (3, .ptr (some (bp3, 0)))] fun fr H => ?_
 refine aw_sr 1 (at_S 1 [] 8 H fun fr H => at_ll 6 0 0 A H fun fr t H => ?_)
 refine at_gl 1 [] 8 4 2 A H fun fr t H => ?_
 refine at_gl 2 [(9, Ai p0)] 11 5 3 A H fun fr t H => ?_
 replace A := A.k6 1 2 3 0 4 5
 have A1 := A.cut 3
 obtain ⟨⟨x1, x2⟩, hx, hm⟩ := bind_some hm
 obtain ⟨v1, h1, hr, rfl, A1⟩ := hS.ok_tree_asker_does_1_sIIIPP (av := [Ai p2.B, Ai p0, Ai p3.j_, .ptr (some (bp1_0_10, 0))]) hx (by kernel_rfl) A1
 replace A := A.g33 A1
 refine at_lc1 12 hr H fun fr t H => ?_
 refine at_L 1 [(5, .bool x1)] H fun fr H => aw_rt ?_
 obtain ⟨rfl, rfl⟩ := injB hm
 refine ⟨.inl rfl, .bool x1, rH H, ?_⟩
 replace A := A.k6 3 0 1 2 4 5
 exact ⟨rfl, A⟩
def rSC_tree_asker_does_1_sIIIPP : Nat → SC_tree_asker_does_1_sIIIPP
 | 0 => ⟨fun _ _ _ _ => none, fun _ _ => none, fun _ _ => none, fun _ _ _ _ => none, fun _ _ _ _ => none, fun _ _ _ _ => none⟩
 | n + 1 => ⟨B_tree_asker_does_1_sIIIPP (rSC_tree_asker_does_1_sIIIPP n), B_tree_asker_asks (rSC_tree_asker_does_1_sIIIPP n), B_tree_asker_does (rSC_tree_asker_does_1_sIIIPP n), B_tree_asker_cut_sPRFPFPe0PPFe2e4e5 (rSC_tree_asker_does_1_sIIIPP n), B_tree_asker_does_2_sIPFPPPP (rSC_tree_asker_does_1_sIIIPP n), B_tree_asker_does_3_sIPFPPPP (rSC_tree_asker_does_1_sIIIPP n)⟩
theorem okrSC_tree_asker_does_1_sIIIPP  : ∀ n, OkSC_tree_asker_does_1_sIIIPP (rSC_tree_asker_does_1_sIIIPP n)
 | 0 => ⟨fun hm => (by cases hm), fun hm => (by cases hm), fun hm => (by cases hm), fun hm => (by cases hm), fun hm => (by cases hm), fun hm => (by cases hm)⟩
 | n + 1 => ⟨fun hm hc A => okB_tree_asker_does_1_sIIIPP (okrSC_tree_asker_does_1_sIIIPP n) hm hc A, fun hm hc A => okB_tree_asker_asks (okrSC_tree_asker_does_1_sIIIPP n) hm hc A, fun hm hc A => okB_tree_asker_does (okrSC_tree_asker_does_1_sIIIPP n) hm hc A, fun hm hc A => okB_tree_asker_cut_sPRFPFPe0PPFe2e4e5 (okrSC_tree_asker_does_1_sIIIPP n) hm hc A, fun hm hc A => okB_tree_asker_does_2_sIPFPPPP (okrSC_tree_asker_does_1_sIIIPP n) hm hc A, fun hm hc A => okB_tree_asker_does_3_sIPFPPPP (okrSC_tree_asker_does_1_sIIIPP n) hm hc A⟩
def M_tree_asker_does_1_sIIIPP : Int → Int → Int → S_tree_asker → Option (Bool × (List (S_tree_question × Bool))) := (rSC_tree_asker_does_1_sIIIPP bigF).M_tree_asker_does_1_sIIIPP
theorem ok_tree_asker_does_1_sIIIPP {p0 p1 p2 p3_0 bp3 bp3_0 bp3_0_3 q0 u2} (hm : M_tree_asker_does_1_sIIIPP p0 p1 p2 p3_0 = some (q0, u2)) (A : HH g h [.obj bp3 (.cells none 2 [.ptr (some (bp3_0, 0))]), .obj bp3_0 (.cells none 2 [vs e_S_tree_Node p3_0.t_.Nodes, Ai p3_0.t_.Root, .str p3_0.s_, .map (some bp3_0_3)]), .obj bp3_0_3 (.map 2 (encM (fun k : S_tree_question => .agg (e_S_tree_question k)) (fun v : Bool => .bool v) p3_0.told_))] F) (hc : canL (cfg.still 37) av = [Ai p0, Ai p1, Ai p2, .ptr (some (bp3, 0))] := by kernel_rfl) : ∃ v h', Runs cfg g h 37 av v h' ∧ v = .bool q0 ∧ HH g h' [.obj bp3 (.cells none 2 [.ptr (some (bp3_0, 0))]), .obj bp3_0 (.cells none 2 [vs e_S_tree_Node p3_0.t_.Nodes, Ai p3_0.t_.Root, .str p3_0.s_, .map (some bp3_0_3)]), .obj bp3_0_3 (.map 2 (encM (fun k : S_tree_question => .agg (e_S_tree_question k)) (fun v : Bool => .bool v) u2))] F := (okrSC_tree_asker_does_1_sIIIPP bigF).ok_tree_asker_does_1_sIIIPP hm hc A
def M_tree_asker_asks : S_tree_asker → S_tree_question → Option (Bool × (List (S_tree_question × Bool))) := (rSC_tree_asker_does_1_sIIIPP bigF).M_tree_asker_asks
theorem ok_tree_asker_asks {p0 p1 bp0 bp0_3 q0 u1} (hm : M_tree_asker_asks p0 p1 = some (q0, u1)) (A : HH g h [.obj bp0 (.cells none 2 [vs e_S_tree_Node p0.t_.Nodes, Ai p0.t_.Root, .str p0.s_, .map (some bp0_3)]), .obj bp0_3 (.map 2 (encM (fun k : S_tree_question => .agg (e_S_tree_question k)) (fun v : Bool => .bool v) p0.told_))] F) (hc : canL (cfg.still 19) av = [.ptr (some (bp0, 0)), .agg (e_S_tree_question p1)] := by kernel_rfl) : ∃ v h', Runs cfg g h 19 av v h' ∧ v = .bool q0 ∧ HH g h' [.obj bp0 (.cells none 2 [vs e_S_tree_Node p0.t_.Nodes, Ai p0.t_.Root, .str p0.s_, .map (some bp0_3)]), .obj bp0_3 (.map 2 (encM (fun k : S_tree_question => .agg (e_S_tree_question k)) (fun v : Bool => .bool v) u1))] F := (okrSC_tree_asker_does_1_sIIIPP bigF).ok_tree_asker_asks hm hc A
def M_tree_asker_does : S_tree_asker → S_tree_question → Option (Bool × (List (S_tree_question × Bool))) := (rSC_tree_asker_does_1_sIIIPP bigF).M_tree_asker_does
theorem ok_tree_asker_does {p0 p1 bp0 bp0_3 q0 u1} (hm : M_tree_asker_does p0 p1 = some (q0, u1)) (A : HH g h [.obj bp0 (.cells none 2 [vs e_S_tree_Node p0.t_.Nodes, Ai p0.t_.Root, .str p0.s_, .map (some bp0_3)]), .obj bp0_3 (.map 2 (encM (fun k : S_tree_question => .agg (e_S_tree_question k)) (fun v : Bool => .bool v) p0.told_))] F) (hc : canL (cfg.still 27) av = [.ptr (some (bp0, 0)), .agg (e_S_tree_question p1)] := by kernel_rfl) : ∃ v h', Runs cfg g h 27 av v h' ∧ v = .bool q0 ∧ HH g h' [.obj bp0 (.cells none 2 [vs e_S_tree_Node p0.t_.Nodes, Ai p0.t_.Root, .str p0.s_, .map (some bp0_3)]), .obj bp0_3 (.map 2 (encM (fun k : S_tree_question => .agg (e_S_tree_question k)) (fun v : Bool => .bool v) u1))] F := (okrSC_tree_asker_does_1_sIIIPP bigF).ok_tree_asker_does hm hc A
def M_tree_asker_cut_sPRFPFPe0PPFe2e4e5 : S_tree_asker → S_tree_question → S_tree_Node → S_tree_question → Option (Bool × (List (S_tree_question × Bool))) := (rSC_tree_asker_does_1_sIIIPP bigF).M_tree_asker_cut_sPRFPFPe0PPFe2e4e5
theorem ok_tree_asker_cut_sPRFPFPe0PPFe2e4e5 {p0 p1 p2_11 p2_12 bp0 bp0_3 bp2_10 bp2_10_0_10 bp2_11 bp2_12 q0 u1} (hm : M_tree_asker_cut_sPRFPFPe0PPFe2e4e5 p0 p1 p2_11 p2_12 = some (q0, u1)) (A : HH g h [.obj bp0 (.cells none 2 [vs e_S_tree_Node p0.t_.Nodes, Ai p0.t_.Root, .str p0.s_, .map (some bp0_3)]), .obj bp0_3 (.map 2 (encM (fun k : S_tree_question => .agg (e_S_tree_question k)) (fun v : Bool => .bool v) p0.told_)), .obj bp2_10 (.cells none 2 [.func (.func 37) [] [.ptr (some (bp2_10_0_10, 0))]]), .obj bp2_10_0_10 (.cells none 2 [.ptr (some (bp0, 0))]), .obj bp2_11 (.cells none 2 (e_S_tree_Node p2_11)), .obj bp2_12 (.cells none 2 (e_S_tree_question p2_12))] F) (hc : canL (cfg.still 39) av = [.ptr (some (bp0, 0)), .agg (e_S_tree_question p1), .func (.func 40) [] [.ptr (some (bp2_10, 0)), .ptr (some (bp2_11, 0)), .ptr (some (bp2_12, 0))], .func (.func 41) [] [.ptr (some (bp2_10, 0)), .ptr (some (bp2_11, 0)), .ptr (some (bp2_12, 0))]] := by kernel_rfl) : ∃ v h', Runs cfg g h 39 av v h' ∧ v = .bool q0 ∧ HH g h' [.obj bp0 (.cells none 2 [vs e_S_tree_Node p0.t_.Nodes, Ai p0.t_.Root, .str p0.s_, .map (some bp0_3)]), .obj bp0_3 (.map 2 (encM (fun k : S_tree_question => .agg (e_S_tree_question k)) (fun v : Bool => .bool v) u1)), .obj bp2_10 (.cells none 2 [.func (.func 37) [] [.ptr (some (bp2_10_0_10, 0))]]), .obj bp2_10_0_10 (.cells none 2 [.ptr (some (bp0, 0))]), .obj bp2_11 (.cells none 2 (e_S_tree_Node p2_11)), .obj bp2_12 (.cells none 2 (e_S_tree_question p2_12))] F := (okrSC_tree_asker_does_1_sIIIPP bigF).ok_tree_asker_cut_sPRFPFPe0PPFe2e4e5 hm hc A
def M_tree_asker_does_2_sIPFPPPP : Int → S_tree_asker → S_tree_Node → S_tree_question → Option (Bool × (List (S_tree_question × Bool))) := (rSC_tree_asker_does_1_sIIIPP bigF).M_tree_asker_does_2_sIPFPPPP
theorem ok_tree_asker_does_2_sIPFPPPP {p0 p1_0_10_0 p2 p3 bp1 bp1_0_10 bp1_0_10_0 bp1_0_10_0_3 bp2 bp3 q0 u3} (hm : M_tree_asker_does_2_sIPFPPPP p0 p1_0_10_0 p2 p3 = some (q0, u3)) (A : HH g h [.obj bp1 (.cells none 2 [.func (.func 37) [] [.ptr (some (bp1_0_10, 0))]]), .obj bp1_0_10 (.cells none 2 [.ptr (some (bp1_0_10_0, 0))]), .obj bp1_0_10_0 (.cells none 2 [vs e_S_tree_Node p1_0_10_0.t_.Nodes, Ai p1_0_10_0.t_.Root, .str p1_0_10_0.s_, .map (some bp1_0_10_0_3)]), .obj bp1_0_10_0_3 (.map 2 (encM (fun k : S_tree_question => .agg (e_S_tree_question k)) (fun v : Bool => .bool v) p1_0_10_0.told_)), .obj bp2 (.cells none 2 (e_S_tree_Node p2)), .obj bp3 (.cells none 2 (e_S_tree_question p3))] F) (hc : canL (cfg.still 40) av = [Ai p0, .ptr (some (bp1, 0)), .ptr (some (bp2, 0)), .ptr (some (bp3, 0))] := by kernel_rfl) : ∃ v h', Runs cfg g h 40 av v h' ∧ v = .bool q0 ∧ HH g h' [.obj bp1 (.cells none 2 [.func (.func 37) [] [.ptr (some (bp1_0_10, 0))]]), .obj bp1_0_10 (.cells none 2 [.ptr (some (bp1_0_10_0, 0))]), .obj bp1_0_10_0 (.cells none 2 [vs e_S_tree_Node p1_0_10_0.t_.Nodes, Ai p1_0_10_0.t_.Root, .str p1_0_10_0.s_, .map (some bp1_0_10_0_3)]), .obj bp1_0_10_0_3 (.map 2 (encM (fun k : S_tree_question => .agg (e_S_tree_question k)) (fun v : Bool => .bool v) u3)), .obj bp2 (.cells none 2 (e_S_tree_Node p2)), .obj bp3 (.cells none 2 (e_S_tree_question p3))] F := (okrSC_tree_asker_does_1_sIIIPP bigF).ok_tree_asker_does_2_sIPFPPPP hm hc A
def M_tree_asker_does_3_sIPFPPPP : Int → S_tree_asker → S_tree_Node → S_tree_question → Option (Bool × (List (S_tree_question × Bool))) := (rSC_tree_asker_does_1_sIIIPP bigF).M_tree_asker_does_3_sIPFPPPP
theorem ok_tree_asker_does_3_sIPFPPPP {p0 p1_0_10_0 p2 p3 bp1 bp1_0_10 bp1_0_10_0 bp1_0_10_0_3 bp2 bp3 q0 u3} (hm : M_tree_asker_does_3_sIPFPPPP p0 p1_0_10_0 p2 p3 = some (q0, u3)) (A : HH g h [.obj bp1 (.cells none 2 [.func (.func 37) [] [.ptr (some (bp1_0_10, 0))]]), .obj bp1_0_10 (.cells none 2 [.ptr (some (bp1_0_10_0, 0))]), .obj bp1_0_10_0 (.cells none 2 [vs e_S_tree_Node p1_0_10_0.t_.Nodes, Ai p1_0_10_0.t_.Root, .str p1_0_10_0.s_, .map (some bp1_0_10_0_3)]), .obj bp1_0_10_0_3 (.map 2 (encM (fun k : S_tree_question => .agg (e_S_tree_question k)) (fun v : Bool => .bool v) p1_0_10_0.told_)), .obj bp2 (.cells none 2 (e_S_tree_Node p2)), .obj bp3 (.cells none 2 (e_S_tree_question p3))] F) (hc : canL (cfg.still 41) av = [Ai p0, .ptr (some (bp1, 0)), .ptr (some (bp2, 0)), .ptr (some (bp3, 0))] := by kernel_rfl) : ∃ v h', Runs cfg g h 41 av v h' ∧ v = .bool q0 ∧ HH g h' [.obj bp1 (.cells none 2 [.func (.func 37) [] [.ptr (some (bp1_0_10, 0))]]), .obj bp1_0_10 (.cells none 2 [.ptr (some (bp1_0_10_0, 0))]), .obj bp1_0_10_0 (.cells none 2 [vs e_S_tree_Node p1_0_10_0.t_.Nodes, Ai p1_0_10_0.t_.Root, .str p1_0_10_0.s_, .map (some bp1_0_10_0_3)]), .obj bp1_0_10_0_3 (.map 2 (encM (fun k : S_tree_question => .agg (e_S_tree_question k)) (fun v : Bool => .bool v) u3)), .obj bp2 (.cells none 2 (e_S_tree_Node p2)), .obj bp3 (.cells none 2 (e_S_tree_question p3))] F := (okrSC_tree_asker_does_1_sIIIPP bigF).ok_tree_asker_does_3_sIPFPPPP hm hc A
end
end Go.Av.L
