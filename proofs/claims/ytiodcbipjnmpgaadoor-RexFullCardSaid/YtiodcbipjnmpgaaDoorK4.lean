/-
 Models of functions, and that the abstract run tells them. Written by lift2.py.
-/
import Derived.Test.YtiodcbipjnmpgaaDoorKCfg
import Derived.Test.YtiodcbipjnmpgaaDoorK0
import Derived.Test.YtiodcbipjnmpgaaDoorK2
import Derived.Test.YtiodcbipjnmpgaaDoorK3
namespace Go.Av.L
open Go.Av Go.Lib
set_option maxRecDepth 10000
set_option linter.unusedVariables false
set_option linter.unusedSimpArgs false
/-! ### boulter/rex.Parse -/
noncomputable def M_rex_Parse (p0 : List UInt8) (p1 : Bool) : Option (S_tree_Tree × Int × Int) :=
 iteB (decide ((p0.length : Int) > (8192 : Int))) (some ((⟨([] : List S_tree_Node), (0 : Int)⟩ : S_tree_Tree), (0 : Int), (12 : Int))) ((M_rex_walk_expression_sPO (⟨p0, (0 : Int), p1, (⟨([] : List S_tree_Node), (0 : Int)⟩ : S_tree_Tree), (0 : Int), (0 : Int), (-1 : Int), false⟩ : S_rex_walk)).bind fun (x1, x2, x3) => ((M_rex_walk_ok_sPO (⟨x2.s_, x2.at_, x2.extended_, (⟨x3, x2.t_.Root⟩ : S_tree_Tree), x2.groups_, x2.depth_, x2.wrong_, x2.full_⟩ : S_rex_walk)).bind fun x12 => iteB (x12 && (decide (x2.at_ < (p0.length : Int)))) ((M_rex_walk_fail_sPOI (⟨x2.s_, x2.at_, x2.extended_, (⟨x3, x2.t_.Root⟩ : S_tree_Tree), x2.groups_, x2.depth_, x2.wrong_, x2.full_⟩ : S_rex_walk) x2.at_).bind fun x13 => some (x13.s_, x13.at_, x13.extended_, x13.t_.Root, x13.groups_, x13.depth_, x13.wrong_, x13.full_)) (some (x2.s_, x2.at_, x2.extended_, x2.t_.Root, x2.groups_, x2.depth_, x2.wrong_, x2.full_)) : Option (((List UInt8) × Int × Bool × Int × Int × Int × Int × Bool))).bind fun (x4, x5, x6, x7, x8, x9, x10, x11) => (M_rex_walk_ok_sPO (⟨x4, x5, x6, (⟨x3, x7⟩ : S_tree_Tree), x8, x9, x10, x11⟩ : S_rex_walk)).bind fun x14 => iteB (!x14) (some ((⟨([] : List S_tree_Node), (0 : Int)⟩ : S_tree_Tree), x10, (11 : Int))) (iteB x11 (some ((⟨([] : List S_tree_Node), (0 : Int)⟩ : S_tree_Tree), (0 : Int), (8 : Int))) (some ((⟨x3, x7⟩ : S_tree_Tree), (0 : Int), (0 : Int)))))
theorem ok_rex_Parse {g : Gd} {h : AHeap} {F : List Ck} {p0 : List UInt8} {p1 : Bool} {q0 : S_tree_Tree} {q1 : Int} {q2 : Int} {av : List AVal} (hm : M_rex_Parse p0 p1 = some (q0, q1, q2)) (hc : canL (cfg.still 6) av = [.str p0, .bool p1]) (A : HH g h [] F) : ∃ v h', Runs cfg g h 6 av v h' ∧ v = .tuple [.agg [vs e_S_tree_Node q0.Nodes, .int .i64 q0.Root], .int .i64 q1, .int .i64 q2] ∧ HH g h' [] F := by
 refine runsQ7 (n := 54) (rs := [.cell 4 25, .tmp 5, .tmp 6]) (by kernel_rfl) hc (by kernel_rfl) ?_
 clear hc
 unfold M_rex_Parse at hm
 refine start (n := 54) [(0, .str p0), (1, .bool p1)] (by kernel_rfl) (by kernel_rfl) ?_
 intro fr H
 refine aw_seq (by kernel_rfl) ?_
 refine aw_reg (id := 0) (n := 3) [(0, []), (1, []), (2, [])] (by kernel_rfl) (by kernel_rfl) ?_
 obtain ⟨h1, e1⟩ : ∃ x, x = h.push (.cells none 2 [.slice none 0, .int .i64 (0 : Int)]) := ⟨_, rfl⟩
 replace A := (A.push _).to e1
 refine at_step (v := .ptr (some (h.size, 0))) (h1 := h1) [(0, .str p0), (1, .bool p1), (4, .ptr (some (h.size, 0)))] H (fun fr => by kernel_rfl) (fun fr => .of (s_n' (by kernel_rfl) (congrArg some e1.symm))) ?_
 intro fr t H
 refine at_seg [(1, []), (2, [])] [(0, .str p0), (1, .bool p1), (4, .ptr (some (h.size, 0)))] H (noU_all rfl) (fun fr => by kernel_rfl) ?_
 intro fr H
 refine at_nil ?_
 show AW cfg 6 g (right (bodyC cfg.P 6)) fr h1 _
 refine aw_seq (by kernel_rfl) ?_
 refine aw_seq (by kernel_rfl) ?_
 refine aw_reg (id := 1) (n := 3) [(0, []), (1, []), (2, [])] (by kernel_rfl) (by kernel_rfl) ?_
 refine at_seg [(0, []), (1, []), (2, [])] [(0, .str p0), (1, .bool p1), (4, .ptr (some (h.size, 0))), (10, .bool (decide ((p0.length : Int) > (8192 : Int))))] H (noU_all rfl) (fun fr => by kernel_rfl) ?_
 intro fr H
 refine at_nil ?_
 show AW cfg 6 g (right (left (right (bodyC cfg.P 6)))) fr h1 _
 rcases iteB_some hm with ⟨hb, hm⟩ | ⟨hb, hm⟩
 ·replace H := H.know 10 hb (by kernel_rfl)
  refine aw_true (x := .tmp 10) (by kernel_rfl) H (fun fr => by kernel_rfl) ?_
  refine aw_seq (by kernel_rfl) ?_
  refine aw_reg (id := 2) (n := 4) [(0, []), (1, []), (2, []), (3, [])] (by kernel_rfl) (by kernel_rfl) ?_
  refine at_seg [(0, [])] [(4, .ptr (some (h.size, 0))), (11, .agg [.slice none 0, .int .i64 (0 : Int)])] H (noU_all rfl) (fun fr => by kernel_rfl) ?_
  intro fr H
  obtain ⟨h2, hx, A1⟩ := A.st 0 rfl (o := 0) (new := [.slice none 0, .int .i64 (0 : Int)]) (ds := [.slice none 0, .int .i64 (0 : Int)]) (Nat.le_of_ble_eq_true rfl) rfl rfl
  replace A : HH g h2 [.obj h.size (.cells none 2 [.slice none 0, .int .i64 (0 : Int)])] F := A1
  refine at_step (v := .tuple []) (h1 := h2) [(4, .ptr (some (h.size, 0)))] H (fun fr => by kernel_rfl) (fun fr => .of (s_stG (by kernel_rfl) (stG_st hx rfl))) ?_
  intro fr t H
  refine at_seg [(2, []), (3, [])] [(4, .ptr (some (h.size, 0))), (5, .int .i64 (0 : Int)), (6, .int .i64 (12 : Int))] H (noU_all rfl) (fun fr => by kernel_rfl) ?_
  intro fr H
  refine at_nil ?_
  show AW cfg 6 g (right (left (right (left (right (bodyC cfg.P 6)))))) fr h2 _
  refine aw_ret (by kernel_rfl) ?_
  have e0 := Option.some.inj hm
  obtain ⟨y0, z0⟩ := Prod.mk.inj e0
  obtain ⟨y1, z1⟩ := Prod.mk.inj z0
  subst y0
  subst y1
  subst z1
  refine ⟨.inl rfl, .tuple [.agg [.slice none 0, .int .i64 (0 : Int)], .int .i64 (0 : Int), .int .i64 (12 : Int)], resL_many (.cell (resT H (fun fr => by kernel_rfl)) (load_ldA (by kernel_rfl) (by kernel_rfl) (A.ldA 0 rfl (o := 0) (n := 2) ⟨Nat.le_of_ble_eq_true rfl, rfl⟩)) (.tmp (resT H (fun fr => by kernel_rfl)) (.tmp (resT H (fun fr => by kernel_rfl)) .nil))), ?_⟩
  refine ⟨.tuple [.agg [vs e_S_tree_Node ([] : List S_tree_Node), .int .i64 (0 : Int)], .int .i64 (0 : Int), .int .i64 (12 : Int)], h2, by first | rfl | (simp only [fz3T, fz3A, fz3B, fz3R, fz2A, fz2R, fz2V, fz2I, fz2B, fz2S, fz2N, fzL0, fzL1, fz1I, fz1B, fz1S, fz1V, fz1N, Option.map_some] <;> rfl), ?_⟩
  replace A : HH g h2 [] F := (HH.dropF A 0)
  exact ⟨rfl, A⟩
 ·replace H := H.know 10 hb (by kernel_rfl)
  refine aw_false (x := .tmp 10) (by kernel_rfl) H (fun fr => by kernel_rfl) ?_
  refine aw_skip (by kernel_rfl) ?_
  show AW cfg 6 g (right (right (bodyC cfg.P 6))) fr h1 _
  refine aw_seq (by kernel_rfl) ?_
  refine aw_reg (id := 3) (n := 5) [(0, []), (1, []), (2, []), (3, []), (4, [])] (by kernel_rfl) (by kernel_rfl) ?_
  refine at_seg [(0, []), (1, []), (2, [])] [(0, .str p0), (4, .ptr (some (h.size, 0))), (14, .agg [.str p0, .int .i64 (0 : Int), .bool p1, .slice none 0, .int .i64 (0 : Int), .int .i64 (0 : Int), .int .i64 (0 : Int), .int .i64 (-1 : Int), .bool false])] H (noU_all rfl) (fun fr => by kernel_rfl) ?_
  intro fr H
  obtain ⟨h3, e2⟩ : ∃ x, x = h1.push (.cells none 2 [.str p0, .int .i64 (0 : Int), .bool p1, .slice none 0, .int .i64 (0 : Int), .int .i64 (0 : Int), .int .i64 (0 : Int), .int .i64 (-1 : Int), .bool false]) := ⟨_, rfl⟩
  replace A := (A.push _).to e2
  refine at_step (v := .ptr (some (h1.size, 0))) (h1 := h3) [(0, .str p0), (4, .ptr (some (h.size, 0))), (15, .ptr (some (h1.size, 0)))] H (fun fr => by kernel_rfl) (fun fr => .of (s_n' (by kernel_rfl) (congrArg some e2.symm))) ?_
  intro fr t H
  refine at_seg [(4, [])] [(0, .str p0), (4, .ptr (some (h.size, 0))), (7, .ptr (some (h1.size, 0)))] H (noU_all rfl) (fun fr => by kernel_rfl) ?_
  intro fr H
  refine at_nil ?_
  show AW cfg 6 g (right (right (right (bodyC cfg.P 6)))) fr h3 _
  refine aw_seq (by kernel_rfl) ?_
  refine aw_reg (id := 4) (n := 2) [(0, []), (1, [])] (by kernel_rfl) (by kernel_rfl) ?_
  refine at_seg [(0, [])] [(0, .str p0), (4, .ptr (some (h.size, 0))), (7, .ptr (some (h1.size, 0))), (16, .ptr (some (h1.size, 0)))] H (noU_all rfl) (fun fr => by kernel_rfl) ?_
  intro fr H
  replace A : HH g h3 [.lst none 45 (lst e_S_tree_Node ([] : List S_tree_Node)), .obj h1.size (.cells none 2 [.str p0, .int .i64 (0 : Int), .bool p1, rowV none (([] : List S_tree_Node).length), .int .i64 (0 : Int), .int .i64 (0 : Int), .int .i64 (0 : Int), .int .i64 (-1 : Int), .bool false]), .obj h.size (.cells none 2 [.slice none 0, .int .i64 (0 : Int)])] F := A.nilL 45
  replace A : HH g h3 [.obj h1.size (.cells none 2 [.str p0, .int .i64 (0 : Int), .bool p1, rowV none (([] : List S_tree_Node).length), .int .i64 (0 : Int), .int .i64 (0 : Int), .int .i64 (0 : Int), .int .i64 (-1 : Int), .bool false]), .lst none 45 (lst e_S_tree_Node ([] : List S_tree_Node)), .obj h.size (.cells none 2 [.slice none 0, .int .i64 (0 : Int)])] F := ((A.front 0 rfl).front 1 rfl)
  have A1 := A.cut 2
  obtain ⟨⟨x1, x2, x3⟩, hx, hm⟩ := bind_some hm
  obtain ⟨v1, h4, hr, r1, rfl, A1⟩ := ok_rex_walk_expression_sPO (av := [.ptr (some (h1.size, 0))]) hx (by kernel_rfl) A1
  replace A : HH g h4 [.obj h1.size (.cells none 2 [.str x2.s_, .int .i64 x2.at_, .bool x2.extended_, rowV r1 x3.length, .int .i64 x2.t_.Root, .int .i64 x2.groups_, .int .i64 x2.depth_, .int .i64 x2.wrong_, .bool x2.full_]), .lst r1 45 (lst e_S_tree_Node x3), .obj h.size (.cells none 2 [.slice none 0, .int .i64 (0 : Int)])] F := A.glue0 (n := 2) A1
  refine at_step (v := .int .i64 x1) (h1 := h4) [(0, .str p0), (4, .ptr (some (h.size, 0))), (7, .ptr (some (h1.size, 0)))] H (fun fr => by kernel_rfl) (fun fr => Steps.call (by kernel_rfl) hr) ?_
  intro fr t H
  refine at_nil ?_
  show AW cfg 6 g (right (right (right (right (bodyC cfg.P 6))))) fr h4 _
  refine aw_seq (by kernel_rfl) ?_
  obtain ⟨o1, ho, hm⟩ := bind_some hm
  refine aw_mono (Q' := fun e fr' h' => (∃ (x4 : List UInt8) (x5 : Int) (x6 : Bool) (x7 : Int) (x8 : Int) (x9 : Int) (x10 : Int) (x11 : Bool), e = .normal ∧ (x4, x5, x6, x7, x8, x9, x10, x11) = o1 ∧ Has fr' 54 [(4, .ptr (some (h.size, 0))), (7, .ptr (some (h1.size, 0)))] ∧ HH g h' [.obj h1.size (.cells none 2 [.str x4, .int .i64 x5, .bool x6, rowV r1 x3.length, .int .i64 x7, .int .i64 x8, .int .i64 x9, .int .i64 x10, .bool x11]), .lst r1 45 (lst e_S_tree_Node x3), .obj h.size (.cells none 2 [.slice none 0, .int .i64 (0 : Int)])] F) ∨ False) ?_ ?_
  ·replace hm := ho
   clear ho
   refine aw_seq (by kernel_rfl) ?_
   refine aw_reg (id := 5) (n := 11) [(0, []), (1, []), (2, []), (3, []), (4, []), (5, []), (6, []), (7, []), (8, []), (9, []), (10, [])] (by kernel_rfl) (by kernel_rfl) ?_
   refine at_seg [(0, [])] [(0, .str p0), (4, .ptr (some (h.size, 0))), (7, .ptr (some (h1.size, 0))), (18, .ptr (some (h1.size, 0)))] H (noU_all rfl) (fun fr => by kernel_rfl) ?_
   intro fr H
   have A1 := A.cut 2
   obtain ⟨x12, hx, hm⟩ := bind_some hm
   obtain ⟨v1, h5, hr, rfl, A1⟩ := ok_rex_walk_ok_sPO (av := [.ptr (some (h1.size, 0))]) hx (by kernel_rfl) A1
   replace A : HH g h5 [.obj h1.size (.cells none 2 [.str x2.s_, .int .i64 x2.at_, .bool x2.extended_, rowV r1 x3.length, .int .i64 x2.t_.Root, .int .i64 x2.groups_, .int .i64 x2.depth_, .int .i64 x2.wrong_, .bool x2.full_]), .lst r1 45 (lst e_S_tree_Node x3), .obj h.size (.cells none 2 [.slice none 0, .int .i64 (0 : Int)])] F := A.glue0 (n := 2) A1
   refine at_step (v := .bool x12) (h1 := h5) [(0, .str p0), (4, .ptr (some (h.size, 0))), (7, .ptr (some (h1.size, 0))), (19, .bool x12)] H (fun fr => by kernel_rfl) (fun fr => Steps.call (by kernel_rfl) hr) ?_
   intro fr t H
   refine at_seg [(2, [])] [(0, .str p0), (4, .ptr (some (h.size, 0))), (7, .ptr (some (h1.size, 0))), (20, .bool x12)] H (noU_all rfl) (fun fr => by kernel_rfl) ?_
   intro fr H
   refine at_cut [(3, []), (4, []), (5, []), (6, []), (7, []), (8, []), (9, []), (10, [])] (fun fr' h' => h5 = h' ∧ Has fr' 54 [(4, .ptr (some (h.size, 0))), (7, .ptr (some (h1.size, 0))), (28, .bool (x12 && (decide (x2.at_ < (p0.length : Int)))))]) ?_ ?_
   ·cases hb : (x12 : Bool) with
    | true =>
     replace H := H.know 20 hb (by kernel_rfl)
     refine at_seg [(3, []), (4, []), (5, [])] [(0, .str p0), (4, .ptr (some (h.size, 0))), (7, .ptr (some (h1.size, 0))), (20, .bool true), (23, .ptr (some (h1.size, 1)))] H (noU_all rfl) (fun fr => by kernel_rfl) ?_
     intro fr H
     refine at_step (v := .int .i64 x2.at_) (h1 := h5) [(0, .str p0), (4, .ptr (some (h.size, 0))), (7, .ptr (some (h1.size, 0))), (20, .bool true), (24, .int .i64 x2.at_)] H (fun fr => by kernel_rfl) (fun fr => .of (s_ld (by kernel_rfl) (A.ld1 0 rfl (o := 1) rfl))) ?_
     intro fr t H
     refine at_seg [(7, []), (8, []), (9, []), (10, [])] [(4, .ptr (some (h.size, 0))), (7, .ptr (some (h1.size, 0))), (28, .bool (decide (x2.at_ < (p0.length : Int))))] H (noU_all rfl) (fun fr => by kernel_rfl) ?_
     intro fr H
     exact at_nil ⟨rfl, by first | exact H.less _ (fun fr => by rfl) | exact H.less _ (fun fr => by rw [hb]; rfl)⟩
    | false =>
     replace H := H.know 20 hb (by kernel_rfl)
     refine at_seg [(3, []), (4, []), (5, []), (6, []), (7, []), (8, []), (9, []), (10, [])] [(4, .ptr (some (h.size, 0))), (7, .ptr (some (h1.size, 0))), (28, .bool false)] H (noU_all rfl) (fun fr => by kernel_rfl) ?_
     intro fr H
     exact at_nil ⟨rfl, by first | exact H.less _ (fun fr => by rfl) | exact H.less _ (fun fr => by rw [hb]; rfl)⟩
   ·intro t fr h' hK
    obtain ⟨e, H⟩ := hK
    subst e
    refine at_nil ?_
    show AW cfg 6 g (right (left (right (right (right (right (bodyC cfg.P 6))))))) fr h5 _
    rcases iteB_some hm with ⟨hb, hm⟩ | ⟨hb, hm⟩
    ·replace H := H.know 28 hb (by kernel_rfl)
     refine aw_true (x := .tmp 28) (by kernel_rfl) H (fun fr => by kernel_rfl) ?_
     refine aw_reg (id := 6) (n := 6) [(0, []), (1, []), (2, []), (3, []), (4, []), (5, [])] (by kernel_rfl) (by kernel_rfl) ?_
     refine at_seg [(0, []), (1, []), (2, []), (3, [])] [(4, .ptr (some (h.size, 0))), (7, .ptr (some (h1.size, 0))), (29, .ptr (some (h1.size, 0))), (32, .ptr (some (h1.size, 1)))] H (noU_all rfl) (fun fr => by kernel_rfl) ?_
     intro fr H
     refine at_step (v := .int .i64 x2.at_) (h1 := h5) [(4, .ptr (some (h.size, 0))), (7, .ptr (some (h1.size, 0))), (29, .ptr (some (h1.size, 0))), (33, .int .i64 x2.at_)] H (fun fr => by kernel_rfl) (fun fr => .of (s_ld (by kernel_rfl) (A.ld1 0 rfl (o := 1) rfl))) ?_
     intro fr t H
     have A1 := A.cut 2
     obtain ⟨x13, hx, hm⟩ := bind_some hm
     obtain ⟨v1, h6, hr, rfl, A1⟩ := ok_rex_walk_fail_sPOI (av := [.ptr (some (h1.size, 0)), .int .i64 x2.at_]) hx (by kernel_rfl) A1
     replace A : HH g h6 [.obj h1.size (.cells none 2 [.str x13.s_, .int .i64 x13.at_, .bool x13.extended_, rowV r1 x3.length, .int .i64 x13.t_.Root, .int .i64 x13.groups_, .int .i64 x13.depth_, .int .i64 x13.wrong_, .bool x13.full_]), .lst r1 45 (lst e_S_tree_Node x3), .obj h.size (.cells none 2 [.slice none 0, .int .i64 (0 : Int)])] F := A.glue0 (n := 2) A1
     refine at_step (v := .tuple []) (h1 := h6) [(4, .ptr (some (h.size, 0))), (7, .ptr (some (h1.size, 0)))] H (fun fr => by kernel_rfl) (fun fr => Steps.call (by kernel_rfl) hr) ?_
     intro fr t H
     refine at_nil ?_
     exact Or.inl ⟨x13.s_, x13.at_, x13.extended_, x13.t_.Root, x13.groups_, x13.depth_, x13.wrong_, x13.full_, rfl, Option.some.inj hm, H.less _ (fun fr => by kernel_rfl), A⟩
    ·replace H := H.know 28 hb (by kernel_rfl)
     refine aw_false (x := .tmp 28) (by kernel_rfl) H (fun fr => by kernel_rfl) ?_
     refine aw_skip (by kernel_rfl) ?_
     exact Or.inl ⟨x2.s_, x2.at_, x2.extended_, x2.t_.Root, x2.groups_, x2.depth_, x2.wrong_, x2.full_, rfl, Option.some.inj hm, H.less _ (fun fr => by kernel_rfl), A⟩
  ·clear ho
   clear A
   intro e fr h7 hQ
   rcases hQ with ⟨x4, x5, x6, x7, x8, x9, x10, x11, rfl, rfl, H, A⟩ | hF
   ·skip
    show AW cfg 6 g (right (right (right (right (right (bodyC cfg.P 6)))))) fr h7 _
    refine aw_seq (by kernel_rfl) ?_
    refine aw_block (id := 0) (by kernel_rfl) ?_
    refine aw_seq (by kernel_rfl) ?_
    refine aw_reg (id := 7) (n := 4) [(0, []), (1, []), (2, []), (3, [])] (by kernel_rfl) (by kernel_rfl) ?_
    refine at_seg [(0, [])] [(4, .ptr (some (h.size, 0))), (7, .ptr (some (h1.size, 0))), (36, .ptr (some (h1.size, 0)))] H (noU_all rfl) (fun fr => by kernel_rfl) ?_
    intro fr H
    have A1 := A.cut 2
    obtain ⟨x14, hx, hm⟩ := bind_some hm
    obtain ⟨v1, h8, hr, rfl, A1⟩ := ok_rex_walk_ok_sPO (av := [.ptr (some (h1.size, 0))]) hx (by kernel_rfl) A1
    replace A : HH g h8 [.obj h1.size (.cells none 2 [.str x4, .int .i64 x5, .bool x6, rowV r1 x3.length, .int .i64 x7, .int .i64 x8, .int .i64 x9, .int .i64 x10, .bool x11]), .lst r1 45 (lst e_S_tree_Node x3), .obj h.size (.cells none 2 [.slice none 0, .int .i64 (0 : Int)])] F := A.glue0 (n := 2) A1
    refine at_step (v := .bool x14) (h1 := h8) [(4, .ptr (some (h.size, 0))), (7, .ptr (some (h1.size, 0))), (37, .bool x14)] H (fun fr => by kernel_rfl) (fun fr => Steps.call (by kernel_rfl) hr) ?_
    intro fr t H
    refine at_seg [(2, []), (3, [])] [(4, .ptr (some (h.size, 0))), (7, .ptr (some (h1.size, 0))), (35, .bool (!x14))] H (noU_all rfl) (fun fr => by kernel_rfl) ?_
    intro fr H
    refine at_nil ?_
    show AW cfg 6 g (right (left (left (right (right (right (right (right (bodyC cfg.P 6))))))))) fr h8 _
    rcases iteB_some hm with ⟨hb, hm⟩ | ⟨hb, hm⟩
    ·replace H := H.know 35 hb (by kernel_rfl)
     refine aw_true (x := .tmp 35) (by kernel_rfl) H (fun fr => by kernel_rfl) ?_
     refine aw_seq (by kernel_rfl) ?_
     refine aw_draw (id := 8) (n := 8) (by kernel_rfl) [(0, []), (1, []), (2, []), (3, []), (4, []), (5, [4]), (6, []), (7, [])] (by kernel_rfl) ?_
     refine at_seg [(0, []), (1, []), (2, []), (3, [])] [(4, .ptr (some (h.size, 0))), (39, .agg [.slice none 0, .int .i64 (0 : Int)]), (42, .ptr (some (h1.size, 7)))] H (noU_all rfl) (fun fr => by kernel_rfl) ?_
     intro fr H
     refine at_stepT (v := .int .i64 x10) (h1 := h8) (tch' := [(4, h1.size)]) (g.prot) [(4, .ptr (some (h.size, 0))), (39, .agg [.slice none 0, .int .i64 (0 : Int)]), (43, .int .i64 x10)] H (fun fr => by kernel_rfl) (by kernel_rfl) (fun fr => by kernel_rfl) (fun fr => .of (s_ld (by kernel_rfl) (A.ld1 0 rfl (o := 7) rfl))) (fun fr => by kernel_rfl) ?_
     intro fr H
     replace A : HH g h8 [.obj h.size (.cells none 2 [.slice none 0, .int .i64 (0 : Int)]), .obj h1.size (.cells none 2 [.str x4, .int .i64 x5, .bool x6, rowV r1 x3.length, .int .i64 x7, .int .i64 x8, .int .i64 x9, .int .i64 x10, .bool x11]), .lst r1 45 (lst e_S_tree_Node x3)] F := (A.front 2 rfl)
     have A1 := A.prot2 1 (pr := [h1.size]) (.cons 0 rfl (by simp [Ck.ids]) .nil)
     obtain ⟨h9, hx, A1⟩ := A1.st 0 rfl (o := 0) (new := [.slice none 0, .int .i64 (0 : Int)]) (ds := [.slice none 0, .int .i64 (0 : Int)]) (Nat.le_of_ble_eq_true rfl) rfl rfl
     replace A : HH g h9 [.obj h.size (.cells none 2 [.slice none 0, .int .i64 (0 : Int)]), .obj h1.size (.cells none 2 [.str x4, .int .i64 x5, .bool x6, rowV r1 x3.length, .int .i64 x7, .int .i64 x8, .int .i64 x9, .int .i64 x10, .bool x11]), .lst r1 45 (lst e_S_tree_Node x3)] F := A.glueP (n := 1) A1
     refine at_stepT (v := .tuple []) (h1 := h9) (tch' := [(4, h1.size)]) (h1.size :: g.prot) [(4, .ptr (some (h.size, 0))), (43, .int .i64 x10)] H (fun fr => by kernel_rfl) (by kernel_rfl) (fun fr => by kernel_rfl) (fun fr => .of (s_stG (by kernel_rfl) (stG_st hx rfl))) (fun fr => by kernel_rfl) ?_
     intro fr H
     refine at_seg [(6, []), (7, [])] [(4, .ptr (some (h.size, 0))), (5, .int .i64 x10), (6, .int .i64 (11 : Int))] H (noU_all rfl) (fun fr => by kernel_rfl) ?_
     intro fr H
     refine at_nil ?_
     show AW cfg 6 g (right (left (right (left (left (right (right (right (right (right (bodyC cfg.P 6))))))))))) fr h9 _
     refine aw_ret (by kernel_rfl) ?_
     have e0 := Option.some.inj hm
     obtain ⟨y0, z0⟩ := Prod.mk.inj e0
     obtain ⟨y1, z1⟩ := Prod.mk.inj z0
     subst y0
     subst y1
     subst z1
     refine ⟨.inl rfl, .tuple [.agg [.slice none 0, .int .i64 (0 : Int)], .int .i64 x10, .int .i64 (11 : Int)], resL_many (.cell (resT H (fun fr => by kernel_rfl)) (load_ldA (by kernel_rfl) (by kernel_rfl) (A.ldA 0 rfl (o := 0) (n := 2) ⟨Nat.le_of_ble_eq_true rfl, rfl⟩)) (.tmp (resT H (fun fr => by kernel_rfl)) (.tmp (resT H (fun fr => by kernel_rfl)) .nil))), ?_⟩
     refine ⟨.tuple [.agg [vs e_S_tree_Node ([] : List S_tree_Node), .int .i64 (0 : Int)], .int .i64 x10, .int .i64 (11 : Int)], h9, by first | rfl | (simp only [fz3T, fz3A, fz3B, fz3R, fz2A, fz2R, fz2V, fz2I, fz2B, fz2S, fz2N, fzL0, fzL1, fz1I, fz1B, fz1S, fz1V, fz1N, Option.map_some] <;> rfl), ?_⟩
     replace A : HH g h9 [] F := (HH.dropF A 0)
     exact ⟨rfl, A⟩
    ·replace H := H.know 35 hb (by kernel_rfl)
     refine aw_false (x := .tmp 35) (by kernel_rfl) H (fun fr => by kernel_rfl) ?_
     refine aw_seq (by kernel_rfl) ?_
     refine aw_reg (id := 9) (n := 5) [(0, []), (1, []), (2, []), (3, []), (4, [])] (by kernel_rfl) (by kernel_rfl) ?_
     refine at_seg [(0, []), (1, []), (2, [])] [(4, .ptr (some (h.size, 0))), (7, .ptr (some (h1.size, 0))), (47, .ptr (some (h1.size, 8)))] H (noU_all rfl) (fun fr => by kernel_rfl) ?_
     intro fr H
     refine at_step (v := .bool x11) (h1 := h8) [(4, .ptr (some (h.size, 0))), (7, .ptr (some (h1.size, 0))), (48, .bool x11)] H (fun fr => by kernel_rfl) (fun fr => .of (s_ld (by kernel_rfl) (A.ld1 0 rfl (o := 8) rfl))) ?_
     intro fr t H
     refine at_seg [(4, [])] [(4, .ptr (some (h.size, 0))), (7, .ptr (some (h1.size, 0))), (44, .bool x11)] H (noU_all rfl) (fun fr => by kernel_rfl) ?_
     intro fr H
     refine at_nil ?_
     show AW cfg 6 g (right (right (right (left (left (right (right (right (right (right (bodyC cfg.P 6))))))))))) fr h8 _
     rcases iteB_some hm with ⟨hb, hm⟩ | ⟨hb, hm⟩
     ·replace H := H.know 44 hb (by kernel_rfl)
      refine aw_true (x := .tmp 44) (by kernel_rfl) H (fun fr => by kernel_rfl) ?_
      refine aw_seq (by kernel_rfl) ?_
      refine aw_reg (id := 10) (n := 4) [(0, []), (1, []), (2, []), (3, [])] (by kernel_rfl) (by kernel_rfl) ?_
      refine at_seg [(0, [])] [(4, .ptr (some (h.size, 0))), (49, .agg [.slice none 0, .int .i64 (0 : Int)])] H (noU_all rfl) (fun fr => by kernel_rfl) ?_
      intro fr H
      obtain ⟨h10, hx, A1⟩ := A.st 2 rfl (o := 0) (new := [.slice none 0, .int .i64 (0 : Int)]) (ds := [.slice none 0, .int .i64 (0 : Int)]) (Nat.le_of_ble_eq_true rfl) rfl rfl
      replace A : HH g h10 [.obj h1.size (.cells none 2 [.str x4, .int .i64 x5, .bool x6, rowV r1 x3.length, .int .i64 x7, .int .i64 x8, .int .i64 x9, .int .i64 x10, .bool x11]), .lst r1 45 (lst e_S_tree_Node x3), .obj h.size (.cells none 2 [.slice none 0, .int .i64 (0 : Int)])] F := A1
      refine at_step (v := .tuple []) (h1 := h10) [(4, .ptr (some (h.size, 0)))] H (fun fr => by kernel_rfl) (fun fr => .of (s_stG (by kernel_rfl) (stG_st hx rfl))) ?_
      intro fr t H
      refine at_seg [(2, []), (3, [])] [(4, .ptr (some (h.size, 0))), (5, .int .i64 (0 : Int)), (6, .int .i64 (8 : Int))] H (noU_all rfl) (fun fr => by kernel_rfl) ?_
      intro fr H
      refine at_nil ?_
      show AW cfg 6 g (right (left (right (right (right (left (left (right (right (right (right (right (bodyC cfg.P 6))))))))))))) fr h10 _
      refine aw_ret (by kernel_rfl) ?_
      have e0 := Option.some.inj hm
      obtain ⟨y0, z0⟩ := Prod.mk.inj e0
      obtain ⟨y1, z1⟩ := Prod.mk.inj z0
      subst y0
      subst y1
      subst z1
      refine ⟨.inl rfl, .tuple [.agg [.slice none 0, .int .i64 (0 : Int)], .int .i64 (0 : Int), .int .i64 (8 : Int)], resL_many (.cell (resT H (fun fr => by kernel_rfl)) (load_ldA (by kernel_rfl) (by kernel_rfl) (A.ldA 2 rfl (o := 0) (n := 2) ⟨Nat.le_of_ble_eq_true rfl, rfl⟩)) (.tmp (resT H (fun fr => by kernel_rfl)) (.tmp (resT H (fun fr => by kernel_rfl)) .nil))), ?_⟩
      refine ⟨.tuple [.agg [vs e_S_tree_Node ([] : List S_tree_Node), .int .i64 (0 : Int)], .int .i64 (0 : Int), .int .i64 (8 : Int)], h10, by first | rfl | (simp only [fz3T, fz3A, fz3B, fz3R, fz2A, fz2R, fz2V, fz2I, fz2B, fz2S, fz2N, fzL0, fzL1, fz1I, fz1B, fz1S, fz1V, fz1N, Option.map_some] <;> rfl), ?_⟩
      replace A : HH g h10 [] F := (HH.dropF A 0)
      exact ⟨rfl, A⟩
     ·replace H := H.know 44 hb (by kernel_rfl)
      refine aw_false (x := .tmp 44) (by kernel_rfl) H (fun fr => by kernel_rfl) ?_
      refine aw_skip (by kernel_rfl) ?_
      show AW cfg 6 g (right (right (right (right (right (right (bodyC cfg.P 6))))))) fr h8 _
      refine aw_seq (by kernel_rfl) ?_
      refine aw_reg (id := 11) (n := 7) [(0, []), (1, []), (2, []), (3, []), (4, []), (5, []), (6, [])] (by kernel_rfl) (by kernel_rfl) ?_
      refine at_seg [(0, []), (1, []), (2, [])] [(4, .ptr (some (h.size, 0))), (52, .ptr (some (h1.size, 3)))] H (noU_all rfl) (fun fr => by kernel_rfl) ?_
      intro fr H
      refine at_step (v := .agg [rowV r1 x3.length, .int .i64 x7]) (h1 := h8) [(4, .ptr (some (h.size, 0))), (53, .agg [rowV r1 x3.length, .int .i64 x7])] H (fun fr => by kernel_rfl) (fun fr => .of (s_ldA (by kernel_rfl) (A.ldA 0 rfl (o := 3) (n := 2) ⟨Nat.le_of_ble_eq_true rfl, rfl⟩))) ?_
      intro fr t H
      obtain ⟨h11, hx, A1⟩ := A.st 2 rfl (o := 0) (new := [rowV r1 x3.length, .int .i64 x7]) (ds := [rowV r1 x3.length, .int .i64 x7]) (Nat.le_of_ble_eq_true rfl) rfl rfl
      replace A : HH g h11 [.obj h1.size (.cells none 2 [.str x4, .int .i64 x5, .bool x6, rowV r1 x3.length, .int .i64 x7, .int .i64 x8, .int .i64 x9, .int .i64 x10, .bool x11]), .lst r1 45 (lst e_S_tree_Node x3), .obj h.size (.cells none 2 [rowV r1 x3.length, .int .i64 x7])] F := A1
      refine at_step (v := .tuple []) (h1 := h11) [(4, .ptr (some (h.size, 0)))] H (fun fr => by kernel_rfl) (fun fr => .of (s_stG (by kernel_rfl) (stG_st hx rfl))) ?_
      intro fr t H
      refine at_seg [(5, []), (6, [])] [(4, .ptr (some (h.size, 0))), (5, .int .i64 (0 : Int)), (6, .int .i64 (0 : Int))] H (noU_all rfl) (fun fr => by kernel_rfl) ?_
      intro fr H
      refine at_nil ?_
      show AW cfg 6 g (right (right (right (right (right (right (right (bodyC cfg.P 6)))))))) fr h11 _
      refine aw_ret (by kernel_rfl) ?_
      have e0 := Option.some.inj hm
      obtain ⟨y0, z0⟩ := Prod.mk.inj e0
      obtain ⟨y1, z1⟩ := Prod.mk.inj z0
      subst y0
      subst y1
      subst z1
      refine ⟨.inl rfl, .tuple [.agg [rowV r1 x3.length, .int .i64 x7], .int .i64 (0 : Int), .int .i64 (0 : Int)], resL_many (.cell (resT H (fun fr => by kernel_rfl)) (load_ldA (by kernel_rfl) (by kernel_rfl) (A.ldA 2 rfl (o := 0) (n := 2) ⟨Nat.le_of_ble_eq_true rfl, rfl⟩)) (.tmp (resT H (fun fr => by kernel_rfl)) (.tmp (resT H (fun fr => by kernel_rfl)) .nil))), ?_⟩
      obtain ⟨h12, hz0, A1⟩ := (A.front 1 rfl).frz (n := x3.length) (z := 10) (enc_S_tree_Node.lenL _) (by decide)
      replace A : HH g h12 [.obj h1.size (.cells none 2 [.str x4, .int .i64 x5, .bool x6, rowV r1 x3.length, .int .i64 x7, .int .i64 x8, .int .i64 x9, .int .i64 x10, .bool x11]), .obj h.size (.cells none 2 [rowV r1 x3.length, .int .i64 x7])] F := A1
      refine ⟨.tuple [.agg [vs e_S_tree_Node x3, .int .i64 x7], .int .i64 (0 : Int), .int .i64 (0 : Int)], h12, by first | rfl | (simp only [fz3T, fz3A, fz3B, fz3R, fz2A, fz2R, fz2V, fz2I, fz2B, fz2S, fz2N, fzL0, fzL1, fz1I, fz1B, fz1S, fz1V, fz1N, Option.map_some, hz0] <;> rfl), ?_⟩
      replace A : HH g h12 [] F := (HH.dropF A 0)
      exact ⟨rfl, A⟩
   ·exact hF.elim
/-! ### boulter/tree.text -/
noncomputable def M_tree_text_sRO_L0 (x1 : List UInt8) (s : (List UInt8) × Int) : Option (((List UInt8) × Int) ⊕ (((List UInt8)))) :=
 match s with
 | (x2, x3) => iteB (decide (x3 < (x1.length : Int))) ((ixV x1 x3).bind fun x5 => (ixS ([48, 49, 50, 51, 52, 53, 54, 55, 56, 57, 97, 98, 99, 100, 101, 102] : List UInt8) (bShr .u8 (x5.toNat : Int) (4 : Int))).bind fun x6 => (ixS ([48, 49, 50, 51, 52, 53, 54, 55, 56, 57, 97, 98, 99, 100, 101, 102] : List UInt8) (bAnd .u8 (x5.toNat : Int) (15 : Int))).bind fun x7 => (toY x6).bind fun x8 => (toY x7).bind fun x9 => need (okN 1 (x2.length + ([x8, x9] : List UInt8).length)) <| some (.inl ((x2 ++ ([x8, x9] : List UInt8)), IntKind.i64.wrap (x3 + (1 : Int))))) (some (.inr x2))
noncomputable def M_tree_text_sRO (p0 : S_tree_Node) (p1 : List (List UInt8)) : Option ((List UInt8)) :=
 iteB (p0.Kind == (0 : Int)) (some ([101] : List UInt8)) (iteB (p0.Kind == (1 : Int)) ((M_class_Set_Bytes p0.Set).bind fun x1 => need (decide (x1.length ≤ 1099511627776)) <| (loop (M_tree_text_sRO_L0 x1) (([(91 : UInt8)] : List UInt8), (0 : Int))).bind fun x4 => need (okN 1 (x4.length + ([(93 : UInt8)] : List UInt8).length)) <| some (x4 ++ ([(93 : UInt8)] : List UInt8))) (iteB (p0.Kind == (2 : Int)) ((ixV p1 p0.A).bind fun x10 => need (decide (([40] : List UInt8).length + x10.length ≤ 9223372036854775807)) <| need (decide ((([40] : List UInt8) ++ x10).length + ([46] : List UInt8).length ≤ 9223372036854775807)) <| (ixV p1 p0.B).bind fun x11 => need (decide (((([40] : List UInt8) ++ x10) ++ ([46] : List UInt8)).length + x11.length ≤ 9223372036854775807)) <| need (decide ((((([40] : List UInt8) ++ x10) ++ ([46] : List UInt8)) ++ x11).length + ([41] : List UInt8).length ≤ 9223372036854775807)) <| some ((((([40] : List UInt8) ++ x10) ++ ([46] : List UInt8)) ++ x11) ++ ([41] : List UInt8))) (iteB (p0.Kind == (3 : Int)) ((ixV p1 p0.A).bind fun x12 => need (decide (([40] : List UInt8).length + x12.length ≤ 9223372036854775807)) <| need (decide ((([40] : List UInt8) ++ x12).length + ([124] : List UInt8).length ≤ 9223372036854775807)) <| (ixV p1 p0.B).bind fun x13 => need (decide (((([40] : List UInt8) ++ x12) ++ ([124] : List UInt8)).length + x13.length ≤ 9223372036854775807)) <| need (decide ((((([40] : List UInt8) ++ x12) ++ ([124] : List UInt8)) ++ x13).length + ([41] : List UInt8).length ≤ 9223372036854775807)) <| some ((((([40] : List UInt8) ++ x12) ++ ([124] : List UInt8)) ++ x13) ++ ([41] : List UInt8))) (iteB (p0.Kind == (4 : Int)) ((iteB (decide (p0.Max ≥ (0 : Int))) ((M_strconv_Itoa p0.Max).bind fun x15 => some x15) (some ([] : List UInt8)) : Option (((List UInt8)))).bind fun x14 => (ixV p1 p0.A).bind fun x16 => (M_strconv_Itoa p0.Min).bind fun x17 => need (decide (([123] : List UInt8).length + x17.length ≤ 9223372036854775807)) <| need (decide ((([123] : List UInt8) ++ x17).length + ([44] : List UInt8).length ≤ 9223372036854775807)) <| need (decide (((([123] : List UInt8) ++ x17) ++ ([44] : List UInt8)).length + x14.length ≤ 9223372036854775807)) <| need (decide ((((([123] : List UInt8) ++ x17) ++ ([44] : List UInt8)) ++ x14).length + ([58] : List UInt8).length ≤ 9223372036854775807)) <| need (decide (((((([123] : List UInt8) ++ x17) ++ ([44] : List UInt8)) ++ x14) ++ ([58] : List UInt8)).length + x16.length ≤ 9223372036854775807)) <| need (decide ((((((([123] : List UInt8) ++ x17) ++ ([44] : List UInt8)) ++ x14) ++ ([58] : List UInt8)) ++ x16).length + ([125] : List UInt8).length ≤ 9223372036854775807)) <| some ((((((([123] : List UInt8) ++ x17) ++ ([44] : List UInt8)) ++ x14) ++ ([58] : List UInt8)) ++ x16) ++ ([125] : List UInt8))) (iteB (p0.Kind == (5 : Int)) ((ixV p1 p0.A).bind fun x18 => (M_strconv_Itoa p0.Group).bind fun x19 => need (decide (([60] : List UInt8).length + x19.length ≤ 9223372036854775807)) <| need (decide ((([60] : List UInt8) ++ x19).length + ([58] : List UInt8).length ≤ 9223372036854775807)) <| need (decide (((([60] : List UInt8) ++ x19) ++ ([58] : List UInt8)).length + x18.length ≤ 9223372036854775807)) <| need (decide ((((([60] : List UInt8) ++ x19) ++ ([58] : List UInt8)) ++ x18).length + ([62] : List UInt8).length ≤ 9223372036854775807)) <| some ((((([60] : List UInt8) ++ x19) ++ ([58] : List UInt8)) ++ x18) ++ ([62] : List UInt8))) (iteB (p0.Kind == (6 : Int)) (some ([94] : List UInt8)) (some ([36] : List UInt8))))))))
theorem ok_tree_text_sRO {g : Gd} {h : AHeap} {F : List Ck} {p0 : S_tree_Node} {p1 : List (List UInt8)} {rp1 : Option Nat} {q0 : List UInt8} {av : List AVal} (hm : M_tree_text_sRO p0 p1 = some q0) (hc : canL (cfg.still 23) av = [.agg (e_S_tree_Node p0), rowV rp1 p1.length]) (A : HH g h [.lst rp1 9 (lst eS p1)] F) : ∃ v h', Runs cfg g h 23 av v h' ∧ v = .str q0 ∧ HH g h' [.lst rp1 9 (lst eS p1)] F := by
 refine runsQ1 (n := 110) (rs := [.tmp 4]) (by kernel_rfl) hc (by kernel_rfl) ?_
 clear hc
 unfold M_tree_text_sRO at hm
 refine start (n := 110) [(0, .agg (e_S_tree_Node p0)), (1, rowV rp1 p1.length)] (by kernel_rfl) (by kernel_rfl) ?_
 intro fr H
 refine aw_seq (by kernel_rfl) ?_
 refine aw_reg (id := 0) (n := 2) [(0, []), (1, [])] (by kernel_rfl) (by kernel_rfl) ?_
 obtain ⟨h1, e1⟩ : ∃ x, x = h.push (.cells none 2 (e_S_tree_Node p0)) := ⟨_, rfl⟩
 replace A := (A.push _).to e1
 refine at_step (v := .ptr (some (h.size, 0))) (h1 := h1) [(1, rowV rp1 p1.length), (2, .ptr (some (h.size, 0)))] H (fun fr => by kernel_rfl) (fun fr => .of (s_n' (by kernel_rfl) (congrArg some e1.symm))) ?_
 intro fr t H
 refine at_seg [(1, [])] [(1, rowV rp1 p1.length), (2, .ptr (some (h.size, 0)))] H (noU_all rfl) (fun fr => by kernel_rfl) ?_
 intro fr H
 refine at_nil ?_
 show AW cfg 23 g (right (bodyC cfg.P 23)) fr h1 _
 refine aw_seq (by kernel_rfl) ?_
 refine aw_seq (by kernel_rfl) ?_
 refine aw_reg (id := 1) (n := 2) [(0, []), (1, [])] (by kernel_rfl) (by kernel_rfl) ?_
 refine at_seg [(0, [])] [(1, rowV rp1 p1.length), (2, .ptr (some (h.size, 0))), (9, .ptr (some (h.size, 0)))] H (noU_all rfl) (fun fr => by kernel_rfl) ?_
 intro fr H
 refine at_step (v := .int .i64 p0.Kind) (h1 := h1) [(1, rowV rp1 p1.length), (2, .ptr (some (h.size, 0))), (10, .int .i64 p0.Kind)] H (fun fr => by kernel_rfl) (fun fr => .of (s_ld (by kernel_rfl) (A.ld1 0 rfl (o := 0) rfl))) ?_
 intro fr t H
 refine at_nil ?_
 show AW cfg 23 g (right (left (right (bodyC cfg.P 23)))) fr h1 _
 refine aw_block (id := 0) (by kernel_rfl) ?_
 refine aw_seq (by kernel_rfl) ?_
 refine aw_reg (id := 2) (n := 2) [(0, []), (1, [])] (by kernel_rfl) (by kernel_rfl) ?_
 refine at_seg [(0, []), (1, [])] [(1, rowV rp1 p1.length), (2, .ptr (some (h.size, 0))), (10, .int .i64 p0.Kind), (11, .bool (p0.Kind == (0 : Int)))] H (noU_all rfl) (fun fr => by kernel_rfl) ?_
 intro fr H
 refine at_nil ?_
 show AW cfg 23 g (right (left (right (left (right (bodyC cfg.P 23)))))) fr h1 _
 rcases iteB_some hm with ⟨hb, hm⟩ | ⟨hb, hm⟩
 ·replace H := H.know 11 hb (by kernel_rfl)
  refine aw_true (x := .tmp 11) (by kernel_rfl) H (fun fr => by kernel_rfl) ?_
  refine aw_seq (by kernel_rfl) ?_
  refine aw_reg (id := 3) (n := 1) [(0, [])] (by kernel_rfl) (by kernel_rfl) ?_
  refine at_seg [(0, [])] [(4, .str ([101] : List UInt8))] H (noU_all rfl) (fun fr => by kernel_rfl) ?_
  intro fr H
  refine at_nil ?_
  show AW cfg 23 g (right (left (right (left (right (left (right (bodyC cfg.P 23)))))))) fr h1 _
  refine aw_ret (by kernel_rfl) ?_
  have e1 := Option.some.inj hm
  subst e1
  refine ⟨.inl rfl, .str ([101] : List UInt8), resH H (fun fr => by kernel_rfl), ?_⟩
  replace A : HH g h1 [.lst rp1 9 (lst eS p1)] F := (HH.dropF (A.front 1 rfl) 1)
  exact ⟨rfl, A⟩
 ·replace H := H.know 11 hb (by kernel_rfl)
  refine aw_false (x := .tmp 11) (by kernel_rfl) H (fun fr => by kernel_rfl) ?_
  refine aw_seq (by kernel_rfl) ?_
  refine aw_reg (id := 4) (n := 2) [(0, []), (1, [])] (by kernel_rfl) (by kernel_rfl) ?_
  refine at_seg [(0, []), (1, [])] [(1, rowV rp1 p1.length), (2, .ptr (some (h.size, 0))), (10, .int .i64 p0.Kind), (13, .bool (p0.Kind == (1 : Int)))] H (noU_all rfl) (fun fr => by kernel_rfl) ?_
  intro fr H
  refine at_nil ?_
  show AW cfg 23 g (right (right (right (left (right (left (right (bodyC cfg.P 23)))))))) fr h1 _
  rcases iteB_some hm with ⟨hb, hm⟩ | ⟨hb, hm⟩
  ·replace H := H.know 13 hb (by kernel_rfl)
   refine aw_true (x := .tmp 13) (by kernel_rfl) H (fun fr => by kernel_rfl) ?_
   refine aw_seq (by kernel_rfl) ?_
   refine aw_reg (id := 5) (n := 2) [(0, []), (1, [])] (by kernel_rfl) (by kernel_rfl) ?_
   obtain ⟨h2, e2⟩ : ∃ x, x = h1.push (.cells (some 5) 2 [.int .u8 (91 : Int)]) := ⟨_, rfl⟩
   replace A := (A.pushL _ _).to e2
   refine at_step (v := rowV (some h1.size) (([(91 : UInt8)] : List UInt8).length)) (h1 := h2) [(2, .ptr (some (h.size, 0))), (15, rowV (some h1.size) (([(91 : UInt8)] : List UInt8).length))] H (fun fr => by kernel_rfl) (fun fr => .of (s_n' (by kernel_rfl) (congrArg some e2.symm))) ?_
   intro fr t H
   refine at_seg [(1, [])] [(2, .ptr (some (h.size, 0))), (5, rowV (some h1.size) (([(91 : UInt8)] : List UInt8).length))] H (noU_all rfl) (fun fr => by kernel_rfl) ?_
   intro fr H
   refine at_nil ?_
   show AW cfg 23 g (right (left (right (right (right (left (right (left (right (bodyC cfg.P 23)))))))))) fr h2 _
   refine aw_seq (by kernel_rfl) ?_
   refine aw_seq (by kernel_rfl) ?_
   refine aw_reg (id := 6) (n := 6) [(0, []), (1, []), (2, []), (3, []), (4, []), (5, [])] (by kernel_rfl) (by kernel_rfl) ?_
   refine at_seg [(0, [])] [(5, rowV (some h1.size) (([(91 : UInt8)] : List UInt8).length)), (16, .ptr (some (h.size, 6)))] H (noU_all rfl) (fun fr => by kernel_rfl) ?_
   intro fr H
   refine at_step (v := .agg [.int .u64 p0.Set.w0, .int .u64 p0.Set.w1, .int .u64 p0.Set.w2, .int .u64 p0.Set.w3]) (h1 := h2) [(5, rowV (some h1.size) (([(91 : UInt8)] : List UInt8).length)), (17, .agg [.int .u64 p0.Set.w0, .int .u64 p0.Set.w1, .int .u64 p0.Set.w2, .int .u64 p0.Set.w3])] H (fun fr => by kernel_rfl) (fun fr => .of (s_ldA (by kernel_rfl) (A.ldA 1 rfl (o := 6) (n := 4) ⟨Nat.le_of_ble_eq_true rfl, rfl⟩))) ?_
   intro fr t H
   have A1 := A.cut 0
   obtain ⟨x1, hx, hm⟩ := bind_some hm
   obtain ⟨v1, h3, hr, rfl, A1⟩ := ok_class_Set_Bytes (av := [.agg [.int .u64 p0.Set.w0, .int .u64 p0.Set.w1, .int .u64 p0.Set.w2, .int .u64 p0.Set.w3]]) hx (by kernel_rfl) A1
   replace A : HH g h3 [.lst (some h1.size) 5 ([.int .u8 (91 : Int)]), .obj h.size (.cells none 2 (e_S_tree_Node p0)), .lst rp1 9 (lst eS p1)] F := A.glue0 (n := 0) A1
   refine at_step (v := .str x1) (h1 := h3) [(5, rowV (some h1.size) (([(91 : UInt8)] : List UInt8).length)), (18, .str x1)] H (fun fr => by kernel_rfl) (fun fr => Steps.call (by kernel_rfl) hr) ?_
   intro fr t H
   obtain ⟨hb, hm⟩ := need_some hm
   obtain ⟨h4, e3⟩ : ∃ x, x = h3.push (.cells (some 5) 2 (x1.map fun b => .int .u8 b.toNat)) := ⟨_, rfl⟩
   replace A : HH g h4 [.lst (some h3.size) 5 (lst eY x1), .lst (some h1.size) 5 ([.int .u8 (91 : Int)]), .obj h.size (.cells none 2 (e_S_tree_Node p0)), .lst rp1 9 (lst eS p1)] F := by rw [← map_eY]; exact (A.pushL _ _).to e3
   refine at_step (v := rowV (some h3.size) x1.length) (h1 := h4) [(5, rowV (some h1.size) (([(91 : UInt8)] : List UInt8).length)), (19, rowV (some h3.size) x1.length)] H (fun fr => by kernel_rfl) (fun fr => .of (s_toB (by kernel_rfl) hb (congrArg some e3.symm))) ?_
   intro fr t H
   refine at_seg [(4, []), (5, [])] [(5, rowV (some h1.size) (([(91 : UInt8)] : List UInt8).length)), (19, rowV (some h3.size) x1.length), (20, .int .i64 (x1.length : Int)), (21, .int .i64 (0 : Int))] H (noU_all rfl) (fun fr => by kernel_rfl) ?_
   intro fr H
   refine at_nil ?_
   show AW cfg 23 g (right (left (right (left (right (right (right (left (right (left (right (bodyC cfg.P 23)))))))))))) fr h4 _
   refine aw_block (id := 1) (by kernel_rfl) ?_
   replace A : HH g h4 [.lst (some h3.size) 5 (lst eY x1), .lst (some h1.size) 5 (lst eY ([(91 : UInt8)] : List UInt8)), .obj h.size (.cells none 2 (e_S_tree_Node p0)), .lst rp1 9 (lst eS p1)] F := A
   obtain ⟨o1, ho, hm⟩ := bind_some hm
   refine aw_mono (Q' := fun e fr' h' => (∃ (x4 : List UInt8), e = .exit 1 ∧ x4 = o1 ∧ ∃ (r2 : Option Nat), Has fr' 110 [(5, rowV r2 x4.length)] ∧ HH g h' [.lst r2 5 (lst eY x4), .obj h.size (.cells none 2 (e_S_tree_Node p0)), .lst rp1 9 (lst eS p1)] F) ∨ False) ?_ ?_
   ·refine aw_loop (by kernel_rfl) (fun (s : (List UInt8) × Int) fr' h' => ∃ (x2 : List UInt8) (x3 : Int), (x2, x3) = s ∧ ∃ (r1 : Option Nat), Has fr' 110 [(5, rowV r1 x2.length), (19, rowV (some h3.size) x1.length), (20, .int .i64 (x1.length : Int)), (21, .int .i64 x3)] ∧ HH g h' [.lst (some h3.size) 5 (lst eY x1), .lst r1 5 (lst eY x2), .obj h.size (.cells none 2 (e_S_tree_Node p0)), .lst rp1 9 (lst eS p1)] F) ho ⟨([(91 : UInt8)] : List UInt8), (0 : Int), rfl, some h1.size, H.less _ (fun fr => by kernel_rfl), A⟩ ?_
    clear ho hm H A
    intro s q fr h5 hI hm
    obtain ⟨x2, x3, rfl, r1, H, A⟩ := hI
    unfold M_tree_text_sRO_L0 at hm
    refine aw_seq (by kernel_rfl) ?_
    refine aw_reg (id := 7) (n := 1) [(0, [])] (by kernel_rfl) (by kernel_rfl) ?_
    refine at_seg [(0, [])] [(5, rowV r1 x2.length), (19, rowV (some h3.size) x1.length), (20, .int .i64 (x1.length : Int)), (21, .int .i64 x3), (22, .bool (decide (x3 < (x1.length : Int))))] H (noU_all rfl) (fun fr => by kernel_rfl) ?_
    intro fr H
    refine at_nil ?_
    show AW cfg 23 g (right (left (left (right (left (right (left (right (right (right (left (right (left (right (bodyC cfg.P 23))))))))))))))) fr h5 _
    refine aw_seq (by kernel_rfl) ?_
    rcases iteB_some hm with ⟨hb, hm⟩ | ⟨hb, hm⟩
    ·replace H := H.know 22 hb (by kernel_rfl)
     refine aw_true (x := .tmp 22) (by kernel_rfl) H (fun fr => by kernel_rfl) ?_
     refine aw_skip (by kernel_rfl) ?_
     show AW cfg 23 g (right (right (left (left (right (left (right (left (right (right (right (left (right (left (right (bodyC cfg.P 23)))))))))))))))) fr h5 _
     refine aw_seq (by kernel_rfl) ?_
     refine aw_block (id := 2) (by kernel_rfl) ?_
     refine aw_seq (by kernel_rfl) ?_
     refine aw_reg (id := 8) (n := 3) [(0, []), (1, []), (2, [])] (by kernel_rfl) (by kernel_rfl) ?_
     obtain ⟨x5, hx, hm⟩ := bind_some hm
     obtain ⟨i1, er1, _, hx, hq1⟩ := HH.ixO encY (by decide) A 0 (xs := x1) rfl hx
     refine at_step (v := .ptr (some (i1, x3.toNat * 1))) (h1 := h5) [(5, rowV r1 x2.length), (19, rowV (some h3.size) x1.length), (20, .int .i64 (x1.length : Int)), (21, .int .i64 x3), (23, .ptr (some (i1, x3.toNat * 1)))] H (fun fr => by kernel_rfl) (fun fr => .of (s_ixL (s := rowS (some h3.size) x1.length) (by kernel_rfl) hx)) ?_
     intro fr t H
     refine at_step (v := .int .u8 (x5.toNat : Int)) (h1 := h5) [(5, rowV r1 x2.length), (19, rowV (some h3.size) x1.length), (20, .int .i64 (x1.length : Int)), (21, .int .i64 x3), (24, .int .u8 (x5.toNat : Int))] H (fun fr => by kernel_rfl) (fun fr => .of (s_ld (by kernel_rfl) (row_ld1 encY (HH.row A 0 rfl er1) hq1 (o := 0) rfl))) ?_
     intro fr t H
     refine at_seg [(2, [])] [(5, rowV r1 x2.length), (7, .int .u8 (x5.toNat : Int)), (19, rowV (some h3.size) x1.length), (20, .int .i64 (x1.length : Int)), (21, .int .i64 x3)] H (noU_all rfl) (fun fr => by kernel_rfl) ?_
     intro fr H
     refine at_nil ?_
     show AW cfg 23 g (right (left (left (right (right (left (left (right (left (right (left (right (right (right (left (right (left (right (bodyC cfg.P 23))))))))))))))))))) fr h5 _
     refine aw_draw (id := 9) (n := 10) (by kernel_rfl) [(0, []), (1, []), (2, []), (3, []), (4, []), (5, []), (6, []), (7, []), (8, []), (9, [])] (by kernel_rfl) ?_
     refine at_seg [(0, []), (1, []), (2, [])] [(7, .int .u8 (x5.toNat : Int)), (19, rowV (some h3.size) x1.length), (20, .int .i64 (x1.length : Int)), (21, .int .i64 x3), (25, rowV r1 x2.length), (27, .int .u8 (bShr .u8 (x5.toNat : Int) (4 : Int)))] H (noU_all rfl) (fun fr => by kernel_rfl) ?_
     intro fr H
     obtain ⟨x6, hx, hm⟩ := bind_some hm
     refine at_step (v := .int .u8 x6) (h1 := h5) [(7, .int .u8 (x5.toNat : Int)), (19, rowV (some h3.size) x1.length), (20, .int .i64 (x1.length : Int)), (21, .int .i64 x3), (25, rowV r1 x2.length), (28, .int .u8 x6)] H (fun fr => by kernel_rfl) (fun fr => .of (s_ixS (by kernel_rfl) hx)) ?_
     intro fr t H
     refine at_seg [(4, []), (5, [])] [(19, rowV (some h3.size) x1.length), (20, .int .i64 (x1.length : Int)), (21, .int .i64 x3), (25, rowV r1 x2.length), (28, .int .u8 x6), (30, .int .u8 (bAnd .u8 (x5.toNat : Int) (15 : Int)))] H (noU_all rfl) (fun fr => by kernel_rfl) ?_
     intro fr H
     obtain ⟨x7, hx, hm⟩ := bind_some hm
     refine at_step (v := .int .u8 x7) (h1 := h5) [(19, rowV (some h3.size) x1.length), (20, .int .i64 (x1.length : Int)), (21, .int .i64 x3), (25, rowV r1 x2.length), (28, .int .u8 x6), (31, .int .u8 x7)] H (fun fr => by kernel_rfl) (fun fr => .of (s_ixS (by kernel_rfl) hx)) ?_
     intro fr t H
     obtain ⟨x8, hx, hm⟩ := bind_some hm
     have hx := toY_eq hx
     have kH := hm
     have kA := A
     have kR := H
     subst hx
     have hm := kH
     have A := kA
     have H := kR
     clear kH kA kR
     obtain ⟨x9, hx, hm⟩ := bind_some hm
     have hx := toY_eq hx
     have kH := hm
     have kA := A
     have kR := H
     subst hx
     have hm := kH
     have A := kA
     have H := kR
     clear kH kA kR
     obtain ⟨h6, e4⟩ : ∃ x, x = h5.push (.cells (some 5) 2 [.int .u8 (x8.toNat : Int), .int .u8 (x9.toNat : Int)]) := ⟨_, rfl⟩
     replace A := (A.pushL _ _).to e4
     refine at_step (v := rowV (some h5.size) (([x8, x9] : List UInt8).length)) (h1 := h6) [(19, rowV (some h3.size) x1.length), (20, .int .i64 (x1.length : Int)), (21, .int .i64 x3), (25, rowV r1 x2.length), (32, rowV (some h5.size) (([x8, x9] : List UInt8).length))] H (fun fr => by kernel_rfl) (fun fr => .of (s_n' (by kernel_rfl) (congrArg some e4.symm))) ?_
     intro fr t H
     obtain ⟨hb, hm⟩ := need_some hm
     obtain ⟨r3, h7, hx, A1⟩ := HH.appO encY (by decide) A 2 (xs := x2) (ys := ([x8, x9] : List UInt8)) rfl (row_first A 0 rfl (n := ([x8, x9] : List UInt8).length) (z := 1) rfl (by decide)) rfl rfl hb
     replace A : HH g h7 [.lst (some h5.size) 5 ([.int .u8 (x8.toNat : Int), .int .u8 (x9.toNat : Int)]), .lst (some h3.size) 5 (lst eY x1), .lst r3 5 (lst eY (x2 ++ ([x8, x9] : List UInt8))), .obj h.size (.cells none 2 (e_S_tree_Node p0)), .lst rp1 9 (lst eS p1)] F := A1
     replace A : HH g h7 [.lst (some h3.size) 5 (lst eY x1), .lst r3 5 (lst eY (x2 ++ ([x8, x9] : List UInt8))), .obj h.size (.cells none 2 (e_S_tree_Node p0)), .lst rp1 9 (lst eS p1)] F := (HH.dropF ((((A.front 4 rfl).front 4 rfl).front 4 rfl).front 4 rfl) 4)
     refine at_step (v := rowV r3 ((x2 ++ ([x8, x9] : List UInt8)).length)) (h1 := h7) [(19, rowV (some h3.size) x1.length), (20, .int .i64 (x1.length : Int)), (21, .int .i64 x3), (33, rowV r3 ((x2 ++ ([x8, x9] : List UInt8)).length))] H (fun fr => by kernel_rfl) (fun fr => .of (s_app (s := rowS r1 x2.length) (by kernel_rfl) hx)) ?_
     intro fr t H
     refine at_seg [(9, [])] [(5, rowV r3 ((x2 ++ ([x8, x9] : List UInt8)).length)), (19, rowV (some h3.size) x1.length), (20, .int .i64 (x1.length : Int)), (21, .int .i64 x3)] H (noU_all rfl) (fun fr => by kernel_rfl) ?_
     intro fr H
     refine at_nil ?_
     show AW cfg 23 g (right (right (right (left (left (right (left (right (left (right (right (right (left (right (left (right (bodyC cfg.P 23))))))))))))))))) fr h7 _
     refine aw_reg (id := 10) (n := 2) [(0, []), (1, [])] (by kernel_rfl) (by kernel_rfl) ?_
     refine at_seg [(0, []), (1, [])] [(5, rowV r3 ((x2 ++ ([x8, x9] : List UInt8)).length)), (19, rowV (some h3.size) x1.length), (20, .int .i64 (x1.length : Int)), (21, .int .i64 (IntKind.i64.wrap (x3 + (1 : Int))))] H (noU_all rfl) (fun fr => by kernel_rfl) ?_
     intro fr H
     refine at_nil ?_
     exact Exists.intro ((x2 ++ ([x8, x9] : List UInt8)), IntKind.i64.wrap (x3 + (1 : Int))) (And.intro (Option.some.inj hm).symm ⟨(x2 ++ ([x8, x9] : List UInt8)), IntKind.i64.wrap (x3 + (1 : Int)), rfl, r3, H.less _ (fun fr => by kernel_rfl), A⟩)
    ·replace H := H.know 22 hb (by kernel_rfl)
     refine aw_false (x := .tmp 22) (by kernel_rfl) H (fun fr => by kernel_rfl) ?_
     refine aw_exit (i := 1) (by kernel_rfl) ?_
     replace A : HH g h5 [.lst r1 5 (lst eY x2), .obj h.size (.cells none 2 (e_S_tree_Node p0)), .lst rp1 9 (lst eS p1)] F := (HH.dropF (((A.front 3 rfl).front 3 rfl).front 3 rfl) 3)
     exact Exists.intro _ (And.intro (Option.some.inj hm).symm (fun e => Or.inl ⟨x2, rfl, e, r1, H.less _ (fun fr => by kernel_rfl), A⟩))
   ·clear ho
    clear A
    intro e fr h8 hQ
    rcases hQ with ⟨x4, rfl, rfl, r2, H, A⟩ | hF
    ·skip
     show AW cfg 23 g (right (right (left (right (right (right (left (right (left (right (bodyC cfg.P 23))))))))))) fr h8 _
     refine aw_seq (by kernel_rfl) ?_
     refine aw_reg (id := 11) (n := 5) [(0, []), (1, []), (2, []), (3, []), (4, [])] (by kernel_rfl) (by kernel_rfl) ?_
     refine at_seg [(0, [])] [(35, rowV r2 x4.length)] H (noU_all rfl) (fun fr => by kernel_rfl) ?_
     intro fr H
     obtain ⟨h9, e5⟩ : ∃ x, x = h8.push (.cells (some 5) 2 [.int .u8 (93 : Int)]) := ⟨_, rfl⟩
     replace A := (A.pushL _ _).to e5
     refine at_step (v := rowV (some h8.size) (([(93 : UInt8)] : List UInt8).length)) (h1 := h9) [(35, rowV r2 x4.length), (36, rowV (some h8.size) (([(93 : UInt8)] : List UInt8).length))] H (fun fr => by kernel_rfl) (fun fr => .of (s_n' (by kernel_rfl) (congrArg some e5.symm))) ?_
     intro fr t H
     obtain ⟨hb, hm⟩ := need_some hm
     obtain ⟨r4, h10, hx, A1⟩ := HH.appO encY (by decide) A 1 (xs := x4) (ys := ([(93 : UInt8)] : List UInt8)) rfl (row_first A 0 rfl (n := ([(93 : UInt8)] : List UInt8).length) (z := 1) rfl (by decide)) rfl rfl hb
     replace A : HH g h10 [.lst (some h8.size) 5 ([.int .u8 (93 : Int)]), .lst r4 5 (lst eY (x4 ++ ([(93 : UInt8)] : List UInt8))), .obj h.size (.cells none 2 (e_S_tree_Node p0)), .lst rp1 9 (lst eS p1)] F := A1
     replace A : HH g h10 [.lst r4 5 (lst eY (x4 ++ ([(93 : UInt8)] : List UInt8))), .obj h.size (.cells none 2 (e_S_tree_Node p0)), .lst rp1 9 (lst eS p1)] F := (HH.dropF (((A.front 3 rfl).front 3 rfl).front 3 rfl) 3)
     refine at_step (v := rowV r4 ((x4 ++ ([(93 : UInt8)] : List UInt8)).length)) (h1 := h10) [(37, rowV r4 ((x4 ++ ([(93 : UInt8)] : List UInt8)).length))] H (fun fr => by kernel_rfl) (fun fr => .of (s_app (s := rowS r2 x4.length) (by kernel_rfl) hx)) ?_
     intro fr t H
     refine at_step (v := .str (x4 ++ ([(93 : UInt8)] : List UInt8))) (h1 := h10) [(38, .str (x4 ++ ([(93 : UInt8)] : List UInt8)))] H (fun fr => by kernel_rfl) (fun fr => .of (s_byO (xs := (x4 ++ ([(93 : UInt8)] : List UInt8))) A 0 rfl (by kernel_rfl))) ?_
     intro fr t H
     refine at_seg [(4, [])] [(4, .str (x4 ++ ([(93 : UInt8)] : List UInt8)))] H (noU_all rfl) (fun fr => by kernel_rfl) ?_
     intro fr H
     refine at_nil ?_
     show AW cfg 23 g (right (right (right (left (right (right (right (left (right (left (right (bodyC cfg.P 23)))))))))))) fr h10 _
     refine aw_ret (by kernel_rfl) ?_
     have e1 := Option.some.inj hm
     subst e1
     refine ⟨.inl rfl, .str (x4 ++ ([(93 : UInt8)] : List UInt8)), resH H (fun fr => by kernel_rfl), ?_⟩
     replace A : HH g h10 [.lst rp1 9 (lst eS p1)] F := (HH.dropF (A.front 2 rfl) 1)
     exact ⟨rfl, A⟩
    ·exact hF.elim
  ·replace H := H.know 13 hb (by kernel_rfl)
   refine aw_false (x := .tmp 13) (by kernel_rfl) H (fun fr => by kernel_rfl) ?_
   refine aw_seq (by kernel_rfl) ?_
   refine aw_reg (id := 12) (n := 2) [(0, []), (1, [])] (by kernel_rfl) (by kernel_rfl) ?_
   refine at_seg [(0, []), (1, [])] [(1, rowV rp1 p1.length), (2, .ptr (some (h.size, 0))), (10, .int .i64 p0.Kind), (39, .bool (p0.Kind == (2 : Int)))] H (noU_all rfl) (fun fr => by kernel_rfl) ?_
   intro fr H
   refine at_nil ?_
   show AW cfg 23 g (right (right (right (right (right (left (right (left (right (bodyC cfg.P 23)))))))))) fr h1 _
   rcases iteB_some hm with ⟨hb, hm⟩ | ⟨hb, hm⟩
   ·replace H := H.know 39 hb (by kernel_rfl)
    refine aw_true (x := .tmp 39) (by kernel_rfl) H (fun fr => by kernel_rfl) ?_
    refine aw_seq (by kernel_rfl) ?_
    refine aw_draw (id := 13) (n := 15) (by kernel_rfl) [(0, []), (1, []), (2, []), (3, []), (4, []), (5, []), (6, []), (7, []), (8, []), (9, []), (10, []), (11, []), (12, []), (13, []), (14, [])] (by kernel_rfl) ?_
    refine at_seg [(0, []), (1, [])] [(1, rowV rp1 p1.length), (2, .ptr (some (h.size, 0))), (41, rowV rp1 p1.length), (42, .ptr (some (h.size, 1)))] H (noU_all rfl) (fun fr => by kernel_rfl) ?_
    intro fr H
    refine at_step (v := .int .i64 p0.A) (h1 := h1) [(1, rowV rp1 p1.length), (2, .ptr (some (h.size, 0))), (41, rowV rp1 p1.length), (43, .int .i64 p0.A)] H (fun fr => by kernel_rfl) (fun fr => .of (s_ld (by kernel_rfl) (A.ld1 0 rfl (o := 1) rfl))) ?_
    intro fr t H
    obtain ⟨x10, hx, hm⟩ := bind_some hm
    obtain ⟨i2, er2, _, hx, hq2⟩ := HH.ixO encS (by decide) A 1 (xs := p1) rfl hx
    refine at_step (v := .ptr (some (i2, p0.A.toNat * 1))) (h1 := h1) [(1, rowV rp1 p1.length), (2, .ptr (some (h.size, 0))), (44, .ptr (some (i2, p0.A.toNat * 1)))] H (fun fr => by kernel_rfl) (fun fr => .of (s_ixL (s := rowS rp1 p1.length) (by kernel_rfl) hx)) ?_
    intro fr t H
    refine at_step (v := .str x10) (h1 := h1) [(1, rowV rp1 p1.length), (2, .ptr (some (h.size, 0))), (45, .str x10)] H (fun fr => by kernel_rfl) (fun fr => .of (s_ld (by kernel_rfl) (row_ld1 encS (HH.row A 1 rfl er2) hq2 (o := 0) rfl))) ?_
    intro fr t H
    obtain ⟨hb, hm⟩ := need_some hm
    refine at_step (v := .str (([40] : List UInt8) ++ x10)) (h1 := h1) [(1, rowV rp1 p1.length), (2, .ptr (some (h.size, 0))), (46, .str (([40] : List UInt8) ++ x10))] H (fun fr => by kernel_rfl) (fun fr => .of (s_cat (by kernel_rfl) hb)) ?_
    intro fr t H
    obtain ⟨hb, hm⟩ := need_some hm
    refine at_step (v := .str ((([40] : List UInt8) ++ x10) ++ ([46] : List UInt8))) (h1 := h1) [(1, rowV rp1 p1.length), (2, .ptr (some (h.size, 0))), (47, .str ((([40] : List UInt8) ++ x10) ++ ([46] : List UInt8)))] H (fun fr => by kernel_rfl) (fun fr => .of (s_cat (by kernel_rfl) hb)) ?_
    intro fr t H
    refine at_seg [(7, []), (8, [])] [(47, .str ((([40] : List UInt8) ++ x10) ++ ([46] : List UInt8))), (48, rowV rp1 p1.length), (49, .ptr (some (h.size, 2)))] H (noU_all rfl) (fun fr => by kernel_rfl) ?_
    intro fr H
    refine at_step (v := .int .i64 p0.B) (h1 := h1) [(47, .str ((([40] : List UInt8) ++ x10) ++ ([46] : List UInt8))), (48, rowV rp1 p1.length), (50, .int .i64 p0.B)] H (fun fr => by kernel_rfl) (fun fr => .of (s_ld (by kernel_rfl) (A.ld1 0 rfl (o := 2) rfl))) ?_
    intro fr t H
    obtain ⟨x11, hx, hm⟩ := bind_some hm
    obtain ⟨i3, er3, _, hx, hq3⟩ := HH.ixO encS (by decide) A 1 (xs := p1) rfl hx
    refine at_step (v := .ptr (some (i3, p0.B.toNat * 1))) (h1 := h1) [(47, .str ((([40] : List UInt8) ++ x10) ++ ([46] : List UInt8))), (51, .ptr (some (i3, p0.B.toNat * 1)))] H (fun fr => by kernel_rfl) (fun fr => .of (s_ixL (s := rowS rp1 p1.length) (by kernel_rfl) hx)) ?_
    intro fr t H
    refine at_step (v := .str x11) (h1 := h1) [(47, .str ((([40] : List UInt8) ++ x10) ++ ([46] : List UInt8))), (52, .str x11)] H (fun fr => by kernel_rfl) (fun fr => .of (s_ld (by kernel_rfl) (row_ld1 encS (HH.row A 1 rfl er3) hq3 (o := 0) rfl))) ?_
    intro fr t H
    obtain ⟨hb, hm⟩ := need_some hm
    refine at_step (v := .str (((([40] : List UInt8) ++ x10) ++ ([46] : List UInt8)) ++ x11)) (h1 := h1) [(53, .str (((([40] : List UInt8) ++ x10) ++ ([46] : List UInt8)) ++ x11))] H (fun fr => by kernel_rfl) (fun fr => .of (s_cat (by kernel_rfl) hb)) ?_
    intro fr t H
    obtain ⟨hb, hm⟩ := need_some hm
    refine at_step (v := .str ((((([40] : List UInt8) ++ x10) ++ ([46] : List UInt8)) ++ x11) ++ ([41] : List UInt8))) (h1 := h1) [(54, .str ((((([40] : List UInt8) ++ x10) ++ ([46] : List UInt8)) ++ x11) ++ ([41] : List UInt8)))] H (fun fr => by kernel_rfl) (fun fr => .of (s_cat (by kernel_rfl) hb)) ?_
    intro fr t H
    refine at_seg [(14, [])] [(4, .str ((((([40] : List UInt8) ++ x10) ++ ([46] : List UInt8)) ++ x11) ++ ([41] : List UInt8)))] H (noU_all rfl) (fun fr => by kernel_rfl) ?_
    intro fr H
    refine at_nil ?_
    show AW cfg 23 g (right (left (right (right (right (right (right (left (right (left (right (bodyC cfg.P 23)))))))))))) fr h1 _
    refine aw_ret (by kernel_rfl) ?_
    have e1 := Option.some.inj hm
    subst e1
    refine ⟨.inl rfl, .str ((((([40] : List UInt8) ++ x10) ++ ([46] : List UInt8)) ++ x11) ++ ([41] : List UInt8)), resH H (fun fr => by kernel_rfl), ?_⟩
    replace A : HH g h1 [.lst rp1 9 (lst eS p1)] F := (HH.dropF (A.front 1 rfl) 1)
    exact ⟨rfl, A⟩
   ·replace H := H.know 39 hb (by kernel_rfl)
    refine aw_false (x := .tmp 39) (by kernel_rfl) H (fun fr => by kernel_rfl) ?_
    refine aw_seq (by kernel_rfl) ?_
    refine aw_reg (id := 14) (n := 2) [(0, []), (1, [])] (by kernel_rfl) (by kernel_rfl) ?_
    refine at_seg [(0, []), (1, [])] [(1, rowV rp1 p1.length), (2, .ptr (some (h.size, 0))), (10, .int .i64 p0.Kind), (55, .bool (p0.Kind == (3 : Int)))] H (noU_all rfl) (fun fr => by kernel_rfl) ?_
    intro fr H
    refine at_nil ?_
    show AW cfg 23 g (right (right (right (right (right (right (right (left (right (left (right (bodyC cfg.P 23)))))))))))) fr h1 _
    rcases iteB_some hm with ⟨hb, hm⟩ | ⟨hb, hm⟩
    ·replace H := H.know 55 hb (by kernel_rfl)
     refine aw_true (x := .tmp 55) (by kernel_rfl) H (fun fr => by kernel_rfl) ?_
     refine aw_seq (by kernel_rfl) ?_
     refine aw_draw (id := 15) (n := 15) (by kernel_rfl) [(0, []), (1, []), (2, []), (3, []), (4, []), (5, []), (6, []), (7, []), (8, []), (9, []), (10, []), (11, []), (12, []), (13, []), (14, [])] (by kernel_rfl) ?_
     refine at_seg [(0, []), (1, [])] [(1, rowV rp1 p1.length), (2, .ptr (some (h.size, 0))), (57, rowV rp1 p1.length), (58, .ptr (some (h.size, 1)))] H (noU_all rfl) (fun fr => by kernel_rfl) ?_
     intro fr H
     refine at_step (v := .int .i64 p0.A) (h1 := h1) [(1, rowV rp1 p1.length), (2, .ptr (some (h.size, 0))), (57, rowV rp1 p1.length), (59, .int .i64 p0.A)] H (fun fr => by kernel_rfl) (fun fr => .of (s_ld (by kernel_rfl) (A.ld1 0 rfl (o := 1) rfl))) ?_
     intro fr t H
     obtain ⟨x12, hx, hm⟩ := bind_some hm
     obtain ⟨i4, er4, _, hx, hq4⟩ := HH.ixO encS (by decide) A 1 (xs := p1) rfl hx
     refine at_step (v := .ptr (some (i4, p0.A.toNat * 1))) (h1 := h1) [(1, rowV rp1 p1.length), (2, .ptr (some (h.size, 0))), (60, .ptr (some (i4, p0.A.toNat * 1)))] H (fun fr => by kernel_rfl) (fun fr => .of (s_ixL (s := rowS rp1 p1.length) (by kernel_rfl) hx)) ?_
     intro fr t H
     refine at_step (v := .str x12) (h1 := h1) [(1, rowV rp1 p1.length), (2, .ptr (some (h.size, 0))), (61, .str x12)] H (fun fr => by kernel_rfl) (fun fr => .of (s_ld (by kernel_rfl) (row_ld1 encS (HH.row A 1 rfl er4) hq4 (o := 0) rfl))) ?_
     intro fr t H
     obtain ⟨hb, hm⟩ := need_some hm
     refine at_step (v := .str (([40] : List UInt8) ++ x12)) (h1 := h1) [(1, rowV rp1 p1.length), (2, .ptr (some (h.size, 0))), (62, .str (([40] : List UInt8) ++ x12))] H (fun fr => by kernel_rfl) (fun fr => .of (s_cat (by kernel_rfl) hb)) ?_
     intro fr t H
     obtain ⟨hb, hm⟩ := need_some hm
     refine at_step (v := .str ((([40] : List UInt8) ++ x12) ++ ([124] : List UInt8))) (h1 := h1) [(1, rowV rp1 p1.length), (2, .ptr (some (h.size, 0))), (63, .str ((([40] : List UInt8) ++ x12) ++ ([124] : List UInt8)))] H (fun fr => by kernel_rfl) (fun fr => .of (s_cat (by kernel_rfl) hb)) ?_
     intro fr t H
     refine at_seg [(7, []), (8, [])] [(63, .str ((([40] : List UInt8) ++ x12) ++ ([124] : List UInt8))), (64, rowV rp1 p1.length), (65, .ptr (some (h.size, 2)))] H (noU_all rfl) (fun fr => by kernel_rfl) ?_
     intro fr H
     refine at_step (v := .int .i64 p0.B) (h1 := h1) [(63, .str ((([40] : List UInt8) ++ x12) ++ ([124] : List UInt8))), (64, rowV rp1 p1.length), (66, .int .i64 p0.B)] H (fun fr => by kernel_rfl) (fun fr => .of (s_ld (by kernel_rfl) (A.ld1 0 rfl (o := 2) rfl))) ?_
     intro fr t H
     obtain ⟨x13, hx, hm⟩ := bind_some hm
     obtain ⟨i5, er5, _, hx, hq5⟩ := HH.ixO encS (by decide) A 1 (xs := p1) rfl hx
     refine at_step (v := .ptr (some (i5, p0.B.toNat * 1))) (h1 := h1) [(63, .str ((([40] : List UInt8) ++ x12) ++ ([124] : List UInt8))), (67, .ptr (some (i5, p0.B.toNat * 1)))] H (fun fr => by kernel_rfl) (fun fr => .of (s_ixL (s := rowS rp1 p1.length) (by kernel_rfl) hx)) ?_
     intro fr t H
     refine at_step (v := .str x13) (h1 := h1) [(63, .str ((([40] : List UInt8) ++ x12) ++ ([124] : List UInt8))), (68, .str x13)] H (fun fr => by kernel_rfl) (fun fr => .of (s_ld (by kernel_rfl) (row_ld1 encS (HH.row A 1 rfl er5) hq5 (o := 0) rfl))) ?_
     intro fr t H
     obtain ⟨hb, hm⟩ := need_some hm
     refine at_step (v := .str (((([40] : List UInt8) ++ x12) ++ ([124] : List UInt8)) ++ x13)) (h1 := h1) [(69, .str (((([40] : List UInt8) ++ x12) ++ ([124] : List UInt8)) ++ x13))] H (fun fr => by kernel_rfl) (fun fr => .of (s_cat (by kernel_rfl) hb)) ?_
     intro fr t H
     obtain ⟨hb, hm⟩ := need_some hm
     refine at_step (v := .str ((((([40] : List UInt8) ++ x12) ++ ([124] : List UInt8)) ++ x13) ++ ([41] : List UInt8))) (h1 := h1) [(70, .str ((((([40] : List UInt8) ++ x12) ++ ([124] : List UInt8)) ++ x13) ++ ([41] : List UInt8)))] H (fun fr => by kernel_rfl) (fun fr => .of (s_cat (by kernel_rfl) hb)) ?_
     intro fr t H
     refine at_seg [(14, [])] [(4, .str ((((([40] : List UInt8) ++ x12) ++ ([124] : List UInt8)) ++ x13) ++ ([41] : List UInt8)))] H (noU_all rfl) (fun fr => by kernel_rfl) ?_
     intro fr H
     refine at_nil ?_
     show AW cfg 23 g (right (left (right (right (right (right (right (right (right (left (right (left (right (bodyC cfg.P 23)))))))))))))) fr h1 _
     refine aw_ret (by kernel_rfl) ?_
     have e1 := Option.some.inj hm
     subst e1
     refine ⟨.inl rfl, .str ((((([40] : List UInt8) ++ x12) ++ ([124] : List UInt8)) ++ x13) ++ ([41] : List UInt8)), resH H (fun fr => by kernel_rfl), ?_⟩
     replace A : HH g h1 [.lst rp1 9 (lst eS p1)] F := (HH.dropF (A.front 1 rfl) 1)
     exact ⟨rfl, A⟩
    ·replace H := H.know 55 hb (by kernel_rfl)
     refine aw_false (x := .tmp 55) (by kernel_rfl) H (fun fr => by kernel_rfl) ?_
     refine aw_seq (by kernel_rfl) ?_
     refine aw_reg (id := 16) (n := 2) [(0, []), (1, [])] (by kernel_rfl) (by kernel_rfl) ?_
     refine at_seg [(0, []), (1, [])] [(1, rowV rp1 p1.length), (2, .ptr (some (h.size, 0))), (10, .int .i64 p0.Kind), (71, .bool (p0.Kind == (4 : Int)))] H (noU_all rfl) (fun fr => by kernel_rfl) ?_
     intro fr H
     refine at_nil ?_
     show AW cfg 23 g (right (right (right (right (right (right (right (right (right (left (right (left (right (bodyC cfg.P 23)))))))))))))) fr h1 _
     rcases iteB_some hm with ⟨hb, hm⟩ | ⟨hb, hm⟩
     ·replace H := H.know 71 hb (by kernel_rfl)
      refine aw_true (x := .tmp 71) (by kernel_rfl) H (fun fr => by kernel_rfl) ?_
      refine aw_seq (by kernel_rfl) ?_
      refine aw_reg (id := 17) (n := 1) [(0, [])] (by kernel_rfl) (by kernel_rfl) ?_
      refine at_seg [(0, [])] [(1, rowV rp1 p1.length), (2, .ptr (some (h.size, 0))), (8, .str ([] : List UInt8))] H (noU_all rfl) (fun fr => by kernel_rfl) ?_
      intro fr H
      refine at_nil ?_
      show AW cfg 23 g (right (left (right (right (right (right (right (right (right (right (right (left (right (left (right (bodyC cfg.P 23)))))))))))))))) fr h1 _
      refine aw_seq (by kernel_rfl) ?_
      obtain ⟨o2, ho, hm⟩ := bind_some hm
      refine aw_mono (Q' := fun e fr' h' => (∃ (x14 : List UInt8), e = .normal ∧ x14 = o2 ∧ Has fr' 110 [(1, rowV rp1 p1.length), (2, .ptr (some (h.size, 0))), (8, .str x14)] ∧ HH g h' [.obj h.size (.cells none 2 (e_S_tree_Node p0)), .lst rp1 9 (lst eS p1)] F) ∨ False) ?_ ?_
      ·replace hm := ho
       clear ho
       refine aw_seq (by kernel_rfl) ?_
       refine aw_reg (id := 18) (n := 3) [(0, []), (1, []), (2, [])] (by kernel_rfl) (by kernel_rfl) ?_
       refine at_seg [(0, [])] [(1, rowV rp1 p1.length), (2, .ptr (some (h.size, 0))), (8, .str ([] : List UInt8)), (73, .ptr (some (h.size, 4)))] H (noU_all rfl) (fun fr => by kernel_rfl) ?_
       intro fr H
       refine at_step (v := .int .i64 p0.Max) (h1 := h1) [(1, rowV rp1 p1.length), (2, .ptr (some (h.size, 0))), (8, .str ([] : List UInt8)), (74, .int .i64 p0.Max)] H (fun fr => by kernel_rfl) (fun fr => .of (s_ld (by kernel_rfl) (A.ld1 0 rfl (o := 4) rfl))) ?_
       intro fr t H
       refine at_seg [(2, [])] [(1, rowV rp1 p1.length), (2, .ptr (some (h.size, 0))), (8, .str ([] : List UInt8)), (75, .bool (decide (p0.Max ≥ (0 : Int))))] H (noU_all rfl) (fun fr => by kernel_rfl) ?_
       intro fr H
       refine at_nil ?_
       show AW cfg 23 g (right (left (right (left (right (right (right (right (right (right (right (right (right (left (right (left (right (bodyC cfg.P 23)))))))))))))))))) fr h1 _
       rcases iteB_some hm with ⟨hb, hm⟩ | ⟨hb, hm⟩
       ·replace H := H.know 75 hb (by kernel_rfl)
        refine aw_true (x := .tmp 75) (by kernel_rfl) H (fun fr => by kernel_rfl) ?_
        refine aw_reg (id := 19) (n := 4) [(0, []), (1, []), (2, []), (3, [])] (by kernel_rfl) (by kernel_rfl) ?_
        refine at_seg [(0, [])] [(1, rowV rp1 p1.length), (2, .ptr (some (h.size, 0))), (76, .ptr (some (h.size, 4)))] H (noU_all rfl) (fun fr => by kernel_rfl) ?_
        intro fr H
        refine at_step (v := .int .i64 p0.Max) (h1 := h1) [(1, rowV rp1 p1.length), (2, .ptr (some (h.size, 0))), (77, .int .i64 p0.Max)] H (fun fr => by kernel_rfl) (fun fr => .of (s_ld (by kernel_rfl) (A.ld1 0 rfl (o := 4) rfl))) ?_
        intro fr t H
        have A1 := A.cut 0
        obtain ⟨x15, hx, hm⟩ := bind_some hm
        obtain ⟨v1, h11, hr, rfl, A1⟩ := ok_strconv_Itoa (av := [.int .i64 p0.Max]) hx (by kernel_rfl) A1
        replace A : HH g h11 [.obj h.size (.cells none 2 (e_S_tree_Node p0)), .lst rp1 9 (lst eS p1)] F := A.glue0 (n := 0) A1
        refine at_step (v := .str x15) (h1 := h11) [(1, rowV rp1 p1.length), (2, .ptr (some (h.size, 0))), (78, .str x15)] H (fun fr => by kernel_rfl) (fun fr => Steps.call (by kernel_rfl) hr) ?_
        intro fr t H
        refine at_seg [(3, [])] [(1, rowV rp1 p1.length), (2, .ptr (some (h.size, 0))), (8, .str x15)] H (noU_all rfl) (fun fr => by kernel_rfl) ?_
        intro fr H
        refine at_nil ?_
        exact Or.inl ⟨x15, rfl, Option.some.inj hm, H.less _ (fun fr => by kernel_rfl), A⟩
       ·replace H := H.know 75 hb (by kernel_rfl)
        refine aw_false (x := .tmp 75) (by kernel_rfl) H (fun fr => by kernel_rfl) ?_
        refine aw_skip (by kernel_rfl) ?_
        exact Or.inl ⟨([] : List UInt8), rfl, Option.some.inj hm, H.less _ (fun fr => by kernel_rfl), A⟩
      ·clear ho
       clear A
       intro e fr h12 hQ
       rcases hQ with ⟨x14, rfl, rfl, H, A⟩ | hF
       ·skip
        show AW cfg 23 g (right (right (left (right (right (right (right (right (right (right (right (right (left (right (left (right (bodyC cfg.P 23))))))))))))))))) fr h12 _
        refine aw_seq (by kernel_rfl) ?_
        refine aw_draw (id := 20) (n := 16) (by kernel_rfl) [(0, []), (1, []), (5, []), (8, []), (9, []), (10, []), (11, []), (12, []), (2, [10, 12]), (3, []), (4, []), (6, []), (7, []), (13, []), (14, []), (15, [])] (by kernel_rfl) ?_
        refine at_seg [(0, [])] [(1, rowV rp1 p1.length), (2, .ptr (some (h.size, 0))), (8, .str x14), (79, .ptr (some (h.size, 3)))] H (noU_all rfl) (fun fr => by kernel_rfl) ?_
        intro fr H
        refine at_stepT (v := .int .i64 p0.Min) (h1 := h12) (tch' := [(1, h.size)]) (g.prot) [(1, rowV rp1 p1.length), (2, .ptr (some (h.size, 0))), (8, .str x14), (80, .int .i64 p0.Min)] H (fun fr => by kernel_rfl) (by kernel_rfl) (fun fr => by kernel_rfl) (fun fr => .of (s_ld (by kernel_rfl) (A.ld1 0 rfl (o := 3) rfl))) (fun fr => by kernel_rfl) ?_
        intro fr H
        refine at_seg [(5, []), (8, []), (9, [])] [(80, .int .i64 p0.Min), (84, .str x14), (87, rowV rp1 p1.length), (88, .ptr (some (h.size, 1)))] H (noU_all rfl) (fun fr => by kernel_rfl) ?_
        intro fr H
        refine at_stepT (v := .int .i64 p0.A) (h1 := h12) (tch' := [(10, h.size), (1, h.size)]) (g.prot) [(80, .int .i64 p0.Min), (84, .str x14), (87, rowV rp1 p1.length), (89, .int .i64 p0.A)] H (fun fr => by kernel_rfl) (by kernel_rfl) (fun fr => by kernel_rfl) (fun fr => .of (s_ld (by kernel_rfl) (A.ld1 0 rfl (o := 1) rfl))) (fun fr => by kernel_rfl) ?_
        intro fr H
        obtain ⟨x16, hx, hm⟩ := bind_some hm
        obtain ⟨i6, er6, _, hx, hq6⟩ := HH.ixO encS (by decide) A 1 (xs := p1) rfl hx
        refine at_stepT (v := .ptr (some (i6, p0.A.toNat * 1))) (h1 := h12) (tch' := [(10, h.size), (1, h.size)]) (g.prot) [(80, .int .i64 p0.Min), (84, .str x14), (90, .ptr (some (i6, p0.A.toNat * 1)))] H (fun fr => by kernel_rfl) (by kernel_rfl) (fun fr => by kernel_rfl) (fun fr => .of (s_ixL (s := rowS rp1 p1.length) (by kernel_rfl) hx)) (fun fr => by kernel_rfl) ?_
        intro fr H
        refine at_stepT (v := .str x16) (h1 := h12) (tch' := [(12, i6), (10, h.size), (1, h.size)]) (g.prot) [(80, .int .i64 p0.Min), (84, .str x14), (91, .str x16)] H (fun fr => by kernel_rfl) (by kernel_rfl) (fun fr => by kernel_rfl) (fun fr => .of (s_ld (by kernel_rfl) (row_ld1 encS (HH.row A 1 rfl er6) hq6 (o := 0) rfl))) (fun fr => by kernel_rfl) ?_
        intro fr H
        have A1 := A.prot2 0 (pr := [i6, h.size]) (.cons 1 rfl (by simp [Ck.ids, er6]) (.cons 0 rfl (by simp [Ck.ids]) .nil))
        obtain ⟨x17, hx, hm⟩ := bind_some hm
        obtain ⟨v1, h13, hr, rfl, A1⟩ := ok_strconv_Itoa (av := [.int .i64 p0.Min]) hx (by kernel_rfl) A1
        replace A : HH g h13 [.obj h.size (.cells none 2 (e_S_tree_Node p0)), .lst rp1 9 (lst eS p1)] F := A.glueP (n := 0) A1
        refine at_stepT (v := .str x17) (h1 := h13) (tch' := [(12, i6), (10, h.size), (1, h.size)]) (i6 :: h.size :: g.prot) [(81, .str x17), (84, .str x14), (91, .str x16)] H (fun fr => by kernel_rfl) (by kernel_rfl) (fun fr => by kernel_rfl) (fun fr => Steps.call (by kernel_rfl) hr) (fun fr => by kernel_rfl) ?_
        intro fr H
        obtain ⟨hb, hm⟩ := need_some hm
        refine at_stepT (v := .str (([123] : List UInt8) ++ x17)) (h1 := h13) (tch' := [(12, i6), (10, h.size), (1, h.size)]) (g.prot) [(82, .str (([123] : List UInt8) ++ x17)), (84, .str x14), (91, .str x16)] H (fun fr => by kernel_rfl) (by kernel_rfl) (fun fr => by kernel_rfl) (fun fr => .of (s_cat (by kernel_rfl) hb)) (fun fr => by kernel_rfl) ?_
        intro fr H
        obtain ⟨hb, hm⟩ := need_some hm
        refine at_stepT (v := .str ((([123] : List UInt8) ++ x17) ++ ([44] : List UInt8))) (h1 := h13) (tch' := [(12, i6), (10, h.size), (1, h.size)]) (g.prot) [(83, .str ((([123] : List UInt8) ++ x17) ++ ([44] : List UInt8))), (84, .str x14), (91, .str x16)] H (fun fr => by kernel_rfl) (by kernel_rfl) (fun fr => by kernel_rfl) (fun fr => .of (s_cat (by kernel_rfl) hb)) (fun fr => by kernel_rfl) ?_
        intro fr H
        obtain ⟨hb, hm⟩ := need_some hm
        refine at_stepT (v := .str (((([123] : List UInt8) ++ x17) ++ ([44] : List UInt8)) ++ x14)) (h1 := h13) (tch' := [(12, i6), (10, h.size), (1, h.size)]) (g.prot) [(85, .str (((([123] : List UInt8) ++ x17) ++ ([44] : List UInt8)) ++ x14)), (91, .str x16)] H (fun fr => by kernel_rfl) (by kernel_rfl) (fun fr => by kernel_rfl) (fun fr => .of (s_cat (by kernel_rfl) hb)) (fun fr => by kernel_rfl) ?_
        intro fr H
        obtain ⟨hb, hm⟩ := need_some hm
        refine at_stepT (v := .str ((((([123] : List UInt8) ++ x17) ++ ([44] : List UInt8)) ++ x14) ++ ([58] : List UInt8))) (h1 := h13) (tch' := [(12, i6), (10, h.size), (1, h.size)]) (g.prot) [(86, .str ((((([123] : List UInt8) ++ x17) ++ ([44] : List UInt8)) ++ x14) ++ ([58] : List UInt8))), (91, .str x16)] H (fun fr => by kernel_rfl) (by kernel_rfl) (fun fr => by kernel_rfl) (fun fr => .of (s_cat (by kernel_rfl) hb)) (fun fr => by kernel_rfl) ?_
        intro fr H
        obtain ⟨hb, hm⟩ := need_some hm
        refine at_stepT (v := .str (((((([123] : List UInt8) ++ x17) ++ ([44] : List UInt8)) ++ x14) ++ ([58] : List UInt8)) ++ x16)) (h1 := h13) (tch' := [(12, i6), (10, h.size), (1, h.size)]) (g.prot) [(92, .str (((((([123] : List UInt8) ++ x17) ++ ([44] : List UInt8)) ++ x14) ++ ([58] : List UInt8)) ++ x16))] H (fun fr => by kernel_rfl) (by kernel_rfl) (fun fr => by kernel_rfl) (fun fr => .of (s_cat (by kernel_rfl) hb)) (fun fr => by kernel_rfl) ?_
        intro fr H
        obtain ⟨hb, hm⟩ := need_some hm
        refine at_stepT (v := .str ((((((([123] : List UInt8) ++ x17) ++ ([44] : List UInt8)) ++ x14) ++ ([58] : List UInt8)) ++ x16) ++ ([125] : List UInt8))) (h1 := h13) (tch' := [(12, i6), (10, h.size), (1, h.size)]) (g.prot) [(93, .str ((((((([123] : List UInt8) ++ x17) ++ ([44] : List UInt8)) ++ x14) ++ ([58] : List UInt8)) ++ x16) ++ ([125] : List UInt8)))] H (fun fr => by kernel_rfl) (by kernel_rfl) (fun fr => by kernel_rfl) (fun fr => .of (s_cat (by kernel_rfl) hb)) (fun fr => by kernel_rfl) ?_
        intro fr H
        refine at_seg [(15, [])] [(4, .str ((((((([123] : List UInt8) ++ x17) ++ ([44] : List UInt8)) ++ x14) ++ ([58] : List UInt8)) ++ x16) ++ ([125] : List UInt8)))] H (noU_all rfl) (fun fr => by kernel_rfl) ?_
        intro fr H
        refine at_nil ?_
        show AW cfg 23 g (right (right (right (left (right (right (right (right (right (right (right (right (right (left (right (left (right (bodyC cfg.P 23)))))))))))))))))) fr h13 _
        refine aw_ret (by kernel_rfl) ?_
        have e1 := Option.some.inj hm
        subst e1
        refine ⟨.inl rfl, .str ((((((([123] : List UInt8) ++ x17) ++ ([44] : List UInt8)) ++ x14) ++ ([58] : List UInt8)) ++ x16) ++ ([125] : List UInt8)), resH H (fun fr => by kernel_rfl), ?_⟩
        replace A : HH g h13 [.lst rp1 9 (lst eS p1)] F := (HH.dropF (A.front 1 rfl) 1)
        exact ⟨rfl, A⟩
       ·exact hF.elim
     ·replace H := H.know 71 hb (by kernel_rfl)
      refine aw_false (x := .tmp 71) (by kernel_rfl) H (fun fr => by kernel_rfl) ?_
      refine aw_seq (by kernel_rfl) ?_
      refine aw_reg (id := 21) (n := 2) [(0, []), (1, [])] (by kernel_rfl) (by kernel_rfl) ?_
      refine at_seg [(0, []), (1, [])] [(1, rowV rp1 p1.length), (2, .ptr (some (h.size, 0))), (10, .int .i64 p0.Kind), (94, .bool (p0.Kind == (5 : Int)))] H (noU_all rfl) (fun fr => by kernel_rfl) ?_
      intro fr H
      refine at_nil ?_
      show AW cfg 23 g (right (right (right (right (right (right (right (right (right (right (right (left (right (left (right (bodyC cfg.P 23)))))))))))))))) fr h1 _
      rcases iteB_some hm with ⟨hb, hm⟩ | ⟨hb, hm⟩
      ·replace H := H.know 94 hb (by kernel_rfl)
       refine aw_true (x := .tmp 94) (by kernel_rfl) H (fun fr => by kernel_rfl) ?_
       refine aw_seq (by kernel_rfl) ?_
       refine aw_draw (id := 22) (n := 13) (by kernel_rfl) [(0, []), (1, []), (5, []), (6, []), (7, []), (8, []), (9, []), (2, [7, 9]), (3, []), (4, []), (10, []), (11, []), (12, [])] (by kernel_rfl) ?_
       refine at_seg [(0, [])] [(1, rowV rp1 p1.length), (2, .ptr (some (h.size, 0))), (96, .ptr (some (h.size, 5)))] H (noU_all rfl) (fun fr => by kernel_rfl) ?_
       intro fr H
       refine at_stepT (v := .int .i64 p0.Group) (h1 := h1) (tch' := [(1, h.size)]) (g.prot) [(1, rowV rp1 p1.length), (2, .ptr (some (h.size, 0))), (97, .int .i64 p0.Group)] H (fun fr => by kernel_rfl) (by kernel_rfl) (fun fr => by kernel_rfl) (fun fr => .of (s_ld (by kernel_rfl) (A.ld1 0 rfl (o := 5) rfl))) (fun fr => by kernel_rfl) ?_
       intro fr H
       refine at_seg [(5, []), (6, [])] [(97, .int .i64 p0.Group), (101, rowV rp1 p1.length), (102, .ptr (some (h.size, 1)))] H (noU_all rfl) (fun fr => by kernel_rfl) ?_
       intro fr H
       refine at_stepT (v := .int .i64 p0.A) (h1 := h1) (tch' := [(7, h.size), (1, h.size)]) (g.prot) [(97, .int .i64 p0.Group), (101, rowV rp1 p1.length), (103, .int .i64 p0.A)] H (fun fr => by kernel_rfl) (by kernel_rfl) (fun fr => by kernel_rfl) (fun fr => .of (s_ld (by kernel_rfl) (A.ld1 0 rfl (o := 1) rfl))) (fun fr => by kernel_rfl) ?_
       intro fr H
       obtain ⟨x18, hx, hm⟩ := bind_some hm
       obtain ⟨i7, er7, _, hx, hq7⟩ := HH.ixO encS (by decide) A 1 (xs := p1) rfl hx
       refine at_stepT (v := .ptr (some (i7, p0.A.toNat * 1))) (h1 := h1) (tch' := [(7, h.size), (1, h.size)]) (g.prot) [(97, .int .i64 p0.Group), (104, .ptr (some (i7, p0.A.toNat * 1)))] H (fun fr => by kernel_rfl) (by kernel_rfl) (fun fr => by kernel_rfl) (fun fr => .of (s_ixL (s := rowS rp1 p1.length) (by kernel_rfl) hx)) (fun fr => by kernel_rfl) ?_
       intro fr H
       refine at_stepT (v := .str x18) (h1 := h1) (tch' := [(9, i7), (7, h.size), (1, h.size)]) (g.prot) [(97, .int .i64 p0.Group), (105, .str x18)] H (fun fr => by kernel_rfl) (by kernel_rfl) (fun fr => by kernel_rfl) (fun fr => .of (s_ld (by kernel_rfl) (row_ld1 encS (HH.row A 1 rfl er7) hq7 (o := 0) rfl))) (fun fr => by kernel_rfl) ?_
       intro fr H
       have A1 := A.prot2 0 (pr := [i7, h.size]) (.cons 1 rfl (by simp [Ck.ids, er7]) (.cons 0 rfl (by simp [Ck.ids]) .nil))
       obtain ⟨x19, hx, hm⟩ := bind_some hm
       obtain ⟨v1, h14, hr, rfl, A1⟩ := ok_strconv_Itoa (av := [.int .i64 p0.Group]) hx (by kernel_rfl) A1
       replace A : HH g h14 [.obj h.size (.cells none 2 (e_S_tree_Node p0)), .lst rp1 9 (lst eS p1)] F := A.glueP (n := 0) A1
       refine at_stepT (v := .str x19) (h1 := h14) (tch' := [(9, i7), (7, h.size), (1, h.size)]) (i7 :: h.size :: g.prot) [(98, .str x19), (105, .str x18)] H (fun fr => by kernel_rfl) (by kernel_rfl) (fun fr => by kernel_rfl) (fun fr => Steps.call (by kernel_rfl) hr) (fun fr => by kernel_rfl) ?_
       intro fr H
       obtain ⟨hb, hm⟩ := need_some hm
       refine at_stepT (v := .str (([60] : List UInt8) ++ x19)) (h1 := h14) (tch' := [(9, i7), (7, h.size), (1, h.size)]) (g.prot) [(99, .str (([60] : List UInt8) ++ x19)), (105, .str x18)] H (fun fr => by kernel_rfl) (by kernel_rfl) (fun fr => by kernel_rfl) (fun fr => .of (s_cat (by kernel_rfl) hb)) (fun fr => by kernel_rfl) ?_
       intro fr H
       obtain ⟨hb, hm⟩ := need_some hm
       refine at_stepT (v := .str ((([60] : List UInt8) ++ x19) ++ ([58] : List UInt8))) (h1 := h14) (tch' := [(9, i7), (7, h.size), (1, h.size)]) (g.prot) [(100, .str ((([60] : List UInt8) ++ x19) ++ ([58] : List UInt8))), (105, .str x18)] H (fun fr => by kernel_rfl) (by kernel_rfl) (fun fr => by kernel_rfl) (fun fr => .of (s_cat (by kernel_rfl) hb)) (fun fr => by kernel_rfl) ?_
       intro fr H
       obtain ⟨hb, hm⟩ := need_some hm
       refine at_stepT (v := .str (((([60] : List UInt8) ++ x19) ++ ([58] : List UInt8)) ++ x18)) (h1 := h14) (tch' := [(9, i7), (7, h.size), (1, h.size)]) (g.prot) [(106, .str (((([60] : List UInt8) ++ x19) ++ ([58] : List UInt8)) ++ x18))] H (fun fr => by kernel_rfl) (by kernel_rfl) (fun fr => by kernel_rfl) (fun fr => .of (s_cat (by kernel_rfl) hb)) (fun fr => by kernel_rfl) ?_
       intro fr H
       obtain ⟨hb, hm⟩ := need_some hm
       refine at_stepT (v := .str ((((([60] : List UInt8) ++ x19) ++ ([58] : List UInt8)) ++ x18) ++ ([62] : List UInt8))) (h1 := h14) (tch' := [(9, i7), (7, h.size), (1, h.size)]) (g.prot) [(107, .str ((((([60] : List UInt8) ++ x19) ++ ([58] : List UInt8)) ++ x18) ++ ([62] : List UInt8)))] H (fun fr => by kernel_rfl) (by kernel_rfl) (fun fr => by kernel_rfl) (fun fr => .of (s_cat (by kernel_rfl) hb)) (fun fr => by kernel_rfl) ?_
       intro fr H
       refine at_seg [(12, [])] [(4, .str ((((([60] : List UInt8) ++ x19) ++ ([58] : List UInt8)) ++ x18) ++ ([62] : List UInt8)))] H (noU_all rfl) (fun fr => by kernel_rfl) ?_
       intro fr H
       refine at_nil ?_
       show AW cfg 23 g (right (left (right (right (right (right (right (right (right (right (right (right (right (left (right (left (right (bodyC cfg.P 23)))))))))))))))))) fr h14 _
       refine aw_ret (by kernel_rfl) ?_
       have e1 := Option.some.inj hm
       subst e1
       refine ⟨.inl rfl, .str ((((([60] : List UInt8) ++ x19) ++ ([58] : List UInt8)) ++ x18) ++ ([62] : List UInt8)), resH H (fun fr => by kernel_rfl), ?_⟩
       replace A : HH g h14 [.lst rp1 9 (lst eS p1)] F := (HH.dropF (A.front 1 rfl) 1)
       exact ⟨rfl, A⟩
      ·replace H := H.know 94 hb (by kernel_rfl)
       refine aw_false (x := .tmp 94) (by kernel_rfl) H (fun fr => by kernel_rfl) ?_
       refine aw_seq (by kernel_rfl) ?_
       refine aw_reg (id := 23) (n := 2) [(0, []), (1, [])] (by kernel_rfl) (by kernel_rfl) ?_
       refine at_seg [(0, []), (1, [])] [(108, .bool (p0.Kind == (6 : Int)))] H (noU_all rfl) (fun fr => by kernel_rfl) ?_
       intro fr H
       refine at_nil ?_
       show AW cfg 23 g (right (right (right (right (right (right (right (right (right (right (right (right (right (left (right (left (right (bodyC cfg.P 23)))))))))))))))))) fr h1 _
       rcases iteB_some hm with ⟨hb, hm⟩ | ⟨hb, hm⟩
       ·replace H := H.know 108 hb (by kernel_rfl)
        refine aw_true (x := .tmp 108) (by kernel_rfl) H (fun fr => by kernel_rfl) ?_
        refine aw_seq (by kernel_rfl) ?_
        refine aw_reg (id := 24) (n := 1) [(0, [])] (by kernel_rfl) (by kernel_rfl) ?_
        refine at_seg [(0, [])] [(4, .str ([94] : List UInt8))] H (noU_all rfl) (fun fr => by kernel_rfl) ?_
        intro fr H
        refine at_nil ?_
        show AW cfg 23 g (right (left (right (right (right (right (right (right (right (right (right (right (right (right (right (left (right (left (right (bodyC cfg.P 23)))))))))))))))))))) fr h1 _
        refine aw_ret (by kernel_rfl) ?_
        have e1 := Option.some.inj hm
        subst e1
        refine ⟨.inl rfl, .str ([94] : List UInt8), resH H (fun fr => by kernel_rfl), ?_⟩
        replace A : HH g h1 [.lst rp1 9 (lst eS p1)] F := (HH.dropF (A.front 1 rfl) 1)
        exact ⟨rfl, A⟩
       ·replace H := H.know 108 hb (by kernel_rfl)
        refine aw_false (x := .tmp 108) (by kernel_rfl) H (fun fr => by kernel_rfl) ?_
        refine aw_skip (by kernel_rfl) ?_
        show AW cfg 23 g (right (right (bodyC cfg.P 23))) fr h1 _
        refine aw_seq (by kernel_rfl) ?_
        refine aw_reg (id := 25) (n := 1) [(0, [])] (by kernel_rfl) (by kernel_rfl) ?_
        refine at_seg [(0, [])] [(4, .str ([36] : List UInt8))] H (noU_all rfl) (fun fr => by kernel_rfl) ?_
        intro fr H
        refine at_nil ?_
        show AW cfg 23 g (right (right (right (bodyC cfg.P 23)))) fr h1 _
        refine aw_ret (by kernel_rfl) ?_
        have e1 := Option.some.inj hm
        subst e1
        refine ⟨.inl rfl, .str ([36] : List UInt8), resH H (fun fr => by kernel_rfl), ?_⟩
        replace A : HH g h1 [.lst rp1 9 (lst eS p1)] F := (HH.dropF (A.front 1 rfl) 1)
        exact ⟨rfl, A⟩
end Go.Av.L
