/-
 Models of functions, and that the abstract run tells them. Written by lift2.py.
-/
import Derived.Test.YtiodcbipjnmpgaaDoorKCfg
import Derived.Test.YtiodcbipjnmpgaaDoorK0
import Derived.Test.YtiodcbipjnmpgaaDoorK2
import Derived.Test.YtiodcbipjnmpgaaDoorK3
namespace Go.Av.L
open Go.Av Go.Lib
set_option maxRecDepth 10000
set_option linter.unusedVariables false
set_option linter.unusedSimpArgs false
/-! ### boulter/rex.Parse -/
noncomputable def M_rex_Parse (p0 : List UInt8) (p1 : Bool) : Option (S_tree_Tree × Int × Int) :=
 iteB (decide ((p0.length : Int) > (8192 : Int))) (some ((⟨([] : List S_tree_Node), (0 : Int)⟩ : S_tree_Tree), (0 : Int), (12 : Int))) ((M_rex_walk_expression_sPO (⟨p0, (0 : Int), p1, (⟨([] : List S_tree_Node), (0 : Int)⟩ : S_tree_Tree), (0 : Int), (0 : Int), (-1 : Int), false⟩ : S_rex_walk)).bind fun (x1, x2, x3) => ((M_rex_walk_ok_sPO (⟨x2.s_, x2.at_, x2.extended_, (⟨x3, x2.t_.Root⟩ : S_tree_Tree), x2.groups_, x2.depth_, x2.wrong_, x2.full_⟩ : S_rex_walk)).bind fun x12 => iteB (x12 && (decide (x2.at_ < (p0.length : Int)))) ((M_rex_walk_fail_sPOI (⟨x2.s_, x2.at_, x2.extended_, (⟨x3, x2.t_.Root⟩ : S_tree_Tree), x2.groups_, x2.depth_, x2.wrong_, x2.full_⟩ : S_rex_walk) x2.at_).bind fun x13 => some (x13.s_, x13.at_, x13.extended_, x13.t_.Root, x13.groups_, x13.depth_, x13.wrong_, x13.full_)) (some (x2.s_, x2.at_, x2.extended_, x2.t_.Root, x2.groups_, x2.depth_, x2.wrong_, x2.full_)) : Option (((List UInt8) × Int × Bool × Int × Int × Int × Int × Bool))).bind fun (x4, x5, x6, x7, x8, x9, x10, x11) => (M_rex_walk_ok_sPO (⟨x4, x5, x6, (⟨x3, x7⟩ : S_tree_Tree), x8, x9, x10, x11⟩ : S_rex_walk)).bind fun x14 => iteB (!x14) (some ((⟨([] : List S_tree_Node), (0 : Int)⟩ : S_tree_Tree), x10, (11 : Int))) (iteB x11 (some ((⟨([] : List S_tree_Node), (0 : Int)⟩ : S_tree_Tree), (0 : Int), (8 : Int))) (some ((⟨x3, x7⟩ : S_tree_Tree), (0 : Int), (0 : Int)))))
theorem ok_rex_Parse {g : Gd} {h : AHeap} {F : List Ck} {p0 : List UInt8} {p1 : Bool} {q0 : S_tree_Tree} {q1 : Int} {q2 : Int} {av : List AVal} (hm : M_rex_Parse p0 p1 = some (q0, q1, q2)) (hc : canL (cfg.still 6) av = [.str p0, .bool p1]) (A : HH g h [] F) : ∃ v h', Runs cfg g h 6 av v h' ∧ v = .tuple [.agg [vs e_S_tree_Node q0.Nodes, .int .i64 q0.Root], .int .i64 q1, .int .i64 q2] ∧ HH g h' [] F := by
 refine runsQ7 (n := 54) (rs := [.cell 4 25, .tmp 5, .tmp 6]) (by kernel_rfl) hc (by kernel_rfl) ?_
 clear hc
 unfold M_rex_Parse at hm
 refine start (n := 54) [(0, .str p0), (1, .bool p1)] (by kernel_rfl) (by kernel_rfl) ?_
 intro fr H
 refine aw_seq (by kernel_rfl) ?_
 refine aw_reg (id := 0) (n := 3) [(0, []), (1, []), (2, [])] (by kernel_rfl) (by kernel_rfl) ?_
 obtain ⟨h1, e1⟩ : ∃ x, x = h.push (.cells none 2 [.slice none 0, .int .i64 (0 : Int)]) := ⟨_, rfl⟩
 replace A := (A.push _).to e1
 refine at_step (v := .ptr (some (h.size, 0))) (h1 := h1) [(0, .str p0), (1, .bool p1), (4, .ptr (some (h.size, 0)))] H (fun fr => by kernel_rfl) (fun fr => .of (s_n' (by kernel_rfl) (congrArg some e1.symm))) ?_
 intro fr t H
 refine at_seg [(1, []), (2, [])] [(0, .str p0), (1, .bool p1), (4, .ptr (some (h.size, 0)))] H (noU_all rfl) (fun fr => by kernel_rfl) ?_
 intro fr H
 refine at_nil ?_
 show AW cfg 6 g (right (bodyC cfg.P 6)) fr h1 _
 refine aw_seq (by kernel_rfl) ?_
 refine aw_seq (by kernel_rfl) ?_
 refine aw_reg (id := 1) (n := 3) [(0, []), (1, []), (2, [])] (by kernel_rfl) (by kernel_rfl) ?_
 refine at_seg [(0, []), (1, []), (2, [])] [(0, .str p0), (1, .bool p1), (4, .ptr (some (h.size, 0))), (10, .bool (decide ((p0.length : Int) > (8192 : Int))))] H (noU_all rfl) (fun fr => by kernel_rfl) ?_
 intro fr H
 refine at_nil ?_
 show AW cfg 6 g (right (left (right (bodyC cfg.P 6)))) fr h1 _
 rcases iteB_some hm with ⟨hb, hm⟩ | ⟨hb, hm⟩
 ·replace H := H.know 10 hb (by kernel_rfl)
  refine aw_true (x := .tmp 10) (by kernel_rfl) H (fun fr => by kernel_rfl) ?_
  refine aw_seq (by kernel_rfl) ?_
  refine aw_reg (id := 2) (n := 4) [(0, []), (1, []), (2, []), (3, [])] (by kernel_rfl) (by kernel_rfl) ?_
  refine at_seg [(0, [])] [(4, .ptr (some (h.size, 0))), (11, .agg [.slice none 0, .int .i64 (0 : Int)])] H (noU_all rfl) (fun fr => by kernel_rfl) ?_
  intro fr H
  obtain ⟨h2, hx, A1⟩ := A.st 0 rfl (o := 0) (new := [.slice none 0, .int .i64 (0 : Int)]) (ds := [.slice none 0, .int .i64 (0 : Int)]) (Nat.le_of_ble_eq_true rfl) rfl rfl
  replace A : HH g h2 [.obj h.size (.cells none 2 [.slice none 0, .int .i64 (0 : Int)])] F := A1
  refine at_step (v := .tuple []) (h1 := h2) [(4, .ptr (some (h.size, 0)))] H (fun fr => by kernel_rfl) (fun fr => .of (s_stG (by kernel_rfl) (stG_st hx rfl))) ?_
  intro fr t H
  refine at_seg [(2, []), (3, [])] [(4, .ptr (some (h.size, 0))), (5, .int .i64 (0 : Int)), (6, .int .i64 (12 : Int))] H (noU_all rfl) (fun fr => by kernel_rfl) ?_
  intro fr H
  refine at_nil ?_
  show AW cfg 6 g (right (left (right (left (right (bodyC cfg.P 6)))))) fr h2 _
  refine aw_ret (by kernel_rfl) ?_
  have e0 := Option.some.inj hm
  obtain ⟨y0, z0⟩ := Prod.mk.inj e0
  obtain ⟨y1, z1⟩ := Prod.mk.inj z0
  subst y0
  subst y1
  subst z1
  refine ⟨.inl rfl, .tuple [.agg [.slice none 0, .int .i64 (0 : Int)], .int .i64 (0 : Int), .int .i64 (12 : Int)], resL_many (.cell (resT H (fun fr => by kernel_rfl)) (load_ldA (by kernel_rfl) (by kernel_rfl) (A.ldA 0 rfl (o := 0) (n := 2) ⟨Nat.le_of_ble_eq_true rfl, rfl⟩)) (.tmp (resT H (fun fr => by kernel_rfl)) (.tmp (resT H (fun fr => by kernel_rfl)) .nil))), ?_⟩
  refine ⟨.tuple [.agg [vs e_S_tree_Node ([] : List S_tree_Node), .int .i64 (0 : Int)], .int .i64 (0 : Int), .int .i64 (12 : Int)], h2, by first | rfl | (simp only [fz3T, fz3A, fz3B, fz3R, fz2A, fz2R, fz2V, fz2I, fz2B, fz2S, fz2N, fzL0, fzL1, fz1I, fz1B, fz1S, fz1V, fz1N, Option.map_some] <;> rfl), ?_⟩
  replace A : HH g h2 [] F := (HH.dropF A 0)
  exact ⟨rfl, A⟩
 ·replace H := H.know 10 hb (by kernel_rfl)
  refine aw_false (x := .tmp 10) (by kernel_rfl) H (fun fr => by kernel_rfl) ?_
  refine aw_skip (by kernel_rfl) ?_
  show AW cfg 6 g (right (right (bodyC cfg.P 6))) fr h1 _
  refine aw_seq (by kernel_rfl) ?_
  refine aw_reg (id := 3) (n := 5) [(0, []), (1, []), (2, []), (3, []), (4, [])] (by kernel_rfl) (by kernel_rfl) ?_
  refine at_seg [(0, []), (1, []), (2, [])] [(0, .str p0), (4, .ptr (some (h.size, 0))), (14, .agg [.str p0, .int .i64 (0 : Int), .bool p1, .slice none 0, .int .i64 (0 : Int), .int .i64 (0 : Int), .int .i64 (0 : Int), .int .i64 (-1 : Int), .bool false])] H (noU_all rfl) (fun fr => by kernel_rfl) ?_
  intro fr H
  obtain ⟨h3, e2⟩ : ∃ x, x = h1.push (.cells none 2 [.str p0, .int .i64 (0 : Int), .bool p1, .slice none 0, .int .i64 (0 : Int), .int .i64 (0 : Int), .int .i64 (0 : Int), .int .i64 (-1 : Int), .bool false]) := ⟨_, rfl⟩
  replace A := (A.push _).to e2
  refine at_step (v := .ptr (some (h1.size, 0))) (h1 := h3) [(0, .str p0), (4, .ptr (some (h.size, 0))), (15, .ptr (some (h1.size, 0)))] H (fun fr => by kernel_rfl) (fun fr => .of (s_n' (by kernel_rfl) (congrArg some e2.symm))) ?_
  intro fr t H
  refine at_seg [(4, [])] [(0, .str p0), (4, .ptr (some (h.size, 0))), (7, .ptr (some (h1.size, 0)))] H (noU_all rfl) (fun fr => by kernel_rfl) ?_
  intro fr H
  refine at_nil ?_
  show AW cfg 6 g (right (right (right (bodyC cfg.P 6)))) fr h3 _
  refine aw_seq (by kernel_rfl) ?_
  refine aw_reg (id := 4) (n := 2) [(0, []), (1, [])] (by kernel_rfl) (by kernel_rfl) ?_
  refine at_seg [(0, [])] [(0, .str p0), (4, .ptr (some (h.size, 0))), (7, .ptr (some (h1.size, 0))), (16, .ptr (some (h1.size, 0)))] H (noU_all rfl) (fun fr => by kernel_rfl) ?_
  intro fr H
  replace A : HH g h3 [.lst none 45 (lst e_S_tree_Node ([] : List S_tree_Node)), .obj h1.size (.cells none 2 [.str p0, .int .i64 (0 : Int), .bool p1, rowV none (([] : List S_tree_Node).length), .int .i64 (0 : Int), .int .i64 (0 : Int), .int .i64 (0 : Int), .int .i64 (-1 : Int), .bool false]), .obj h.size (.cells none 2 [.slice none 0, .int .i64 (0 : Int)])] F := A.nilL 45
  replace A : HH g h3 [.obj h1.size (.cells none 2 [.str p0, .int .i64 (0 : Int), .bool p1, rowV none (([] : List S_tree_Node).length), .int .i64 (0 : Int), .int .i64 (0 : Int), .int .i64 (0 : Int), .int .i64 (-1 : Int), .bool false]), .lst none 45 (lst e_S_tree_Node ([] : List S_tree_Node)), .obj h.size (.cells none 2 [.slice none 0, .int .i64 (0 : Int)])] F := ((A.front 0 rfl).front 1 rfl)
  have A1 := A.cut 2
  obtain ⟨⟨x1, x2, x3⟩, hx, hm⟩ := bind_some hm
  obtain ⟨v1, h4, hr, r1, rfl, A1⟩ := ok_rex_walk_expression_sPO (av := [.ptr (some (h1.size, 0))]) hx (by kernel_rfl) A1
  replace A : HH g h4 [.obj h1.size (.cells none 2 [.str x2.s_, .int .i64 x2.at_, .bool x2.extended_, rowV r1 x3.length, .int .i64 x2.t_.Root, .int .i64 x2.groups_, .int .i64 x2.depth_, .int .i64 x2.wrong_, .bool x2.full_]), .lst r1 45 (lst e_S_tree_Node x3), .obj h.size (.cells none 2 [.slice none 0, .int .i64 (0 : Int)])] F := A.glue0 (n := 2) A1
  refine at_step (v := .int .i64 x1) (h1 := h4) [(0, .str p0), (4, .ptr (some (h.size, 0))), (7, .ptr (some (h1.size, 0)))] H (fun fr => by kernel_rfl) (fun fr => Steps.call (by kernel_rfl) hr) ?_
  intro fr t H
  refine at_nil ?_
  show AW cfg 6 g (right (right (right (right (bodyC cfg.P 6))))) fr h4 _
  refine aw_seq (by kernel_rfl) ?_
  obtain ⟨o1, ho, hm⟩ := bind_some hm
  refine aw_mono (Q' := fun e fr' h' => (∃ (x4 : List UInt8) (x5 : Int) (x6 : Bool) (x7 : Int) (x8 : Int) (x9 : Int) (x10 : Int) (x11 : Bool), e = .normal ∧ (x4, x5, x6, x7, x8, x9, x10, x11) = o1 ∧ Has fr' 54 [(4, .ptr (some (h.size, 0))), (7, .ptr (some (h1.size, 0)))] ∧ HH g h' [.obj h1.size (.cells none 2 [.str x4, .int .i64 x5, .bool x6, rowV r1 x3.length, .int .i64 x7, .int .i64 x8, .int .i64 x9, .int .i64 x10, .bool x11]), .lst r1 45 (lst e_S_tree_Node x3), .obj h.size (.cells none 2 [.slice none 0, .int .i64 (0 : Int)])] F) ∨ False) ?_ ?_
  ·replace hm := ho
   clear ho
   refine aw_seq (by kernel_rfl) ?_
   refine aw_reg (id := 5) (n := 11) [(0, []), (1, []), (2, []), (3, []), (4, []), (5, []), (6, []), (7, []), (8, []), (9, []), (10, [])] (by kernel_rfl) (by kernel_rfl) ?_
   refine at_seg [(0, [])] [(0, .str p0), (4, .ptr (some (h.size, 0))), (7, .ptr (some (h1.size, 0))), (18, .ptr (some (h1.size, 0)))] H (noU_all rfl) (fun fr => by kernel_rfl) ?_
   intro fr H
   have A1 := A.cut 2
   obtain ⟨x12, hx, hm⟩ := bind_some hm
   obtain ⟨v1, h5, hr, rfl, A1⟩ := ok_rex_walk_ok_sPO (av := [.ptr (some (h1.size, 0))]) hx (by kernel_rfl) A1
   replace A : HH g h5 [.obj h1.size (.cells none 2 [.str x2.s_, .int .i64 x2.at_, .bool x2.extended_, rowV r1 x3.length, .int .i64 x2.t_.Root, .int .i64 x2.groups_, .int .i64 x2.depth_, .int .i64 x2.wrong_, .bool x2.full_]), .lst r1 45 (lst e_S_tree_Node x3), .obj h.size (.cells none 2 [.slice none 0, .int .i64 (0 : Int)])] F := A.glue0 (n := 2) A1
   refine at_step (v := .bool x12) (h1 := h5) [(0, .str p0), (4, .ptr (some (h.size, 0))), (7, .ptr (some (h1.size, 0))), (19, .bool x12)] H (fun fr => by kernel_rfl) (fun fr => Steps.call (by kernel_rfl) hr) ?_
   intro fr t H
   refine at_seg [(2, [])] [(0, .str p0), (4, .ptr (some (h.size, 0))), (7, .ptr (some (h1.size, 0))), (20, .bool x12)] H (noU_all rfl) (fun fr => by kernel_rfl) ?_
   intro fr H
   refine at_cut [(3, []), (4, []), (5, []), (6, []), (7, []), (8, []), (9, []), (10, [])] (fun fr' h' => h5 = h' ∧ Has fr' 54 [(4, .ptr (some (h.size, 0))), (7, .ptr (some (h1.size, 0))), (28, .bool (x12 && (decide (x2.at_ < (p0.length : Int)))))]) ?_ ?_
   ·cases hb : (x12 : Bool) with
    | true =>
     replace H := H.know 20 hb (by kernel_rfl)
     refine at_seg [(3, []), (4, []), (5, [])] [(0, .str p0), (4, .ptr (some (h.size, 0))), (7, .ptr (some (h1.size, 0))), (20, .bool true), (23, .ptr (some (h1.size, 1)))] H (noU_all rfl) (fun fr => by kernel_rfl) ?_
     intro fr H
     refine at_step (v := .int .i64 x2.at_) (h1 := h5) [(0, .str p0), (4, .ptr (some (h.size, 0))), (7, .ptr (some (h1.size, 0))), (20, .bool true), (24, .int .i64 x2.at_)] H (fun fr => by kernel_rfl) (fun fr => .of (s_ld (by kernel_rfl) (A.ld1 0 rfl (o := 1) rfl))) ?_
     intro fr t H
     refine at_seg [(7, []), (8, []), (9, []), (10, [])] [(4, .ptr (some (h.size, 0))), (7, .ptr (some (h1.size, 0))), (28, .bool (decide (x2.at_ < (p0.length : Int))))] H (noU_all rfl) (fun fr => by kernel_rfl) ?_
     intro fr H
     exact at_nil ⟨rfl, by first | exact H.less _ (fun fr => by rfl) | exact H.less _ (fun fr => by rw [hb]; rfl)⟩
    | false =>
     replace H := H.know 20 hb (by kernel_rfl)
     refine at_seg [(3, []), (4, []), (5, []), (6, []), (7, []), (8, []), (9, []), (10, [])] [(4, .ptr (some (h.size, 0))), (7, .ptr (some (h1.size, 0))), (28, .bool false)] H (noU_all rfl) (fun fr => by kernel_rfl) ?_
     intro fr H
     exact at_nil ⟨rfl, by first | exact H.less _ (fun fr => by rfl) | exact H.less _ (fun fr => by rw [hb]; rfl)⟩
   ·intro t fr h' hK
    obtain ⟨e, H⟩ := hK
    subst e
    refine at_nil ?_
    show AW cfg 6 g (right (left (right (right (right (right (bodyC cfg.P 6))))))) fr h5 _
    rcases iteB_some hm with ⟨hb, hm⟩ | ⟨hb, hm⟩
    ·replace H := H.know 28 hb (by kernel_rfl)
     refine aw_true (x := .tmp 28) (by kernel_rfl) H (fun fr => by kernel_rfl) ?_
     refine aw_reg (id := 6) (n := 6) [(0, []), (1, []), (2, []), (3, []), (4, []), (5, [])] (by kernel_rfl) (by kernel_rfl) ?_
     refine at_seg [(0, []), (1, []), (2, []), (3, [])] [(4, .ptr (some (h.size, 0))), (7, .ptr (some (h1.size, 0))), (29, .ptr (some (h1.size, 0))), (32, .ptr (some (h1.size, 1)))] H (noU_all rfl) (fun fr => by kernel_rfl) ?_
     intro fr H
     refine at_step (v := .int .i64 x2.at_) (h1 := h5) [(4, .ptr (some (h.size, 0))), (7, .ptr (some (h1.size, 0))), (29, .ptr (some (h1.size, 0))), (33, .int .i64 x2.at_)] H (fun fr => by kernel_rfl) (fun fr => .of (s_ld (by kernel_rfl) (A.ld1 0 rfl (o := 1) rfl))) ?_
     intro fr t H
     have A1 := A.cut 2
     obtain ⟨x13, hx, hm⟩ := bind_some hm
     obtain ⟨v1, h6, hr, rfl, A1⟩ := ok_rex_walk_fail_sPOI (av := [.ptr (some (h1.size, 0)), .int .i64 x2.at_]) hx (by kernel_rfl) A1
     replace A : HH g h6 [.obj h1.size (.cells none 2 [.str x13.s_, .int .i64 x13.at_, .bool x13.extended_, rowV r1 x3.length, .int .i64 x13.t_.Root, .int .i64 x13.groups_, .int .i64 x13.depth_, .int .i64 x13.wrong_, .bool x13.full_]), .lst r1 45 (lst e_S_tree_Node x3), .obj h.size (.cells none 2 [.slice none 0, .int .i64 (0 : Int)])] F := A.glue0 (n := 2) A1
     refine at_step (v := .tuple []) (h1 := h6) [(4, .ptr (some (h.size, 0))), (7, .ptr (some (h1.size, 0)))] H (fun fr => by kernel_rfl) (fun fr => Steps.call (by kernel_rfl) hr) ?_
     intro fr t H
     refine at_nil ?_
     exact Or.inl ⟨x13.s_, x13.at_, x13.extended_, x13.t_.Root, x13.groups_, x13.depth_, x13.wrong_, x13.full_, rfl, Option.some.inj hm, H.less _ (fun fr => by kernel_rfl), A⟩
    ·replace H := H.know 28 hb (by kernel_rfl)
     refine aw_false (x := .tmp 28) (by kernel_rfl) H (fun fr => by kernel_rfl) ?_
     refine aw_skip (by kernel_rfl) ?_
     exact Or.inl ⟨x2.s_, x2.at_, x2.extended_, x2.t_.Root, x2.groups_, x2.depth_, x2.wrong_, x2.full_, rfl, Option.some.inj hm, H.less _ (fun fr => by kernel_rfl), A⟩
  ·clear ho
   clear A
   intro e fr h7 hQ
   rcases hQ with ⟨x4, x5, x6, x7, x8, x9, x10, x11, rfl, rfl, H, A⟩ | hF
   ·skip
    show AW cfg 6 g (right (right (right (right (right (bodyC cfg.P 6)))))) fr h7 _
    refine aw_seq (by kernel_rfl) ?_
    refine aw_block (id := 0) (by kernel_rfl) ?_
    refine aw_seq (by kernel_rfl) ?_
    refine aw_reg (id := 7) (n := 4) [(0, []), (1, []), (2, []), (3, [])] (by kernel_rfl) (by kernel_rfl) ?_
    refine at_seg [(0, [])] [(4, .ptr (some (h.size, 0))), (7, .ptr (some (h1.size, 0))), (36, .ptr (some (h1.size, 0)))] H (noU_all rfl) (fun fr => by kernel_rfl) ?_
    intro fr H
    have A1 := A.cut 2
    obtain ⟨x14, hx, hm⟩ := bind_some hm
    obtain ⟨v1, h8, hr, rfl, A1⟩ := ok_rex_walk_ok_sPO (av := [.ptr (some (h1.size, 0))]) hx (by kernel_rfl) A1
    replace A : HH g h8 [.obj h1.size (.cells none 2 [.str x4, .int .i64 x5, .bool x6, rowV r1 x3.length, .int .i64 x7, .int .i64 x8, .int .i64 x9, .int .i64 x10, .bool x11]), .lst r1 45 (lst e_S_tree_Node x3), .obj h.size (.cells none 2 [.slice none 0, .int .i64 (0 : Int)])] F := A.glue0 (n := 2) A1
    refine at_step (v := .bool x14) (h1 := h8) [(4, .ptr (some (h.size, 0))), (7, .ptr (some (h1.size, 0))), (37, .bool x14)] H (fun fr => by kernel_rfl) (fun fr => Steps.call (by kernel_rfl) hr) ?_
    intro fr t H
    refine at_seg [(2, []), (3, [])] [(4, .ptr (some (h.size, 0))), (7, .ptr (some (h1.size, 0))), (35, .bool (!x14))] H (noU_all rfl) (fun fr => by kernel_rfl) ?_
    intro fr H
    refine at_nil ?_
    show AW cfg 6 g (right (left (left (right (right (right (right (right (bodyC cfg.P 6))))))))) fr h8 _
    rcases iteB_some hm with ⟨hb, hm⟩ | ⟨hb, hm⟩
    ·replace H := H.know 35 hb (by kernel_rfl)
     refine aw_true (x := .tmp 35) (by kernel_rfl) H (fun fr => by kernel_rfl) ?_
     refine aw_seq (by kernel_rfl) ?_
     refine aw_draw (id := 8) (n := 8) (by kernel_rfl) [(0, []), (1, []), (2, []), (3, []), (4, []), (5, [4]), (6, []), (7, [])] (by kernel_rfl) ?_
     refine at_seg [(0, []), (1, []), (2, []), (3, [])] [(4, .ptr (some (h.size, 0))), (39, .agg [.slice none 0, .int .i64 (0 : Int)]), (42, .ptr (some (h1.size, 7)))] H (noU_all rfl) (fun fr => by kernel_rfl) ?_
     intro fr H
     refine at_stepT (v := .int .i64 x10) (h1 := h8) (tch' := [(4, h1.size)]) (g.prot) [(4, .ptr (some (h.size, 0))), (39, .agg [.slice none 0, .int .i64 (0 : Int)]), (43, .int .i64 x10)] H (fun fr => by kernel_rfl) (by kernel_rfl) (fun fr => by kernel_rfl) (fun fr => .of (s_ld (by kernel_rfl) (A.ld1 0 rfl (o := 7) rfl))) (fun fr => by kernel_rfl) ?_
     intro fr H
     replace A : HH g h8 [.obj h.size (.cells none 2 [.slice none 0, .int .i64 (0 : Int)]), .obj h1.size (.cells none 2 [.str x4, .int .i64 x5, .bool x6, rowV r1 x3.length, .int .i64 x7, .int .i64 x8, .int .i64 x9, .int .i64 x10, .bool x11]), .lst r1 45 (lst e_S_tree_Node x3)] F := (A.front 2 rfl)
     have A1 := A.prot2 1 (pr := [h1.size]) (.cons 0 rfl (by simp [Ck.ids]) .nil)
     obtain ⟨h9, hx, A1⟩ := A1.st 0 rfl (o := 0) (new := [.slice none 0, .int .i64 (0 : Int)]) (ds := [.slice none 0, .int .i64 (0 : Int)]) (Nat.le_of_ble_eq_true rfl) rfl rfl
     replace A : HH g h9 [.obj h.size (.cells none 2 [.slice none 0, .int .i64 (0 : Int)]), .obj h1.size (.cells none 2 [.str x4, .int .i64 x5, .bool x6, rowV r1 x3.length, .int .i64 x7, .int .i64 x8, .int .i64 x9, .int .i64 x10, .bool x11]), .lst r1 45 (lst e_S_tree_Node x3)] F := A.glueP (n := 1) A1
     refine at_stepT (v := .tuple []) (h1 := h9) (tch' := [(4, h1.size)]) (h1.size :: g.prot) [(4, .ptr (some (h.size, 0))), (43, .int .i64 x10)] H (fun fr => by kernel_rfl) (by kernel_rfl) (fun fr => by kernel_rfl) (fun fr => .of (s_stG (by kernel_rfl) (stG_st hx rfl))) (fun fr => by kernel_rfl) ?_
     intro fr H
     refine at_seg [(6, []), (7, [])] [(4, .ptr (some (h.size, 0))), (5, .int .i64 x10), (6, .int .i64 (11 : Int))] H (noU_all rfl) (fun fr => by kernel_rfl) ?_
     intro fr H
     refine at_nil ?_
     show AW cfg 6 g (right (left (right (left (left (right (right (right (right (right (bodyC cfg.P 6))))))))))) fr h9 _
     refine aw_ret (by kernel_rfl) ?_
     have e0 := Option.some.inj hm
     obtain ⟨y0, z0⟩ := Prod.mk.inj e0
     obtain ⟨y1, z1⟩ := Prod.mk.inj z0
     subst y0
     subst y1
     subst z1
     refine ⟨.inl rfl, .tuple [.agg [.slice none 0, .int .i64 (0 : Int)], .int .i64 x10, .int .i64 (11 : Int)], resL_many (.cell (resT H (fun fr => by kernel_rfl)) (load_ldA (by kernel_rfl) (by kernel_rfl) (A.ldA 0 rfl (o := 0) (n := 2) ⟨Nat.le_of_ble_eq_true rfl, rfl⟩)) (.tmp (resT H (fun fr => by kernel_rfl)) (.tmp (resT H (fun fr => by kernel_rfl)) .nil))), ?_⟩
     refine ⟨.tuple [.agg [vs e_S_tree_Node ([] : List S_tree_Node), .int .i64 (0 : Int)], .int .i64 x10, .int .i64 (11 : Int)], h9, by first | rfl | (simp only [fz3T, fz3A, fz3B, fz3R, fz2A, fz2R, fz2V, fz2I, fz2B, fz2S, fz2N, fzL0, fzL1, fz1I, fz1B, fz1S, fz1V, fz1N, Option.map_some] <;> rfl), ?_⟩
     replace A : HH g h9 [] F := (HH.dropF A 0)
     exact ⟨rfl, A⟩
    ·replace H := H.know 35 hb (by kernel_rfl)
     refine aw_false (x := .tmp 35) (by kernel_rfl) H (fun fr => by kernel_rfl) ?_
     refine aw_seq (by kernel_rfl) ?_
     refine aw_reg (id := 9) (n := 5) [(0, []), (1, []), (2, []), (3, []), (4, [])] (by kernel_rfl) (by kernel_rfl) ?_
     refine at_seg [(0, []), (1, []), (2, [])] [(4, .ptr (some (h.size, 0))), (7, .ptr (some (h1.size, 0))), (47, .ptr (some (h1.size, 8)))] H (noU_all rfl) (fun fr => by kernel_rfl) ?_
     intro fr H
     refine at_step (v := .bool x11) (h1 := h8) [(4, .ptr (some (h.size, 0))), (7, .ptr (some (h1.size, 0))), (48, .bool x11)] H (fun fr => by kernel_rfl) (fun fr => .of (s_ld (by kernel_rfl) (A.ld1 0 rfl (o := 8) rfl))) ?_
     intro fr t H
     refine at_seg [(4, [])] [(4, .ptr (some (h.size, 0))), (7, .ptr (some (h1.size, 0))), (44, .bool x11)] H (noU_all rfl) (fun fr => by kernel_rfl) ?_
     intro fr H
     refine at_nil ?_
     show AW cfg 6 g (right (right (right (left (left (right (right (right (right (right (bodyC cfg.P 6))))))))))) fr h8 _
     rcases iteB_some hm with ⟨hb, hm⟩ | ⟨hb, hm⟩
     ·replace H := H.know 44 hb (by kernel_rfl)
      refine aw_true (x := .tmp 44) (by kernel_rfl) H (fun fr => by kernel_rfl) ?_
      refine aw_seq (by kernel_rfl) ?_
      refine aw_reg (id := 10) (n := 4) [(0, []), (1, []), (2, []), (3, [])] (by kernel_rfl) (by kernel_rfl) ?_
      refine at_seg [(0, [])] [(4, .ptr (some (h.size, 0))), (49, .agg [.slice none 0, .int .i64 (0 : Int)])] H (noU_all rfl) (fun fr => by kernel_rfl) ?_
      intro fr H
      obtain ⟨h10, hx, A1⟩ := A.st 2 rfl (o := 0) (new := [.slice none 0, .int .i64 (0 : Int)]) (ds := [.slice none 0, .int .i64 (0 : Int)]) (Nat.le_of_ble_eq_true rfl) rfl rfl
      replace A : HH g h10 [.obj h1.size (.cells none 2 [.str x4, .int .i64 x5, .bool x6, rowV r1 x3.length, .int .i64 x7, .int .i64 x8, .int .i64 x9, .int .i64 x10, .bool x11]), .lst r1 45 (lst e_S_tree_Node x3), .obj h.size (.cells none 2 [.slice none 0, .int .i64 (0 : Int)])] F := A1
      refine at_step (v := .tuple []) (h1 := h10) [(4, .ptr (some (h.size, 0)))] H (fun fr => by kernel_rfl) (fun fr => .of (s_stG (by kernel_rfl) (stG_st hx rfl))) ?_
      intro fr t H
      refine at_seg [(2, []), (3, [])] [(4, .ptr (some (h.size, 0))), (5, .int .i64 (0 : Int)), (6, .int .i64 (8 : Int))] H (noU_all rfl) (fun fr => by kernel_rfl) ?_
      intro fr H
      refine at_nil ?_
      show AW cfg 6 g (right (left (right (right (right (left (left (right (right (right (right (right (bodyC cfg.P 6))))))))))))) fr h10 _
      refine aw_ret (by kernel_rfl) ?_
      have e0 := Option.some.inj hm
      obtain ⟨y0, z0⟩ := Prod.mk.inj e0
      obtain ⟨y1, z1⟩ := Prod.mk.inj z0
      subst y0
      subst y1
      subst z1
      refine ⟨.inl rfl, .tuple [.agg [.slice none 0, .int .i64 (0 : Int)], .int .i64 (0 : Int), .int .i64 (8 : Int)], resL_many (.cell (resT H (fun fr => by kernel_rfl)) (load_ldA (by kernel_rfl) (by kernel_rfl) (A.ldA 2 rfl (o := 0) (n := 2) ⟨Nat.le_of_ble_eq_true rfl, rfl⟩)) (.tmp (resT H (fun fr => by kernel_rfl)) (.tmp (resT H (fun fr => by kernel_rfl)) .nil))), ?_⟩
      refine ⟨.tuple [.agg [vs e_S_tree_Node ([] : List S_tree_Node), .int .i64 (0 : Int)], .int .i64 (0 : Int), .int .i64 (8 : Int)], h10, by first | rfl | (simp only [fz3T, fz3A, fz3B, fz3R, fz2A, fz2R, fz2V, fz2I, fz2B, fz2S, fz2N, fzL0, fzL1, fz1I, fz1B, fz1S, fz1V, fz1N, Option.map_some] <;> rfl), ?_⟩
      replace A : HH g h10 [] F := (HH.dropF A 0)
      exact ⟨rfl, A⟩
     ·replace H := H.know 44 hb (by kernel_rfl)
      refine aw_false (x := .tmp 44) (by kernel_rfl) H (fun fr => by kernel_rfl) ?_
      refine aw_skip (by kernel_rfl) ?_
      show AW cfg 6 g (right (right (right (right (right (right (bodyC cfg.P 6))))))) fr h8 _
      refine aw_seq (by kernel_rfl) ?_
      refine aw_reg (id := 11) (n := 7) [(0, []), (1, []), (2, []), (3, []), (4, []), (5, []), (6, [])] (by kernel_rfl) (by kernel_rfl) ?_
      refine at_seg [(0, []), (1, []), (2, [])] [(4, .ptr (some (h.size, 0))), (52, .ptr (some (h1.size, 3)))] H (noU_all rfl) (fun fr => by kernel_rfl) ?_
      intro fr H
      refine at_step (v := .agg [rowV r1 x3.length, .int .i64 x7]) (h1 := h8) [(4, .ptr (some (h.size, 0))), (53, .agg [rowV r1 x3.length, .int .i64 x7])] H (fun fr => by kernel_rfl) (fun fr => .of (s_ldA (by kernel_rfl) (A.ldA 0 rfl (o := 3) (n := 2) ⟨Nat.le_of_ble_eq_true rfl, rfl⟩))) ?_
      intro fr t H
      obtain ⟨h11, hx, A1⟩ := A.st 2 rfl (o := 0) (new := [rowV r1 x3.length, .int .i64 x7]) (ds := [rowV r1 x3.length, .int .i64 x7]) (Nat.le_of_ble_eq_true rfl) rfl rfl
      replace A : HH g h11 [.obj h1.size (.cells none 2 [.str x4, .int .i64 x5, .bool x6, rowV r1 x3.length, .int .i64 x7, .int .i64 x8, .int .i64 x9, .int .i64 x10, .bool x11]), .lst r1 45 (lst e_S_tree_Node x3), .obj h.size (.cells none 2 [rowV r1 x3.length, .int .i64 x7])] F := A1
      refine at_step (v := .tuple []) (h1 := h11) [(4, .ptr (some (h.size, 0)))] H (fun fr => by kernel_rfl) (fun fr => .of (s_stG (by kernel_rfl) (stG_st hx rfl))) ?_
      intro fr t H
      refine at_seg [(5, []), (6, [])] [(4, .ptr (some (h.size, 0))), (5, .int .i64 (0 : Int)), (6, .int .i64 (0 : Int))] H (noU_all rfl) (fun fr => by kernel_rfl) ?_
      intro fr H
      refine at_nil ?_
      show AW cfg 6 g (right (right (right (right (right (right (right (bodyC cfg.P 6)))))))) fr h11 _
      refine aw_ret (by kernel_rfl) ?_
      have e0 := Option.some.inj hm
      obtain ⟨y0, z0⟩ := Prod.mk.inj e0
      obtain ⟨y1, z1⟩ := Prod.mk.inj z0
      subst y0
      subst y1
      subst z1
      refine ⟨.inl rfl, .tuple [.agg [rowV r1 x3.length, .int .i64 x7], .int .i64 (0 : Int), .int .i64 (0 : Int)], resL_many (.cell (resT H (fun fr => by kernel_rfl)) (load_ldA (by kernel_rfl) (by kernel_rfl) (A.ldA 2 rfl (o := 0) (n := 2) ⟨Nat.le_of_ble_eq_true rfl, rfl⟩)) (.tmp (resT H (fun fr => by kernel_rfl)) (.tmp (resT H (fun fr => by kernel_rfl)) .nil))), ?_⟩
      obtain ⟨h12, hz0, A1⟩ := (A.front 1 rfl).frz (n := x3.length) (z := 10) (enc_S_tree_Node.lenL _) (by decide)
      replace A : HH g h12 [.obj h1.size (.cells none 2 [.str x4, .int .i64 x5, .bool x6, rowV r1 x3.length, .int .i64 x7, .int .i64 x8, .int .i64 x9, .int .i64 x10, .bool x11]), .obj h.size (.cells none 2 [rowV r1 x3.length, .int .i64 x7])] F := A1
      refine ⟨.tuple [.agg [vs e_S_tree_Node x3, .int .i64 x7], .int .i64 (0 : Int), .int .i64 (0 : Int)], h12, by first | rfl | (simp only [fz3T, fz3A, fz3B, fz3R, fz2A, fz2R, fz2V, fz2I, fz2B, fz2S, fz2N, fzL0, fzL1, fz1I, fz1B, fz1S, fz1V, fz1N, Option.map_some, hz0] <;> rfl), ?_⟩
      replace A : HH g h12 [] F := (HH.dropF A 0)
      exact ⟨rfl, A⟩
   ·exact hF.elim
/-! ### boulter/boulterlaw19.RexGroups -/
noncomputable def M_boulterlaw19_RexGroups_L0 (p0 : Int) (x1 : List UInt8) (x2 : List UInt8) (s : (List UInt8) × Int) : Option (((List UInt8) × Int) ⊕ (((List UInt8)))) :=
 match s with
 | (x3, x4) => iteB (decide (x4 < (Int.tmod (IntKind.i64.wrap p0) (20 : Int)))) (need (decide (x1.length + ([97] : List UInt8).length ≤ 9223372036854775807)) <| need (decide ((x1 ++ ([97] : List UInt8)).length + x2.length ≤ 9223372036854775807)) <| need (decide (x3.length + ((x1 ++ ([97] : List UInt8)) ++ x2).length ≤ 9223372036854775807)) <| some (.inl (x3 ++ ((x1 ++ ([97] : List UInt8)) ++ x2), IntKind.i64.wrap (x4 + (1 : Int))))) (some (.inr x3))
noncomputable def M_boulterlaw19_RexGroups_L1 (p1 : Int) (x1 : List UInt8) (s : (List UInt8) × Int) : Option (((List UInt8) × Int) ⊕ (((List UInt8)))) :=
 match s with
 | (x6, x7) => iteB (decide (x7 < (Int.tmod (IntKind.i64.wrap p1) (20 : Int)))) (need (decide (x6.length + x1.length ≤ 9223372036854775807)) <| some (.inl (x6 ++ x1, IntKind.i64.wrap (x7 + (1 : Int))))) (some (.inr x6))
noncomputable def M_boulterlaw19_RexGroups_L2 (p1 : Int) (x2 : List UInt8) (s : (List UInt8) × Int) : Option (((List UInt8) × Int) ⊕ (((List UInt8)))) :=
 match s with
 | (x9, x10) => iteB (decide (x10 < (Int.tmod (IntKind.i64.wrap p1) (20 : Int)))) (need (decide (([98] : List UInt8).length + x2.length ≤ 9223372036854775807)) <| need (decide (x9.length + (([98] : List UInt8) ++ x2).length ≤ 9223372036854775807)) <| some (.inl (x9 ++ (([98] : List UInt8) ++ x2), IntKind.i64.wrap (x10 + (1 : Int))))) (some (.inr x9))
noncomputable def M_boulterlaw19_RexGroups (p0 : Int) (p1 : Int) (p2 : Bool) : Option (Bool) :=
 (iteB p2 (some (([40] : List UInt8), ([41] : List UInt8))) (some (([92, 40] : List UInt8), ([92, 41] : List UInt8))) : Option (((List UInt8) × (List UInt8)))).bind fun (x1, x2) => (loop (M_boulterlaw19_RexGroups_L0 p0 x1 x2) (([] : List UInt8), (0 : Int))).bind fun x5 => (loop (M_boulterlaw19_RexGroups_L1 p1 x1) (x5, (0 : Int))).bind fun x8 => (loop (M_boulterlaw19_RexGroups_L2 p1 x2) (x8, (0 : Int))).bind fun x11 => (M_rex_Parse x11 p2).bind fun (x12, x13, x14) => (iteB (x14 == (0 : Int)) ((M_tree_Tree_Groups x12).bind fun x16 => some (x16 == (IntKind.i64.wrap ((Int.tmod (IntKind.i64.wrap p0) (20 : Int)) + (Int.tmod (IntKind.i64.wrap p1) (20 : Int)))))) (some false) : Option (Bool)).bind fun x15 => (iteB x15 ((M_boulterlaw19_awake).bind fun x18 => some x18) (some false) : Option (Bool)).bind fun x17 => some x17
theorem ok_boulterlaw19_RexGroups {g : Gd} {h : AHeap} {F : List Ck} {p0 : Int} {p1 : Int} {p2 : Bool} {q0 : Bool} {av : List AVal} (hm : M_boulterlaw19_RexGroups p0 p1 p2 = some q0) (hc : canL (cfg.still 4) av = [.int .u8 p0, .int .u8 p1, .bool p2]) (A : HH g h [] F) : ∃ v h', Runs cfg g h 4 av v h' ∧ v = .bool q0 ∧ HH g h' [] F := by
 refine runsQ1 (n := 67) (rs := [.tmp 6]) (by kernel_rfl) hc (by kernel_rfl) ?_
 clear hc
 unfold M_boulterlaw19_RexGroups at hm
 refine start (n := 67) [(0, .int .u8 p0), (1, .int .u8 p1), (2, .bool p2)] (by kernel_rfl) (by kernel_rfl) ?_
 intro fr H
 refine aw_seq (by kernel_rfl) ?_
 refine aw_reg (id := 0) (n := 1) [(0, [])] (by kernel_rfl) (by kernel_rfl) ?_
 refine at_seg [(0, [])] [(0, .int .u8 p0), (1, .int .u8 p1), (2, .bool p2)] H (noU_all rfl) (fun fr => by kernel_rfl) ?_
 intro fr H
 refine at_nil ?_
 show AW cfg 4 g (right (bodyC cfg.P 4)) fr h _
 refine aw_seq (by kernel_rfl) ?_
 refine aw_reg (id := 1) (n := 2) [(0, []), (1, [])] (by kernel_rfl) (by kernel_rfl) ?_
 refine at_seg [(0, []), (1, [])] [(0, .int .u8 p0), (1, .int .u8 p1), (2, .bool p2), (7, .str ([92, 40] : List UInt8)), (8, .str ([92, 41] : List UInt8))] H (noU_all rfl) (fun fr => by kernel_rfl) ?_
 intro fr H
 refine at_nil ?_
 show AW cfg 4 g (right (right (bodyC cfg.P 4))) fr h _
 refine aw_seq (by kernel_rfl) ?_
 obtain ⟨o1, ho, hm⟩ := bind_some hm
 refine aw_mono (Q' := fun e fr' h' => (∃ (x1 : List UInt8) (x2 : List UInt8), e = .normal ∧ (x1, x2) = o1 ∧ Has fr' 67 [(0, .int .u8 p0), (1, .int .u8 p1), (2, .bool p2), (7, .str x1), (8, .str x2)] ∧ HH g h' [] F) ∨ False) ?_ ?_
 ·replace hm := ho
  clear ho
  refine aw_seq (by kernel_rfl) ?_
  refine aw_reg (id := 2) (n := 1) [(0, [])] (by kernel_rfl) (by kernel_rfl) ?_
  refine at_seg [(0, [])] [(0, .int .u8 p0), (1, .int .u8 p1), (2, .bool p2), (7, .str ([92, 40] : List UInt8)), (8, .str ([92, 41] : List UInt8)), (15, .bool p2)] H (noU_all rfl) (fun fr => by kernel_rfl) ?_
  intro fr H
  refine at_nil ?_
  show AW cfg 4 g (right (left (right (right (bodyC cfg.P 4))))) fr h _
  rcases iteB_some hm with ⟨hb, hm⟩ | ⟨hb, hm⟩
  ·replace H := H.know 15 hb (by kernel_rfl)
   refine aw_true (x := .tmp 15) (by kernel_rfl) H (fun fr => by kernel_rfl) ?_
   refine aw_reg (id := 3) (n := 2) [(0, []), (1, [])] (by kernel_rfl) (by kernel_rfl) ?_
   refine at_seg [(0, []), (1, [])] [(0, .int .u8 p0), (1, .int .u8 p1), (2, .bool p2), (7, .str ([40] : List UInt8)), (8, .str ([41] : List UInt8))] H (noU_all rfl) (fun fr => by kernel_rfl) ?_
   intro fr H
   refine at_nil ?_
   exact Or.inl ⟨([40] : List UInt8), ([41] : List UInt8), rfl, Option.some.inj hm, H.less _ (fun fr => by kernel_rfl), A⟩
  ·replace H := H.know 15 hb (by kernel_rfl)
   refine aw_false (x := .tmp 15) (by kernel_rfl) H (fun fr => by kernel_rfl) ?_
   refine aw_skip (by kernel_rfl) ?_
   exact Or.inl ⟨([92, 40] : List UInt8), ([92, 41] : List UInt8), rfl, Option.some.inj hm, H.less _ (fun fr => by kernel_rfl), A⟩
 ·clear ho
  clear A
  intro e fr h1 hQ
  rcases hQ with ⟨x1, x2, rfl, rfl, H, A⟩ | hF
  ·skip
   show AW cfg 4 g (right (right (right (bodyC cfg.P 4)))) fr h1 _
   refine aw_seq (by kernel_rfl) ?_
   refine aw_reg (id := 4) (n := 8) [(0, []), (1, []), (2, []), (3, []), (4, []), (5, []), (6, []), (7, [])] (by kernel_rfl) (by kernel_rfl) ?_
   refine at_seg [(0, []), (1, []), (2, []), (3, []), (4, []), (5, []), (6, []), (7, [])] [(2, .bool p2), (7, .str x1), (8, .str x2), (9, .int .i64 (Int.tmod (IntKind.i64.wrap p0) (20 : Int))), (10, .int .i64 (Int.tmod (IntKind.i64.wrap p1) (20 : Int)))] H (noU_all rfl) (fun fr => by kernel_rfl) ?_
   intro fr H
   refine at_nil ?_
   show AW cfg 4 g (right (right (right (right (bodyC cfg.P 4))))) fr h1 _
   refine aw_seq (by kernel_rfl) ?_
   refine aw_reg (id := 5) (n := 1) [(0, [])] (by kernel_rfl) (by kernel_rfl) ?_
   refine at_seg [(0, [])] [(2, .bool p2), (7, .str x1), (8, .str x2), (9, .int .i64 (Int.tmod (IntKind.i64.wrap p0) (20 : Int))), (10, .int .i64 (Int.tmod (IntKind.i64.wrap p1) (20 : Int))), (11, .str ([] : List UInt8))] H (noU_all rfl) (fun fr => by kernel_rfl) ?_
   intro fr H
   refine at_nil ?_
   show AW cfg 4 g (right (right (right (right (right (bodyC cfg.P 4)))))) fr h1 _
   refine aw_seq (by kernel_rfl) ?_
   refine aw_seq (by kernel_rfl) ?_
   refine aw_reg (id := 6) (n := 2) [(0, []), (1, [])] (by kernel_rfl) (by kernel_rfl) ?_
   refine at_seg [(0, []), (1, [])] [(2, .bool p2), (7, .str x1), (8, .str x2), (9, .int .i64 (Int.tmod (IntKind.i64.wrap p0) (20 : Int))), (10, .int .i64 (Int.tmod (IntKind.i64.wrap p1) (20 : Int))), (11, .str ([] : List UInt8)), (22, .int .i64 (Int.tmod (IntKind.i64.wrap p0) (20 : Int))), (23, .int .i64 (0 : Int))] H (noU_all rfl) (fun fr => by kernel_rfl) ?_
   intro fr H
   refine at_nil ?_
   show AW cfg 4 g (right (left (right (right (right (right (right (bodyC cfg.P 4)))))))) fr h1 _
   refine aw_block (id := 0) (by kernel_rfl) ?_
   obtain ⟨o2, ho, hm⟩ := bind_some hm
   refine aw_mono (Q' := fun e fr' h' => (∃ (x5 : List UInt8), e = .exit 0 ∧ x5 = o2 ∧ Has fr' 67 [(2, .bool p2), (7, .str x1), (8, .str x2), (9, .int .i64 (Int.tmod (IntKind.i64.wrap p0) (20 : Int))), (10, .int .i64 (Int.tmod (IntKind.i64.wrap p1) (20 : Int))), (11, .str x5)] ∧ HH g h' [] F) ∨ False) ?_ ?_
   ·refine aw_loop (by kernel_rfl) (fun (s : (List UInt8) × Int) fr' h' => ∃ (x3 : List UInt8) (x4 : Int), (x3, x4) = s ∧ Has fr' 67 [(2, .bool p2), (7, .str x1), (8, .str x2), (9, .int .i64 (Int.tmod (IntKind.i64.wrap p0) (20 : Int))), (10, .int .i64 (Int.tmod (IntKind.i64.wrap p1) (20 : Int))), (11, .str x3), (22, .int .i64 (Int.tmod (IntKind.i64.wrap p0) (20 : Int))), (23, .int .i64 x4)] ∧ HH g h' [] F) ho ⟨([] : List UInt8), (0 : Int), rfl, H.less _ (fun fr => by kernel_rfl), A⟩ ?_
    clear ho hm H A
    intro s q fr h2 hI hm
    obtain ⟨x3, x4, rfl, H, A⟩ := hI
    unfold M_boulterlaw19_RexGroups_L0 at hm
    refine aw_seq (by kernel_rfl) ?_
    refine aw_reg (id := 7) (n := 1) [(0, [])] (by kernel_rfl) (by kernel_rfl) ?_
    refine at_seg [(0, [])] [(2, .bool p2), (7, .str x1), (8, .str x2), (9, .int .i64 (Int.tmod (IntKind.i64.wrap p0) (20 : Int))), (10, .int .i64 (Int.tmod (IntKind.i64.wrap p1) (20 : Int))), (11, .str x3), (22, .int .i64 (Int.tmod (IntKind.i64.wrap p0) (20 : Int))), (23, .int .i64 x4), (24, .bool (decide (x4 < (Int.tmod (IntKind.i64.wrap p0) (20 : Int)))))] H (noU_all rfl) (fun fr => by kernel_rfl) ?_
    intro fr H
    refine at_nil ?_
    show AW cfg 4 g (right (left (left (right (left (right (right (right (right (right (bodyC cfg.P 4))))))))))) fr h2 _
    refine aw_seq (by kernel_rfl) ?_
    rcases iteB_some hm with ⟨hb, hm⟩ | ⟨hb, hm⟩
    ·replace H := H.know 24 hb (by kernel_rfl)
     refine aw_true (x := .tmp 24) (by kernel_rfl) H (fun fr => by kernel_rfl) ?_
     refine aw_skip (by kernel_rfl) ?_
     show AW cfg 4 g (right (right (left (left (right (left (right (right (right (right (right (bodyC cfg.P 4)))))))))))) fr h2 _
     refine aw_seq (by kernel_rfl) ?_
     refine aw_block (id := 1) (by kernel_rfl) ?_
     refine aw_reg (id := 8) (n := 7) [(0, []), (1, []), (2, []), (3, []), (4, []), (5, []), (6, [])] (by kernel_rfl) (by kernel_rfl) ?_
     refine at_seg [(0, []), (1, [])] [(2, .bool p2), (7, .str x1), (8, .str x2), (9, .int .i64 (Int.tmod (IntKind.i64.wrap p0) (20 : Int))), (10, .int .i64 (Int.tmod (IntKind.i64.wrap p1) (20 : Int))), (22, .int .i64 (Int.tmod (IntKind.i64.wrap p0) (20 : Int))), (23, .int .i64 x4), (25, .str x3), (26, .str x1)] H (noU_all rfl) (fun fr => by kernel_rfl) ?_
     intro fr H
     obtain ⟨hb, hm⟩ := need_some hm
     refine at_step (v := .str (x1 ++ ([97] : List UInt8))) (h1 := h2) [(2, .bool p2), (7, .str x1), (8, .str x2), (9, .int .i64 (Int.tmod (IntKind.i64.wrap p0) (20 : Int))), (10, .int .i64 (Int.tmod (IntKind.i64.wrap p1) (20 : Int))), (22, .int .i64 (Int.tmod (IntKind.i64.wrap p0) (20 : Int))), (23, .int .i64 x4), (25, .str x3), (27, .str (x1 ++ ([97] : List UInt8)))] H (fun fr => by kernel_rfl) (fun fr => .of (s_cat (by kernel_rfl) hb)) ?_
     intro fr t H
     refine at_seg [(3, [])] [(2, .bool p2), (7, .str x1), (8, .str x2), (9, .int .i64 (Int.tmod (IntKind.i64.wrap p0) (20 : Int))), (10, .int .i64 (Int.tmod (IntKind.i64.wrap p1) (20 : Int))), (22, .int .i64 (Int.tmod (IntKind.i64.wrap p0) (20 : Int))), (23, .int .i64 x4), (25, .str x3), (27, .str (x1 ++ ([97] : List UInt8))), (28, .str x2)] H (noU_all rfl) (fun fr => by kernel_rfl) ?_
     intro fr H
     obtain ⟨hb, hm⟩ := need_some hm
     refine at_step (v := .str ((x1 ++ ([97] : List UInt8)) ++ x2)) (h1 := h2) [(2, .bool p2), (7, .str x1), (8, .str x2), (9, .int .i64 (Int.tmod (IntKind.i64.wrap p0) (20 : Int))), (10, .int .i64 (Int.tmod (IntKind.i64.wrap p1) (20 : Int))), (22, .int .i64 (Int.tmod (IntKind.i64.wrap p0) (20 : Int))), (23, .int .i64 x4), (25, .str x3), (29, .str ((x1 ++ ([97] : List UInt8)) ++ x2))] H (fun fr => by kernel_rfl) (fun fr => .of (s_cat (by kernel_rfl) hb)) ?_
     intro fr t H
     obtain ⟨hb, hm⟩ := need_some hm
     refine at_step (v := .str (x3 ++ ((x1 ++ ([97] : List UInt8)) ++ x2))) (h1 := h2) [(2, .bool p2), (7, .str x1), (8, .str x2), (9, .int .i64 (Int.tmod (IntKind.i64.wrap p0) (20 : Int))), (10, .int .i64 (Int.tmod (IntKind.i64.wrap p1) (20 : Int))), (22, .int .i64 (Int.tmod (IntKind.i64.wrap p0) (20 : Int))), (23, .int .i64 x4), (30, .str (x3 ++ ((x1 ++ ([97] : List UInt8)) ++ x2)))] H (fun fr => by kernel_rfl) (fun fr => .of (s_cat (by kernel_rfl) hb)) ?_
     intro fr t H
     refine at_seg [(6, [])] [(2, .bool p2), (7, .str x1), (8, .str x2), (9, .int .i64 (Int.tmod (IntKind.i64.wrap p0) (20 : Int))), (10, .int .i64 (Int.tmod (IntKind.i64.wrap p1) (20 : Int))), (11, .str (x3 ++ ((x1 ++ ([97] : List UInt8)) ++ x2))), (22, .int .i64 (Int.tmod (IntKind.i64.wrap p0) (20 : Int))), (23, .int .i64 x4)] H (noU_all rfl) (fun fr => by kernel_rfl) ?_
     intro fr H
     refine at_nil ?_
     show AW cfg 4 g (right (right (right (left (left (right (left (right (right (right (right (right (bodyC cfg.P 4))))))))))))) fr h2 _
     refine aw_reg (id := 9) (n := 2) [(0, []), (1, [])] (by kernel_rfl) (by kernel_rfl) ?_
     refine at_seg [(0, []), (1, [])] [(2, .bool p2), (7, .str x1), (8, .str x2), (9, .int .i64 (Int.tmod (IntKind.i64.wrap p0) (20 : Int))), (10, .int .i64 (Int.tmod (IntKind.i64.wrap p1) (20 : Int))), (11, .str (x3 ++ ((x1 ++ ([97] : List UInt8)) ++ x2))), (22, .int .i64 (Int.tmod (IntKind.i64.wrap p0) (20 : Int))), (23, .int .i64 (IntKind.i64.wrap (x4 + (1 : Int))))] H (noU_all rfl) (fun fr => by kernel_rfl) ?_
     intro fr H
     refine at_nil ?_
     exact Exists.intro (x3 ++ ((x1 ++ ([97] : List UInt8)) ++ x2), IntKind.i64.wrap (x4 + (1 : Int))) (And.intro (Option.some.inj hm).symm ⟨x3 ++ ((x1 ++ ([97] : List UInt8)) ++ x2), IntKind.i64.wrap (x4 + (1 : Int)), rfl, H.less _ (fun fr => by kernel_rfl), A⟩)
    ·replace H := H.know 24 hb (by kernel_rfl)
     refine aw_false (x := .tmp 24) (by kernel_rfl) H (fun fr => by kernel_rfl) ?_
     refine aw_exit (i := 0) (by kernel_rfl) ?_
     exact Exists.intro _ (And.intro (Option.some.inj hm).symm (fun e => Or.inl ⟨x3, rfl, e, H.less _ (fun fr => by kernel_rfl), A⟩))
   ·clear ho
    clear A
    intro e fr h3 hQ
    rcases hQ with ⟨x5, rfl, rfl, H, A⟩ | hF
    ·skip
     show AW cfg 4 g (right (right (right (right (right (right (bodyC cfg.P 4))))))) fr h3 _
     refine aw_seq (by kernel_rfl) ?_
     refine aw_seq (by kernel_rfl) ?_
     refine aw_reg (id := 10) (n := 2) [(0, []), (1, [])] (by kernel_rfl) (by kernel_rfl) ?_
     refine at_seg [(0, []), (1, [])] [(2, .bool p2), (7, .str x1), (8, .str x2), (9, .int .i64 (Int.tmod (IntKind.i64.wrap p0) (20 : Int))), (10, .int .i64 (Int.tmod (IntKind.i64.wrap p1) (20 : Int))), (11, .str x5), (32, .int .i64 (Int.tmod (IntKind.i64.wrap p1) (20 : Int))), (33, .int .i64 (0 : Int))] H (noU_all rfl) (fun fr => by kernel_rfl) ?_
     intro fr H
     refine at_nil ?_
     show AW cfg 4 g (right (left (right (right (right (right (right (right (bodyC cfg.P 4))))))))) fr h3 _
     refine aw_block (id := 2) (by kernel_rfl) ?_
     obtain ⟨o3, ho, hm⟩ := bind_some hm
     refine aw_mono (Q' := fun e fr' h' => (∃ (x8 : List UInt8), e = .exit 2 ∧ x8 = o3 ∧ Has fr' 67 [(2, .bool p2), (8, .str x2), (9, .int .i64 (Int.tmod (IntKind.i64.wrap p0) (20 : Int))), (10, .int .i64 (Int.tmod (IntKind.i64.wrap p1) (20 : Int))), (11, .str x8)] ∧ HH g h' [] F) ∨ False) ?_ ?_
     ·refine aw_loop (by kernel_rfl) (fun (s : (List UInt8) × Int) fr' h' => ∃ (x6 : List UInt8) (x7 : Int), (x6, x7) = s ∧ Has fr' 67 [(2, .bool p2), (7, .str x1), (8, .str x2), (9, .int .i64 (Int.tmod (IntKind.i64.wrap p0) (20 : Int))), (10, .int .i64 (Int.tmod (IntKind.i64.wrap p1) (20 : Int))), (11, .str x6), (32, .int .i64 (Int.tmod (IntKind.i64.wrap p1) (20 : Int))), (33, .int .i64 x7)] ∧ HH g h' [] F) ho ⟨x5, (0 : Int), rfl, H.less _ (fun fr => by kernel_rfl), A⟩ ?_
      clear ho hm H A
      intro s q fr h4 hI hm
      obtain ⟨x6, x7, rfl, H, A⟩ := hI
      unfold M_boulterlaw19_RexGroups_L1 at hm
      refine aw_seq (by kernel_rfl) ?_
      refine aw_reg (id := 11) (n := 1) [(0, [])] (by kernel_rfl) (by kernel_rfl) ?_
      refine at_seg [(0, [])] [(2, .bool p2), (7, .str x1), (8, .str x2), (9, .int .i64 (Int.tmod (IntKind.i64.wrap p0) (20 : Int))), (10, .int .i64 (Int.tmod (IntKind.i64.wrap p1) (20 : Int))), (11, .str x6), (32, .int .i64 (Int.tmod (IntKind.i64.wrap p1) (20 : Int))), (33, .int .i64 x7), (34, .bool (decide (x7 < (Int.tmod (IntKind.i64.wrap p1) (20 : Int)))))] H (noU_all rfl) (fun fr => by kernel_rfl) ?_
      intro fr H
      refine at_nil ?_
      show AW cfg 4 g (right (left (left (right (left (right (right (right (right (right (right (bodyC cfg.P 4)))))))))))) fr h4 _
      refine aw_seq (by kernel_rfl) ?_
      rcases iteB_some hm with ⟨hb, hm⟩ | ⟨hb, hm⟩
      ·replace H := H.know 34 hb (by kernel_rfl)
       refine aw_true (x := .tmp 34) (by kernel_rfl) H (fun fr => by kernel_rfl) ?_
       refine aw_skip (by kernel_rfl) ?_
       show AW cfg 4 g (right (right (left (left (right (left (right (right (right (right (right (right (bodyC cfg.P 4))))))))))))) fr h4 _
       refine aw_seq (by kernel_rfl) ?_
       refine aw_block (id := 3) (by kernel_rfl) ?_
       refine aw_reg (id := 12) (n := 4) [(0, []), (1, []), (2, []), (3, [])] (by kernel_rfl) (by kernel_rfl) ?_
       refine at_seg [(0, []), (1, [])] [(2, .bool p2), (7, .str x1), (8, .str x2), (9, .int .i64 (Int.tmod (IntKind.i64.wrap p0) (20 : Int))), (10, .int .i64 (Int.tmod (IntKind.i64.wrap p1) (20 : Int))), (32, .int .i64 (Int.tmod (IntKind.i64.wrap p1) (20 : Int))), (33, .int .i64 x7), (35, .str x6), (36, .str x1)] H (noU_all rfl) (fun fr => by kernel_rfl) ?_
       intro fr H
       obtain ⟨hb, hm⟩ := need_some hm
       refine at_step (v := .str (x6 ++ x1)) (h1 := h4) [(2, .bool p2), (7, .str x1), (8, .str x2), (9, .int .i64 (Int.tmod (IntKind.i64.wrap p0) (20 : Int))), (10, .int .i64 (Int.tmod (IntKind.i64.wrap p1) (20 : Int))), (32, .int .i64 (Int.tmod (IntKind.i64.wrap p1) (20 : Int))), (33, .int .i64 x7), (37, .str (x6 ++ x1))] H (fun fr => by kernel_rfl) (fun fr => .of (s_cat (by kernel_rfl) hb)) ?_
       intro fr t H
       refine at_seg [(3, [])] [(2, .bool p2), (7, .str x1), (8, .str x2), (9, .int .i64 (Int.tmod (IntKind.i64.wrap p0) (20 : Int))), (10, .int .i64 (Int.tmod (IntKind.i64.wrap p1) (20 : Int))), (11, .str (x6 ++ x1)), (32, .int .i64 (Int.tmod (IntKind.i64.wrap p1) (20 : Int))), (33, .int .i64 x7)] H (noU_all rfl) (fun fr => by kernel_rfl) ?_
       intro fr H
       refine at_nil ?_
       show AW cfg 4 g (right (right (right (left (left (right (left (right (right (right (right (right (right (bodyC cfg.P 4)))))))))))))) fr h4 _
       refine aw_reg (id := 13) (n := 2) [(0, []), (1, [])] (by kernel_rfl) (by kernel_rfl) ?_
       refine at_seg [(0, []), (1, [])] [(2, .bool p2), (7, .str x1), (8, .str x2), (9, .int .i64 (Int.tmod (IntKind.i64.wrap p0) (20 : Int))), (10, .int .i64 (Int.tmod (IntKind.i64.wrap p1) (20 : Int))), (11, .str (x6 ++ x1)), (32, .int .i64 (Int.tmod (IntKind.i64.wrap p1) (20 : Int))), (33, .int .i64 (IntKind.i64.wrap (x7 + (1 : Int))))] H (noU_all rfl) (fun fr => by kernel_rfl) ?_
       intro fr H
       refine at_nil ?_
       exact Exists.intro (x6 ++ x1, IntKind.i64.wrap (x7 + (1 : Int))) (And.intro (Option.some.inj hm).symm ⟨x6 ++ x1, IntKind.i64.wrap (x7 + (1 : Int)), rfl, H.less _ (fun fr => by kernel_rfl), A⟩)
      ·replace H := H.know 34 hb (by kernel_rfl)
       refine aw_false (x := .tmp 34) (by kernel_rfl) H (fun fr => by kernel_rfl) ?_
       refine aw_exit (i := 2) (by kernel_rfl) ?_
       exact Exists.intro _ (And.intro (Option.some.inj hm).symm (fun e => Or.inl ⟨x6, rfl, e, H.less _ (fun fr => by kernel_rfl), A⟩))
     ·clear ho
      clear A
      intro e fr h5 hQ
      rcases hQ with ⟨x8, rfl, rfl, H, A⟩ | hF
      ·skip
       show AW cfg 4 g (right (right (right (right (right (right (right (bodyC cfg.P 4)))))))) fr h5 _
       refine aw_seq (by kernel_rfl) ?_
       refine aw_seq (by kernel_rfl) ?_
       refine aw_reg (id := 14) (n := 2) [(0, []), (1, [])] (by kernel_rfl) (by kernel_rfl) ?_
       refine at_seg [(0, []), (1, [])] [(2, .bool p2), (8, .str x2), (9, .int .i64 (Int.tmod (IntKind.i64.wrap p0) (20 : Int))), (10, .int .i64 (Int.tmod (IntKind.i64.wrap p1) (20 : Int))), (11, .str x8), (39, .int .i64 (Int.tmod (IntKind.i64.wrap p1) (20 : Int))), (40, .int .i64 (0 : Int))] H (noU_all rfl) (fun fr => by kernel_rfl) ?_
       intro fr H
       refine at_nil ?_
       show AW cfg 4 g (right (left (right (right (right (right (right (right (right (bodyC cfg.P 4)))))))))) fr h5 _
       refine aw_block (id := 4) (by kernel_rfl) ?_
       obtain ⟨o4, ho, hm⟩ := bind_some hm
       refine aw_mono (Q' := fun e fr' h' => (∃ (x11 : List UInt8), e = .exit 4 ∧ x11 = o4 ∧ Has fr' 67 [(2, .bool p2), (9, .int .i64 (Int.tmod (IntKind.i64.wrap p0) (20 : Int))), (10, .int .i64 (Int.tmod (IntKind.i64.wrap p1) (20 : Int))), (11, .str x11)] ∧ HH g h' [] F) ∨ False) ?_ ?_
       ·refine aw_loop (by kernel_rfl) (fun (s : (List UInt8) × Int) fr' h' => ∃ (x9 : List UInt8) (x10 : Int), (x9, x10) = s ∧ Has fr' 67 [(2, .bool p2), (8, .str x2), (9, .int .i64 (Int.tmod (IntKind.i64.wrap p0) (20 : Int))), (10, .int .i64 (Int.tmod (IntKind.i64.wrap p1) (20 : Int))), (11, .str x9), (39, .int .i64 (Int.tmod (IntKind.i64.wrap p1) (20 : Int))), (40, .int .i64 x10)] ∧ HH g h' [] F) ho ⟨x8, (0 : Int), rfl, H.less _ (fun fr => by kernel_rfl), A⟩ ?_
        clear ho hm H A
        intro s q fr h6 hI hm
        obtain ⟨x9, x10, rfl, H, A⟩ := hI
        unfold M_boulterlaw19_RexGroups_L2 at hm
        refine aw_seq (by kernel_rfl) ?_
        refine aw_reg (id := 15) (n := 1) [(0, [])] (by kernel_rfl) (by kernel_rfl) ?_
        refine at_seg [(0, [])] [(2, .bool p2), (8, .str x2), (9, .int .i64 (Int.tmod (IntKind.i64.wrap p0) (20 : Int))), (10, .int .i64 (Int.tmod (IntKind.i64.wrap p1) (20 : Int))), (11, .str x9), (39, .int .i64 (Int.tmod (IntKind.i64.wrap p1) (20 : Int))), (40, .int .i64 x10), (41, .bool (decide (x10 < (Int.tmod (IntKind.i64.wrap p1) (20 : Int)))))] H (noU_all rfl) (fun fr => by kernel_rfl) ?_
        intro fr H
        refine at_nil ?_
        show AW cfg 4 g (right (left (left (right (left (right (right (right (right (right (right (right (bodyC cfg.P 4))))))))))))) fr h6 _
        refine aw_seq (by kernel_rfl) ?_
        rcases iteB_some hm with ⟨hb, hm⟩ | ⟨hb, hm⟩
        ·replace H := H.know 41 hb (by kernel_rfl)
         refine aw_true (x := .tmp 41) (by kernel_rfl) H (fun fr => by kernel_rfl) ?_
         refine aw_skip (by kernel_rfl) ?_
         show AW cfg 4 g (right (right (left (left (right (left (right (right (right (right (right (right (right (bodyC cfg.P 4)))))))))))))) fr h6 _
         refine aw_seq (by kernel_rfl) ?_
         refine aw_block (id := 5) (by kernel_rfl) ?_
         refine aw_reg (id := 16) (n := 5) [(0, []), (1, []), (2, []), (3, []), (4, [])] (by kernel_rfl) (by kernel_rfl) ?_
         refine at_seg [(0, []), (1, [])] [(2, .bool p2), (8, .str x2), (9, .int .i64 (Int.tmod (IntKind.i64.wrap p0) (20 : Int))), (10, .int .i64 (Int.tmod (IntKind.i64.wrap p1) (20 : Int))), (39, .int .i64 (Int.tmod (IntKind.i64.wrap p1) (20 : Int))), (40, .int .i64 x10), (42, .str x9), (43, .str x2)] H (noU_all rfl) (fun fr => by kernel_rfl) ?_
         intro fr H
         obtain ⟨hb, hm⟩ := need_some hm
         refine at_step (v := .str (([98] : List UInt8) ++ x2)) (h1 := h6) [(2, .bool p2), (8, .str x2), (9, .int .i64 (Int.tmod (IntKind.i64.wrap p0) (20 : Int))), (10, .int .i64 (Int.tmod (IntKind.i64.wrap p1) (20 : Int))), (39, .int .i64 (Int.tmod (IntKind.i64.wrap p1) (20 : Int))), (40, .int .i64 x10), (42, .str x9), (44, .str (([98] : List UInt8) ++ x2))] H (fun fr => by kernel_rfl) (fun fr => .of (s_cat (by kernel_rfl) hb)) ?_
         intro fr t H
         obtain ⟨hb, hm⟩ := need_some hm
         refine at_step (v := .str (x9 ++ (([98] : List UInt8) ++ x2))) (h1 := h6) [(2, .bool p2), (8, .str x2), (9, .int .i64 (Int.tmod (IntKind.i64.wrap p0) (20 : Int))), (10, .int .i64 (Int.tmod (IntKind.i64.wrap p1) (20 : Int))), (39, .int .i64 (Int.tmod (IntKind.i64.wrap p1) (20 : Int))), (40, .int .i64 x10), (45, .str (x9 ++ (([98] : List UInt8) ++ x2)))] H (fun fr => by kernel_rfl) (fun fr => .of (s_cat (by kernel_rfl) hb)) ?_
         intro fr t H
         refine at_seg [(4, [])] [(2, .bool p2), (8, .str x2), (9, .int .i64 (Int.tmod (IntKind.i64.wrap p0) (20 : Int))), (10, .int .i64 (Int.tmod (IntKind.i64.wrap p1) (20 : Int))), (11, .str (x9 ++ (([98] : List UInt8) ++ x2))), (39, .int .i64 (Int.tmod (IntKind.i64.wrap p1) (20 : Int))), (40, .int .i64 x10)] H (noU_all rfl) (fun fr => by kernel_rfl) ?_
         intro fr H
         refine at_nil ?_
         show AW cfg 4 g (right (right (right (left (left (right (left (right (right (right (right (right (right (right (bodyC cfg.P 4))))))))))))))) fr h6 _
         refine aw_reg (id := 17) (n := 2) [(0, []), (1, [])] (by kernel_rfl) (by kernel_rfl) ?_
         refine at_seg [(0, []), (1, [])] [(2, .bool p2), (8, .str x2), (9, .int .i64 (Int.tmod (IntKind.i64.wrap p0) (20 : Int))), (10, .int .i64 (Int.tmod (IntKind.i64.wrap p1) (20 : Int))), (11, .str (x9 ++ (([98] : List UInt8) ++ x2))), (39, .int .i64 (Int.tmod (IntKind.i64.wrap p1) (20 : Int))), (40, .int .i64 (IntKind.i64.wrap (x10 + (1 : Int))))] H (noU_all rfl) (fun fr => by kernel_rfl) ?_
         intro fr H
         refine at_nil ?_
         exact Exists.intro (x9 ++ (([98] : List UInt8) ++ x2), IntKind.i64.wrap (x10 + (1 : Int))) (And.intro (Option.some.inj hm).symm ⟨x9 ++ (([98] : List UInt8) ++ x2), IntKind.i64.wrap (x10 + (1 : Int)), rfl, H.less _ (fun fr => by kernel_rfl), A⟩)
        ·replace H := H.know 41 hb (by kernel_rfl)
         refine aw_false (x := .tmp 41) (by kernel_rfl) H (fun fr => by kernel_rfl) ?_
         refine aw_exit (i := 4) (by kernel_rfl) ?_
         exact Exists.intro _ (And.intro (Option.some.inj hm).symm (fun e => Or.inl ⟨x9, rfl, e, H.less _ (fun fr => by kernel_rfl), A⟩))
       ·clear ho
        clear A
        intro e fr h7 hQ
        rcases hQ with ⟨x11, rfl, rfl, H, A⟩ | hF
        ·skip
         show AW cfg 4 g (right (right (right (right (right (right (right (right (bodyC cfg.P 4))))))))) fr h7 _
         refine aw_seq (by kernel_rfl) ?_
         refine aw_reg (id := 18) (n := 11) [(0, []), (1, []), (2, []), (3, []), (4, []), (5, []), (6, []), (7, []), (8, []), (9, []), (10, [])] (by kernel_rfl) (by kernel_rfl) ?_
         refine at_seg [(0, []), (1, [])] [(9, .int .i64 (Int.tmod (IntKind.i64.wrap p0) (20 : Int))), (10, .int .i64 (Int.tmod (IntKind.i64.wrap p1) (20 : Int))), (48, .str x11), (49, .bool p2)] H (noU_all rfl) (fun fr => by kernel_rfl) ?_
         intro fr H
         have A1 := A.cut 0
         obtain ⟨⟨x12, x13, x14⟩, hx, hm⟩ := bind_some hm
         obtain ⟨v1, h8, hr, rfl, A1⟩ := ok_rex_Parse (av := [.str x11, .bool p2]) hx (by kernel_rfl) A1
         replace A : HH g h8 [] F := A.glue0 (n := 0) A1
         refine at_step (v := .tuple [.agg [vs e_S_tree_Node x12.Nodes, .int .i64 x12.Root], .int .i64 x13, .int .i64 x14]) (h1 := h8) [(9, .int .i64 (Int.tmod (IntKind.i64.wrap p0) (20 : Int))), (10, .int .i64 (Int.tmod (IntKind.i64.wrap p1) (20 : Int))), (50, .tuple [.agg [vs e_S_tree_Node x12.Nodes, .int .i64 x12.Root], .int .i64 x13, .int .i64 x14])] H (fun fr => by kernel_rfl) (fun fr => Steps.call (by kernel_rfl) hr) ?_
         intro fr t H
         refine at_seg [(3, []), (4, []), (5, []), (6, [])] [(9, .int .i64 (Int.tmod (IntKind.i64.wrap p0) (20 : Int))), (10, .int .i64 (Int.tmod (IntKind.i64.wrap p1) (20 : Int))), (51, .agg [vs e_S_tree_Node x12.Nodes, .int .i64 x12.Root]), (52, .int .i64 x13), (53, .int .i64 x14)] H (noU_all rfl) (fun fr => by kernel_rfl) ?_
         intro fr H
         obtain ⟨h9, e1⟩ : ∃ x, x = h8.push (.cells none 2 [.slice none 0, .int .i64 (0 : Int)]) := ⟨_, rfl⟩
         replace A := (A.push _).to e1
         refine at_step (v := .ptr (some (h8.size, 0))) (h1 := h9) [(9, .int .i64 (Int.tmod (IntKind.i64.wrap p0) (20 : Int))), (10, .int .i64 (Int.tmod (IntKind.i64.wrap p1) (20 : Int))), (12, .ptr (some (h8.size, 0))), (51, .agg [vs e_S_tree_Node x12.Nodes, .int .i64 x12.Root]), (52, .int .i64 x13), (53, .int .i64 x14)] H (fun fr => by kernel_rfl) (fun fr => .of (s_n' (by kernel_rfl) (congrArg some e1.symm))) ?_
         intro fr t H
         obtain ⟨h10, hx, A1⟩ := A.st 0 rfl (o := 0) (new := [vs e_S_tree_Node x12.Nodes, .int .i64 x12.Root]) (ds := [vs e_S_tree_Node x12.Nodes, .int .i64 x12.Root]) (Nat.le_of_ble_eq_true rfl) rfl rfl
         replace A : HH g h10 [.obj h8.size (.cells none 2 [vs e_S_tree_Node x12.Nodes, .int .i64 x12.Root])] F := A1
         refine at_step (v := .tuple []) (h1 := h10) [(9, .int .i64 (Int.tmod (IntKind.i64.wrap p0) (20 : Int))), (10, .int .i64 (Int.tmod (IntKind.i64.wrap p1) (20 : Int))), (12, .ptr (some (h8.size, 0))), (52, .int .i64 x13), (53, .int .i64 x14)] H (fun fr => by kernel_rfl) (fun fr => .of (s_stG (by kernel_rfl) (stG_st hx rfl))) ?_
         intro fr t H
         refine at_seg [(9, []), (10, [])] [(9, .int .i64 (Int.tmod (IntKind.i64.wrap p0) (20 : Int))), (10, .int .i64 (Int.tmod (IntKind.i64.wrap p1) (20 : Int))), (12, .ptr (some (h8.size, 0))), (14, .int .i64 x14)] H (noU_all rfl) (fun fr => by kernel_rfl) ?_
         intro fr H
         refine at_nil ?_
         show AW cfg 4 g (right (right (right (right (right (right (right (right (right (bodyC cfg.P 4)))))))))) fr h10 _
         refine aw_seq (by kernel_rfl) ?_
         refine aw_reg (id := 19) (n := 14) [(0, []), (1, []), (2, []), (3, []), (4, []), (5, []), (6, []), (7, []), (8, []), (9, []), (10, []), (11, []), (12, []), (13, [])] (by kernel_rfl) (by kernel_rfl) ?_
         refine at_seg [(0, []), (1, []), (2, [])] [(9, .int .i64 (Int.tmod (IntKind.i64.wrap p0) (20 : Int))), (10, .int .i64 (Int.tmod (IntKind.i64.wrap p1) (20 : Int))), (12, .ptr (some (h8.size, 0))), (56, .bool (x14 == (0 : Int)))] H (noU_all rfl) (fun fr => by kernel_rfl) ?_
         intro fr H
         obtain ⟨x15, ho, hm⟩ := bind_some hm
         refine at_cut [(3, []), (4, []), (5, []), (6, []), (7, []), (8, []), (9, [])] (fun fr' h' => Has fr' 67 [(63, .bool x15)] ∧ HH g h' [.obj h8.size (.cells none 2 [vs e_S_tree_Node x12.Nodes, .int .i64 x12.Root])] F) ?_ ?_
         ·rcases iteB_some ho with ⟨hb, hm⟩ | ⟨hb, hm⟩
          ·replace H := H.know 56 hb (by kernel_rfl)
           refine at_step (v := .agg [vs e_S_tree_Node x12.Nodes, .int .i64 x12.Root]) (h1 := h10) [(9, .int .i64 (Int.tmod (IntKind.i64.wrap p0) (20 : Int))), (10, .int .i64 (Int.tmod (IntKind.i64.wrap p1) (20 : Int))), (56, .bool true), (57, .agg [vs e_S_tree_Node x12.Nodes, .int .i64 x12.Root])] H (fun fr => by kernel_rfl) (fun fr => .of (s_ldA (by kernel_rfl) (A.ldA 0 rfl (o := 0) (n := 2) ⟨Nat.le_of_ble_eq_true rfl, rfl⟩))) ?_
           intro fr t H
           have A1 := A.cut 0
           obtain ⟨x16, hx, hm⟩ := bind_some hm
           obtain ⟨v1, h12, hr, rfl, A1⟩ := ok_tree_Tree_Groups (av := [.agg [vs e_S_tree_Node x12.Nodes, .int .i64 x12.Root]]) hx (by kernel_rfl) A1
           replace A : HH g h12 [.obj h8.size (.cells none 2 [vs e_S_tree_Node x12.Nodes, .int .i64 x12.Root])] F := A.glue0 (n := 0) A1
           refine at_step (v := .int .i64 x16) (h1 := h12) [(9, .int .i64 (Int.tmod (IntKind.i64.wrap p0) (20 : Int))), (10, .int .i64 (Int.tmod (IntKind.i64.wrap p1) (20 : Int))), (56, .bool true), (58, .int .i64 x16)] H (fun fr => by kernel_rfl) (fun fr => Steps.call (by kernel_rfl) hr) ?_
           intro fr t H
           refine at_seg [(5, []), (6, []), (7, []), (8, []), (9, [])] [(63, .bool (x16 == (IntKind.i64.wrap ((Int.tmod (IntKind.i64.wrap p0) (20 : Int)) + (Int.tmod (IntKind.i64.wrap p1) (20 : Int))))))] H (noU_all rfl) (fun fr => by kernel_rfl) ?_
           intro fr H
           have e1 := Option.some.inj hm
           subst e1
           exact at_nil ⟨H.less _ (fun fr => by kernel_rfl), A⟩
          ·replace H := H.know 56 hb (by kernel_rfl)
           refine at_seg [(3, []), (4, []), (5, []), (6, []), (7, []), (8, []), (9, [])] [(63, .bool false)] H (noU_all rfl) (fun fr => by kernel_rfl) ?_
           intro fr H
           have e1 := Option.some.inj hm
           subst e1
           exact at_nil ⟨H.less _ (fun fr => by kernel_rfl), A⟩
         ·clear A
          intro t fr h11 hK
          obtain ⟨H, A⟩ := hK
          refine at_seg [(10, [])] [(64, .bool x15)] H (noU_all rfl) (fun fr => by kernel_rfl) ?_
          intro fr H
          obtain ⟨x17, ho, hm⟩ := bind_some hm
          refine at_cut [(11, []), (12, [])] (fun fr' h' => Has fr' 67 [(66, .bool x17)] ∧ HH g h' [.obj h8.size (.cells none 2 [vs e_S_tree_Node x12.Nodes, .int .i64 x12.Root])] F) ?_ ?_
          ·rcases iteB_some ho with ⟨hb, hm⟩ | ⟨hb, hm⟩
           ·replace H := H.know 64 hb (by kernel_rfl)
            obtain ⟨x18, hx, hm⟩ := bind_some hm
            refine at_step (v := .bool x18) (h1 := h11) [(64, .bool true), (65, .bool x18)] H (fun fr => by kernel_rfl) (fun fr => Steps.call (by kernel_rfl) (ok_boulterlaw19_awake hx)) ?_
            intro fr t H
            refine at_seg [(12, [])] [(66, .bool x18)] H (noU_all rfl) (fun fr => by kernel_rfl) ?_
            intro fr H
            have e1 := Option.some.inj hm
            subst e1
            exact at_nil ⟨H.less _ (fun fr => by kernel_rfl), A⟩
           ·replace H := H.know 64 hb (by kernel_rfl)
            refine at_seg [(11, []), (12, [])] [(66, .bool false)] H (noU_all rfl) (fun fr => by kernel_rfl) ?_
            intro fr H
            have e1 := Option.some.inj hm
            subst e1
            exact at_nil ⟨H.less _ (fun fr => by kernel_rfl), A⟩
          ·clear A
           intro t fr h13 hK
           obtain ⟨H, A⟩ := hK
           refine at_seg [(13, [])] [(6, .bool x17)] H (noU_all rfl) (fun fr => by kernel_rfl) ?_
           intro fr H
           refine at_nil ?_
           show AW cfg 4 g (right (right (right (right (right (right (right (right (right (right (bodyC cfg.P 4))))))))))) fr h13 _
           refine aw_ret (by kernel_rfl) ?_
           have e1 := Option.some.inj hm
           subst e1
           refine ⟨.inl rfl, .bool x17, resH H (fun fr => by kernel_rfl), ?_⟩
           replace A : HH g h13 [] F := (HH.dropF A 0)
           exact ⟨rfl, A⟩
        ·exact hF.elim
      ·exact hF.elim
    ·exact hF.elim
  ·exact hF.elim
end Go.Av.L
