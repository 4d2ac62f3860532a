/-
  Models of functions, and that the abstract run tells them. Written by lift2.py.
-/
import Derived.Test.YtiodcbipjnmpgaaKCfg
import Derived.Test.YtiodcbipjnmpgaaK0
namespace Go.Av.L
open Go.Av Go.Lib
set_option maxRecDepth 10000
set_option linter.unusedVariables false
set_option linter.unusedSimpArgs false
/-! ### (*boulter/auto.maker).lay -/
noncomputable def M_auto_maker_lay_sPPOR (p0 : S_auto_maker) (p1 : S_auto_state) : Option (Int × S_auto_maker × (List S_auto_state)) :=
 iteB (p0.full_ || (decide ((p0.a_.l_.length : Int) ≥ p0.most_))) (some ((0 : Int), (⟨p0.t_, p0.a_, p0.most_, p0.full_ || (decide ((p0.a_.l_.length : Int) ≥ p0.most_))⟩ : S_auto_maker), p0.a_.l_)) (need (okN 56 (p0.a_.l_.length + ([p1] : List S_auto_state).length)) <| some (IntKind.i64.wrap (((p0.a_.l_ ++ ([p1] : List S_auto_state)).length : Int) - (1 : Int)), (⟨p0.t_, (⟨(p0.a_.l_ ++ ([p1] : List S_auto_state)), p0.a_.first_⟩ : S_auto_Auto), p0.most_, p0.full_ || (decide ((p0.a_.l_.length : Int) ≥ p0.most_))⟩ : S_auto_maker), (p0.a_.l_ ++ ([p1] : List S_auto_state))))
theorem ok_auto_maker_lay_sPPOR {g : Gd} {h : AHeap} {F : List Ck} {p0 : S_auto_maker} {p1 : S_auto_state} {bp0 : Nat} {bp0_2 : Nat} {rp0_2_0 : Option Nat} {q0 : Int} {u0 : S_auto_maker} {u2 : List S_auto_state} {av : List AVal} (hm : M_auto_maker_lay_sPPOR p0 p1 = some (q0, u0, u2)) (hc : canL (cfg.still 48) av = [.ptr (some (bp0, 0)), .agg (e_S_auto_state p1)]) (A : HH g h [.obj bp0 (.cells none 2 [vs e_S_tree_Node p0.t_.Nodes, .int .i64 p0.t_.Root, .ptr (some (bp0_2, 0)), .int .i64 p0.most_, .bool p0.full_]), .obj bp0_2 (.cells none 2 [rowV rp0_2_0 p0.a_.l_.length, .int .i64 p0.a_.first_]), .lst rp0_2_0 108 (lst e_S_auto_state p0.a_.l_)] F) : ∃ v h', Runs cfg g h 48 av v h' ∧ ∃ (r'2 : Option Nat), v = .int .i64 q0 ∧ HH g h' [.obj bp0 (.cells none 2 [vs e_S_tree_Node u0.t_.Nodes, .int .i64 u0.t_.Root, .ptr (some (bp0_2, 0)), .int .i64 u0.most_, .bool u0.full_]), .obj bp0_2 (.cells none 2 [rowV r'2 u2.length, .int .i64 p0.a_.first_]), .lst r'2 108 (lst e_S_auto_state u2)] F := by
  refine runsQ1 (n := 56) (rs := [.tmp 4]) (by kernel_rfl) hc (by kernel_rfl) ?_
  clear hc
  unfold M_auto_maker_lay_sPPOR at hm
  refine start (n := 56) [(0, .ptr (some (bp0, 0))), (1, .agg (e_S_auto_state p1))] (by kernel_rfl) (by kernel_rfl) ?_
  intro fr H
  refine aw_seq (by kernel_rfl) ?_
  refine aw_reg (id := 0) (n := 2) [(0, []), (1, [])] (by kernel_rfl) (by kernel_rfl) ?_
  obtain ⟨h1, e1⟩ : ∃ x, x = h.push (.cells none 2 (e_S_auto_state p1)) := ⟨_, rfl⟩
  replace A := (A.push _).to e1
  refine at_step (v := .ptr (some (h.size, 0))) (h1 := h1) [(0, .ptr (some (bp0, 0))), (3, .ptr (some (h.size, 0)))] H (fun fr => by kernel_rfl) (fun fr => .of (s_n' (by kernel_rfl) (congrArg some e1.symm))) ?_
  intro fr t H
  refine at_seg [(1, [])] [(0, .ptr (some (bp0, 0))), (3, .ptr (some (h.size, 0)))] H (noU_all rfl) (fun fr => by kernel_rfl) ?_
  intro fr H
  refine at_nil ?_
  show AW cfg 48 g (right (bodyC cfg.P 48)) fr h1 _
  refine aw_seq (by kernel_rfl) ?_
  refine aw_seq (by kernel_rfl) ?_
  refine aw_draw (id := 1) (n := 23) (by kernel_rfl) [(0, []), (1, []), (2, []), (3, []), (4, []), (5, []), (6, []), (7, []), (8, []), (9, []), (10, []), (11, []), (12, []), (13, []), (14, []), (15, []), (16, []), (17, []), (18, []), (19, []), (20, []), (21, []), (22, [])] (by kernel_rfl) ?_
  refine at_seg [(0, []), (1, []), (2, []), (3, [])] [(0, .ptr (some (bp0, 0))), (3, .ptr (some (h.size, 0))), (5, .ptr (some (bp0, 0))), (8, .ptr (some (bp0, 4)))] H (noU_all rfl) (fun fr => by kernel_rfl) ?_
  intro fr H
  refine at_step (v := .bool p0.full_) (h1 := h1) [(0, .ptr (some (bp0, 0))), (3, .ptr (some (h.size, 0))), (5, .ptr (some (bp0, 0))), (9, .bool p0.full_)] H (fun fr => by kernel_rfl) (fun fr => .of (s_ld (by kernel_rfl) (A.ld1 1 rfl (o := 4) rfl))) ?_
  intro fr t H
  refine at_seg [(5, [])] [(0, .ptr (some (bp0, 0))), (3, .ptr (some (h.size, 0))), (5, .ptr (some (bp0, 0))), (10, .bool p0.full_)] H (noU_all rfl) (fun fr => by kernel_rfl) ?_
  intro fr H
  refine at_cut [(6, []), (7, []), (8, []), (9, []), (10, []), (11, []), (12, []), (13, []), (14, []), (15, []), (16, []), (17, []), (18, []), (19, [])] (fun fr' h' => h1 = h' ∧ Has fr' 56 [(0, .ptr (some (bp0, 0))), (3, .ptr (some (h.size, 0))), (5, .ptr (some (bp0, 0))), (24, .bool (p0.full_ || (decide ((p0.a_.l_.length : Int) ≥ p0.most_))))]) ?_ ?_
  · cases hb : (p0.full_ : Bool) with
    | true =>
      replace H := H.know 10 hb (by kernel_rfl)
      refine at_seg [(6, []), (7, []), (8, []), (9, []), (10, []), (11, []), (12, []), (13, []), (14, []), (15, []), (16, []), (17, []), (18, []), (19, [])] [(0, .ptr (some (bp0, 0))), (3, .ptr (some (h.size, 0))), (5, .ptr (some (bp0, 0))), (24, .bool true)] H (noU_all rfl) (fun fr => by kernel_rfl) ?_
      intro fr H
      exact at_nil ⟨rfl, by first | exact H.less _ (fun fr => by rfl) | exact H.less _ (fun fr => by rw [hb]; rfl)⟩
    | false =>
      replace H := H.know 10 hb (by kernel_rfl)
      refine at_seg [(6, []), (7, []), (8, [])] [(0, .ptr (some (bp0, 0))), (3, .ptr (some (h.size, 0))), (5, .ptr (some (bp0, 0))), (10, .bool false), (13, .ptr (some (bp0, 2)))] H (noU_all rfl) (fun fr => by kernel_rfl) ?_
      intro fr H
      refine at_step (v := .ptr (some (bp0_2, 0))) (h1 := h1) [(0, .ptr (some (bp0, 0))), (3, .ptr (some (h.size, 0))), (5, .ptr (some (bp0, 0))), (10, .bool false), (14, .ptr (some (bp0_2, 0)))] H (fun fr => by kernel_rfl) (fun fr => .of (s_ld (by kernel_rfl) (A.ld1 1 rfl (o := 2) rfl))) ?_
      intro fr t H
      refine at_seg [(10, []), (11, [])] [(0, .ptr (some (bp0, 0))), (3, .ptr (some (h.size, 0))), (5, .ptr (some (bp0, 0))), (10, .bool false), (16, .ptr (some (bp0_2, 0)))] H (noU_all rfl) (fun fr => by kernel_rfl) ?_
      intro fr H
      refine at_step (v := rowV rp0_2_0 p0.a_.l_.length) (h1 := h1) [(0, .ptr (some (bp0, 0))), (3, .ptr (some (h.size, 0))), (5, .ptr (some (bp0, 0))), (10, .bool false), (17, rowV rp0_2_0 p0.a_.l_.length)] H (fun fr => by kernel_rfl) (fun fr => .of (s_ld (by kernel_rfl) (A.ld1 2 rfl (o := 0) rfl))) ?_
      intro fr t H
      refine at_seg [(13, []), (14, []), (15, []), (16, [])] [(0, .ptr (some (bp0, 0))), (3, .ptr (some (h.size, 0))), (5, .ptr (some (bp0, 0))), (10, .bool false), (18, .int .i64 (p0.a_.l_.length : Int)), (21, .ptr (some (bp0, 3)))] H (noU_all rfl) (fun fr => by kernel_rfl) ?_
      intro fr H
      refine at_step (v := .int .i64 p0.most_) (h1 := h1) [(0, .ptr (some (bp0, 0))), (3, .ptr (some (h.size, 0))), (5, .ptr (some (bp0, 0))), (10, .bool false), (18, .int .i64 (p0.a_.l_.length : Int)), (22, .int .i64 p0.most_)] H (fun fr => by kernel_rfl) (fun fr => .of (s_ld (by kernel_rfl) (A.ld1 1 rfl (o := 3) rfl))) ?_
      intro fr t H
      refine at_seg [(18, []), (19, [])] [(0, .ptr (some (bp0, 0))), (3, .ptr (some (h.size, 0))), (5, .ptr (some (bp0, 0))), (24, .bool (decide ((p0.a_.l_.length : Int) ≥ p0.most_)))] H (noU_all rfl) (fun fr => by kernel_rfl) ?_
      intro fr H
      exact at_nil ⟨rfl, by first | exact H.less _ (fun fr => by rfl) | exact H.less _ (fun fr => by rw [hb]; rfl)⟩
  · intro t fr h' hK
    obtain ⟨e, H⟩ := hK
    subst e
    refine at_seg [(20, []), (21, [])] [(0, .ptr (some (bp0, 0))), (3, .ptr (some (h.size, 0))), (24, .bool (p0.full_ || (decide ((p0.a_.l_.length : Int) ≥ p0.most_)))), (26, .ptr (some (bp0, 4)))] H (noU_all rfl) (fun fr => by kernel_rfl) ?_
    intro fr H
    obtain ⟨h2, hx, A1⟩ := A.st 1 rfl (o := 4) (new := [.bool (p0.full_ || (decide ((p0.a_.l_.length : Int) ≥ p0.most_)))]) (ds := [vs e_S_tree_Node p0.t_.Nodes, .int .i64 p0.t_.Root, .ptr (some (bp0_2, 0)), .int .i64 p0.most_, .bool (p0.full_ || (decide ((p0.a_.l_.length : Int) ≥ p0.most_)))]) (Nat.le_of_ble_eq_true rfl) rfl rfl
    replace A : HH g h2 [.obj h.size (.cells none 2 (e_S_auto_state p1)), .obj bp0 (.cells none 2 [vs e_S_tree_Node p0.t_.Nodes, .int .i64 p0.t_.Root, .ptr (some (bp0_2, 0)), .int .i64 p0.most_, .bool (p0.full_ || (decide ((p0.a_.l_.length : Int) ≥ p0.most_)))]), .obj bp0_2 (.cells none 2 [rowV rp0_2_0 p0.a_.l_.length, .int .i64 p0.a_.first_]), .lst rp0_2_0 108 (lst e_S_auto_state p0.a_.l_)] F := A1
    refine at_step (v := .tuple []) (h1 := h2) [(0, .ptr (some (bp0, 0))), (3, .ptr (some (h.size, 0)))] H (fun fr => by kernel_rfl) (fun fr => .of (s_st (by kernel_rfl) rfl hx)) ?_
    intro fr t H
    refine at_nil ?_
    show AW cfg 48 g (right (left (right (bodyC cfg.P 48)))) fr h2 _
    refine aw_seq (by kernel_rfl) ?_
    refine aw_reg (id := 2) (n := 4) [(0, []), (1, []), (2, []), (3, [])] (by kernel_rfl) (by kernel_rfl) ?_
    refine at_seg [(0, []), (1, []), (2, [])] [(0, .ptr (some (bp0, 0))), (3, .ptr (some (h.size, 0))), (29, .ptr (some (bp0, 4)))] H (noU_all rfl) (fun fr => by kernel_rfl) ?_
    intro fr H
    refine at_step (v := .bool (p0.full_ || (decide ((p0.a_.l_.length : Int) ≥ p0.most_)))) (h1 := h2) [(0, .ptr (some (bp0, 0))), (3, .ptr (some (h.size, 0))), (30, .bool (p0.full_ || (decide ((p0.a_.l_.length : Int) ≥ p0.most_))))] H (fun fr => by kernel_rfl) (fun fr => .of (s_ld (by kernel_rfl) (A.ld1 1 rfl (o := 4) rfl))) ?_
    intro fr t H
    refine at_nil ?_
    show AW cfg 48 g (right (right (left (right (bodyC cfg.P 48))))) fr h2 _
    rcases iteB_some hm with ⟨hb, hm⟩ | ⟨hb, hm⟩
    · replace H := H.know 30 hb (by kernel_rfl)
      refine aw_true (x := .tmp 30) (by kernel_rfl) H (fun fr => by kernel_rfl) ?_
      refine aw_seq (by kernel_rfl) ?_
      refine aw_reg (id := 3) (n := 1) [(0, [])] (by kernel_rfl) (by kernel_rfl) ?_
      refine at_seg [(0, [])] [(4, .int .i64 (0 : Int))] H (noU_all rfl) (fun fr => by kernel_rfl) ?_
      intro fr H
      refine at_nil ?_
      show AW cfg 48 g (right (left (right (right (left (right (bodyC cfg.P 48))))))) fr h2 _
      refine aw_ret (by kernel_rfl) ?_
      have e0 := Option.some.inj hm
      obtain ⟨y0, z0⟩ := Prod.mk.inj e0
      obtain ⟨y1, z1⟩ := Prod.mk.inj z0
      subst y0
      subst y1
      subst z1
      refine ⟨.inl rfl, .int .i64 (0 : Int), resH H (fun fr => by kernel_rfl), ?_⟩
      replace A : HH g h2 [.obj bp0 (.cells none 2 [vs e_S_tree_Node p0.t_.Nodes, .int .i64 p0.t_.Root, .ptr (some (bp0_2, 0)), .int .i64 p0.most_, .bool (p0.full_ || (decide ((p0.a_.l_.length : Int) ≥ p0.most_)))]), .obj bp0_2 (.cells none 2 [rowV rp0_2_0 p0.a_.l_.length, .int .i64 p0.a_.first_]), .lst rp0_2_0 108 (lst e_S_auto_state p0.a_.l_)] F := (HH.dropF (((A.front 3 rfl).front 3 rfl).front 3 rfl) 3)
      exact ⟨rp0_2_0, rfl, A⟩
    · replace H := H.know 30 hb (by kernel_rfl)
      refine aw_false (x := .tmp 30) (by kernel_rfl) H (fun fr => by kernel_rfl) ?_
      refine aw_skip (by kernel_rfl) ?_
      show AW cfg 48 g (right (right (bodyC cfg.P 48))) fr h2 _
      refine aw_seq (by kernel_rfl) ?_
      refine aw_draw (id := 4) (n := 17) (by kernel_rfl) [(0, []), (1, []), (2, []), (3, []), (4, []), (5, []), (6, []), (7, []), (8, []), (9, []), (10, []), (11, []), (12, []), (13, [3]), (14, []), (15, []), (16, [])] (by kernel_rfl) ?_
      refine at_seg [(0, []), (1, []), (2, [])] [(0, .ptr (some (bp0, 0))), (3, .ptr (some (h.size, 0))), (33, .ptr (some (bp0, 2)))] H (noU_all rfl) (fun fr => by kernel_rfl) ?_
      intro fr H
      refine at_stepT (v := .ptr (some (bp0_2, 0))) (h1 := h2) (tch' := [(3, bp0)]) (g.prot) [(0, .ptr (some (bp0, 0))), (3, .ptr (some (h.size, 0))), (34, .ptr (some (bp0_2, 0)))] H (fun fr => by kernel_rfl) (by kernel_rfl) (fun fr => by kernel_rfl) (fun fr => .of (s_ld (by kernel_rfl) (A.ld1 1 rfl (o := 2) rfl))) (fun fr => by kernel_rfl) ?_
      intro fr H
      refine at_seg [(4, []), (5, []), (6, [])] [(0, .ptr (some (bp0, 0))), (3, .ptr (some (h.size, 0))), (34, .ptr (some (bp0_2, 0))), (37, .ptr (some (bp0, 2)))] H (noU_all rfl) (fun fr => by kernel_rfl) ?_
      intro fr H
      refine at_stepT (v := .ptr (some (bp0_2, 0))) (h1 := h2) (tch' := [(7, bp0), (3, bp0)]) (g.prot) [(0, .ptr (some (bp0, 0))), (3, .ptr (some (h.size, 0))), (34, .ptr (some (bp0_2, 0))), (38, .ptr (some (bp0_2, 0)))] H (fun fr => by kernel_rfl) (by kernel_rfl) (fun fr => by kernel_rfl) (fun fr => .of (s_ld (by kernel_rfl) (A.ld1 1 rfl (o := 2) rfl))) (fun fr => by kernel_rfl) ?_
      intro fr H
      refine at_seg [(8, []), (9, [])] [(0, .ptr (some (bp0, 0))), (3, .ptr (some (h.size, 0))), (34, .ptr (some (bp0_2, 0))), (40, .ptr (some (bp0_2, 0)))] H (noU_all rfl) (fun fr => by kernel_rfl) ?_
      intro fr H
      refine at_stepT (v := rowV rp0_2_0 p0.a_.l_.length) (h1 := h2) (tch' := [(10, bp0_2), (7, bp0), (3, bp0)]) (g.prot) [(0, .ptr (some (bp0, 0))), (3, .ptr (some (h.size, 0))), (34, .ptr (some (bp0_2, 0))), (41, rowV rp0_2_0 p0.a_.l_.length)] H (fun fr => by kernel_rfl) (by kernel_rfl) (fun fr => by kernel_rfl) (fun fr => .of (s_ld (by kernel_rfl) (A.ld1 2 rfl (o := 0) rfl))) (fun fr => by kernel_rfl) ?_
      intro fr H
      refine at_stepT (v := .agg (e_S_auto_state p1)) (h1 := h2) (tch' := [(11, h.size), (10, bp0_2), (7, bp0), (3, bp0)]) (g.prot) [(0, .ptr (some (bp0, 0))), (34, .ptr (some (bp0_2, 0))), (41, rowV rp0_2_0 p0.a_.l_.length), (42, .agg (e_S_auto_state p1))] H (fun fr => by kernel_rfl) (by kernel_rfl) (fun fr => by kernel_rfl) (fun fr => .of (s_ldA (by kernel_rfl) (A.ldA 0 rfl (o := 0) (n := 7) ⟨Nat.le_of_ble_eq_true rfl, rfl⟩))) (fun fr => by kernel_rfl) ?_
      intro fr H
      obtain ⟨h3, e2⟩ : ∃ x, x = h2.push (.cells (some 108) 2 [.int .i64 p1.kind_, .int .i64 p1.a_, .int .i64 p1.b_, .int .u64 p1.set_.w0, .int .u64 p1.set_.w1, .int .u64 p1.set_.w2, .int .u64 p1.set_.w3]) := ⟨_, rfl⟩
      replace A := (A.pushL _ _).to e2
      refine at_stepT (v := rowV (some h2.size) (([p1] : List S_auto_state).length)) (h1 := h3) (tch' := [(12, h2.size), (11, h.size), (10, bp0_2), (7, bp0), (3, bp0)]) (g.prot) [(0, .ptr (some (bp0, 0))), (34, .ptr (some (bp0_2, 0))), (41, rowV rp0_2_0 p0.a_.l_.length), (43, rowV (some h2.size) (([p1] : List S_auto_state).length))] H (fun fr => by kernel_rfl) (by kernel_rfl) (fun fr => by kernel_rfl) (fun fr => .of (s_n' (by kernel_rfl) (congrArg some e2.symm))) (fun fr => by kernel_rfl) ?_
      intro fr H
      replace A : HH g h3 [.lst rp0_2_0 108 (lst e_S_auto_state p0.a_.l_), .lst (some h2.size) 108 ([.int .i64 p1.kind_, .int .i64 p1.a_, .int .i64 p1.b_, .int .u64 p1.set_.w0, .int .u64 p1.set_.w1, .int .u64 p1.set_.w2, .int .u64 p1.set_.w3]), .obj h.size (.cells none 2 (e_S_auto_state p1)), .obj bp0 (.cells none 2 [vs e_S_tree_Node p0.t_.Nodes, .int .i64 p0.t_.Root, .ptr (some (bp0_2, 0)), .int .i64 p0.most_, .bool (p0.full_ || (decide ((p0.a_.l_.length : Int) ≥ p0.most_)))]), .obj bp0_2 (.cells none 2 [rowV rp0_2_0 p0.a_.l_.length, .int .i64 p0.a_.first_])] F := (A.front 4 rfl)
      have A1 := A.prot2 1 (pr := [bp0]) (.cons 2 rfl (by simp [Ck.ids]) .nil)
      obtain ⟨hb, hm⟩ := need_some hm
      obtain ⟨r1, h4, hx, A1⟩ := HH.appO enc_S_auto_state (by decide) A1 0 (xs := p0.a_.l_) (ys := ([p1] : List S_auto_state)) rfl (row_first A 1 rfl (n := ([p1] : List S_auto_state).length) (z := 7) rfl (by decide)) rfl rfl hb
      replace A : HH g h4 [.lst r1 108 (lst e_S_auto_state (p0.a_.l_ ++ ([p1] : List S_auto_state))), .lst (some h2.size) 108 ([.int .i64 p1.kind_, .int .i64 p1.a_, .int .i64 p1.b_, .int .u64 p1.set_.w0, .int .u64 p1.set_.w1, .int .u64 p1.set_.w2, .int .u64 p1.set_.w3]), .obj h.size (.cells none 2 (e_S_auto_state p1)), .obj bp0 (.cells none 2 [vs e_S_tree_Node p0.t_.Nodes, .int .i64 p0.t_.Root, .ptr (some (bp0_2, 0)), .int .i64 p0.most_, .bool (p0.full_ || (decide ((p0.a_.l_.length : Int) ≥ p0.most_)))]), .obj bp0_2 (.cells none 2 [rowV rp0_2_0 p0.a_.l_.length, .int .i64 p0.a_.first_])] F := A.glueP (n := 1) A1
      replace A : HH g h4 [.lst r1 108 (lst e_S_auto_state (p0.a_.l_ ++ ([p1] : List S_auto_state))), .obj h.size (.cells none 2 (e_S_auto_state p1)), .obj bp0 (.cells none 2 [vs e_S_tree_Node p0.t_.Nodes, .int .i64 p0.t_.Root, .ptr (some (bp0_2, 0)), .int .i64 p0.most_, .bool (p0.full_ || (decide ((p0.a_.l_.length : Int) ≥ p0.most_)))]), .obj bp0_2 (.cells none 2 [rowV rp0_2_0 p0.a_.l_.length, .int .i64 p0.a_.first_])] F := (HH.dropF ((((A.front 4 rfl).front 4 rfl).front 4 rfl).front 3 rfl) 4)
      refine at_stepT (v := rowV r1 ((p0.a_.l_ ++ ([p1] : List S_auto_state)).length)) (h1 := h4) (tch' := [(12, h2.size), (11, h.size), (10, bp0_2), (7, bp0), (3, bp0)]) (bp0 :: g.prot) [(0, .ptr (some (bp0, 0))), (34, .ptr (some (bp0_2, 0))), (44, rowV r1 ((p0.a_.l_ ++ ([p1] : List S_auto_state)).length))] H (fun fr => by kernel_rfl) (by kernel_rfl) (fun fr => by kernel_rfl) (fun fr => .of (s_app (s := rowS rp0_2_0 p0.a_.l_.length) (by kernel_rfl) hx)) (fun fr => by kernel_rfl) ?_
      intro fr H
      refine at_seg [(14, []), (15, [])] [(0, .ptr (some (bp0, 0))), (44, rowV r1 ((p0.a_.l_ ++ ([p1] : List S_auto_state)).length)), (46, .ptr (some (bp0_2, 0)))] H (noU_all rfl) (fun fr => by kernel_rfl) ?_
      intro fr H
      obtain ⟨h5, hx, A1⟩ := A.st 3 rfl (o := 0) (new := [rowV r1 ((p0.a_.l_ ++ ([p1] : List S_auto_state)).length)]) (ds := [rowV r1 ((p0.a_.l_ ++ ([p1] : List S_auto_state)).length), .int .i64 p0.a_.first_]) (Nat.le_of_ble_eq_true rfl) rfl rfl
      replace A : HH g h5 [.lst r1 108 (lst e_S_auto_state (p0.a_.l_ ++ ([p1] : List S_auto_state))), .obj h.size (.cells none 2 (e_S_auto_state p1)), .obj bp0 (.cells none 2 [vs e_S_tree_Node p0.t_.Nodes, .int .i64 p0.t_.Root, .ptr (some (bp0_2, 0)), .int .i64 p0.most_, .bool (p0.full_ || (decide ((p0.a_.l_.length : Int) ≥ p0.most_)))]), .obj bp0_2 (.cells none 2 [rowV r1 ((p0.a_.l_ ++ ([p1] : List S_auto_state)).length), .int .i64 p0.a_.first_])] F := A1
      refine at_stepT (v := .tuple []) (h1 := h5) (tch' := [(12, h2.size), (11, h.size), (10, bp0_2), (7, bp0), (3, bp0)]) (g.prot) [(0, .ptr (some (bp0, 0)))] H (fun fr => by kernel_rfl) (by kernel_rfl) (fun fr => by kernel_rfl) (fun fr => .of (s_st (by kernel_rfl) rfl hx)) (fun fr => by kernel_rfl) ?_
      intro fr H
      refine at_nil ?_
      show AW cfg 48 g (right (right (right (bodyC cfg.P 48)))) fr h5 _
      refine aw_seq (by kernel_rfl) ?_
      refine aw_reg (id := 5) (n := 10) [(0, []), (1, []), (2, []), (3, []), (4, []), (5, []), (6, []), (7, []), (8, []), (9, [])] (by kernel_rfl) (by kernel_rfl) ?_
      refine at_seg [(0, []), (1, []), (2, [])] [(49, .ptr (some (bp0, 2)))] H (noU_all rfl) (fun fr => by kernel_rfl) ?_
      intro fr H
      refine at_step (v := .ptr (some (bp0_2, 0))) (h1 := h5) [(50, .ptr (some (bp0_2, 0)))] H (fun fr => by kernel_rfl) (fun fr => .of (s_ld (by kernel_rfl) (A.ld1 2 rfl (o := 2) rfl))) ?_
      intro fr t H
      refine at_seg [(4, []), (5, [])] [(52, .ptr (some (bp0_2, 0)))] H (noU_all rfl) (fun fr => by kernel_rfl) ?_
      intro fr H
      refine at_step (v := rowV r1 ((p0.a_.l_ ++ ([p1] : List S_auto_state)).length)) (h1 := h5) [(53, rowV r1 ((p0.a_.l_ ++ ([p1] : List S_auto_state)).length))] H (fun fr => by kernel_rfl) (fun fr => .of (s_ld (by kernel_rfl) (A.ld1 3 rfl (o := 0) rfl))) ?_
      intro fr t H
      refine at_seg [(7, []), (8, []), (9, [])] [(4, .int .i64 (IntKind.i64.wrap (((p0.a_.l_ ++ ([p1] : List S_auto_state)).length : Int) - (1 : Int))))] H (noU_all rfl) (fun fr => by kernel_rfl) ?_
      intro fr H
      refine at_nil ?_
      show AW cfg 48 g (right (right (right (right (bodyC cfg.P 48))))) fr h5 _
      refine aw_ret (by kernel_rfl) ?_
      have e0 := Option.some.inj hm
      obtain ⟨y0, z0⟩ := Prod.mk.inj e0
      obtain ⟨y1, z1⟩ := Prod.mk.inj z0
      subst y0
      subst y1
      subst z1
      refine ⟨.inl rfl, .int .i64 (IntKind.i64.wrap (((p0.a_.l_ ++ ([p1] : List S_auto_state)).length : Int) - (1 : Int))), resH H (fun fr => by kernel_rfl), ?_⟩
      replace A : HH g h5 [.obj bp0 (.cells none 2 [vs e_S_tree_Node p0.t_.Nodes, .int .i64 p0.t_.Root, .ptr (some (bp0_2, 0)), .int .i64 p0.most_, .bool (p0.full_ || (decide ((p0.a_.l_.length : Int) ≥ p0.most_)))]), .obj bp0_2 (.cells none 2 [rowV r1 ((p0.a_.l_ ++ ([p1] : List S_auto_state)).length), .int .i64 p0.a_.first_]), .lst r1 108 (lst e_S_auto_state (p0.a_.l_ ++ ([p1] : List S_auto_state)))] F := (HH.dropF (((A.front 0 rfl).front 3 rfl).front 3 rfl) 3)
      exact ⟨r1, rfl, A⟩
/-! ### (*boulter/auto.maker).repeat$2 -/
noncomputable def M_auto_maker_repeat_2_sIIPPPO (p0 : Int) (p1 : Int) (p2_0 : S_auto_maker) : Option (Int × S_auto_maker × (List S_auto_state)) :=
 (M_auto_maker_lay_sPPOR p2_0 (⟨(2 : Int), p0, p1, (⟨(0 : Int), (0 : Int), (0 : Int), (0 : Int)⟩ : A4_uint64)⟩ : S_auto_state)).bind fun (x1, x2, x3) => some (x1, (⟨x2.t_, (⟨x3, p2_0.a_.first_⟩ : S_auto_Auto), x2.most_, x2.full_⟩ : S_auto_maker), x3)
theorem ok_auto_maker_repeat_2_sIIPPPO {g : Gd} {h : AHeap} {F : List Ck} {p0 : Int} {p1 : Int} {p2_0 : S_auto_maker} {bp2 : Nat} {bp2_0 : Nat} {bp2_0_2 : Nat} {rp2_0_2_0 : Option Nat} {q0 : Int} {u1 : S_auto_maker} {u3 : List S_auto_state} {av : List AVal} (hm : M_auto_maker_repeat_2_sIIPPPO p0 p1 p2_0 = some (q0, u1, u3)) (hc : canL (cfg.still 83) av = [.int .i64 p0, .int .i64 p1, .ptr (some (bp2, 0))]) (A : HH g h [.obj bp2 (.cells none 2 [.ptr (some (bp2_0, 0))]), .obj bp2_0 (.cells none 2 [vs e_S_tree_Node p2_0.t_.Nodes, .int .i64 p2_0.t_.Root, .ptr (some (bp2_0_2, 0)), .int .i64 p2_0.most_, .bool p2_0.full_]), .obj bp2_0_2 (.cells none 2 [rowV rp2_0_2_0 p2_0.a_.l_.length, .int .i64 p2_0.a_.first_]), .lst rp2_0_2_0 108 (lst e_S_auto_state p2_0.a_.l_)] F) : ∃ v h', Runs cfg g h 83 av v h' ∧ ∃ (r'3 : Option Nat), v = .int .i64 q0 ∧ HH g h' [.obj bp2 (.cells none 2 [.ptr (some (bp2_0, 0))]), .obj bp2_0 (.cells none 2 [vs e_S_tree_Node u1.t_.Nodes, .int .i64 u1.t_.Root, .ptr (some (bp2_0_2, 0)), .int .i64 u1.most_, .bool u1.full_]), .obj bp2_0_2 (.cells none 2 [rowV r'3 u3.length, .int .i64 p2_0.a_.first_]), .lst r'3 108 (lst e_S_auto_state u3)] F := by
  refine runsQ1 (n := 11) (rs := [.tmp 5]) (by kernel_rfl) hc (by kernel_rfl) ?_
  clear hc
  unfold M_auto_maker_repeat_2_sIIPPPO at hm
  refine start (n := 11) [(0, .int .i64 p0), (1, .int .i64 p1), (2, .ptr (some (bp2, 0)))] (by kernel_rfl) (by kernel_rfl) ?_
  intro fr H
  refine aw_seq (by kernel_rfl) ?_
  refine aw_reg (id := 0) (n := 1) [(0, [])] (by kernel_rfl) (by kernel_rfl) ?_
  refine at_seg [(0, [])] [(0, .int .i64 p0), (1, .int .i64 p1), (2, .ptr (some (bp2, 0)))] H (noU_all rfl) (fun fr => by kernel_rfl) ?_
  intro fr H
  refine at_nil ?_
  show AW cfg 83 g (right (bodyC cfg.P 83)) fr h _
  refine aw_seq (by kernel_rfl) ?_
  refine aw_reg (id := 1) (n := 6) [(0, []), (1, []), (2, []), (3, []), (4, []), (5, [])] (by kernel_rfl) (by kernel_rfl) ?_
  refine at_step (v := .ptr (some (bp2_0, 0))) (h1 := h) [(0, .int .i64 p0), (1, .int .i64 p1), (6, .ptr (some (bp2_0, 0)))] H (fun fr => by kernel_rfl) (fun fr => .of (s_ld (by kernel_rfl) (A.ld1 0 rfl (o := 0) rfl))) ?_
  intro fr t H
  refine at_seg [(1, []), (2, []), (3, [])] [(6, .ptr (some (bp2_0, 0))), (9, .agg [.int .i64 (2 : Int), .int .i64 p0, .int .i64 p1, .int .u64 (0 : Int), .int .u64 (0 : Int), .int .u64 (0 : Int), .int .u64 (0 : Int)])] H (noU_all rfl) (fun fr => by kernel_rfl) ?_
  intro fr H
  replace A : HH g h [.obj bp2_0 (.cells none 2 [vs e_S_tree_Node p2_0.t_.Nodes, .int .i64 p2_0.t_.Root, .ptr (some (bp2_0_2, 0)), .int .i64 p2_0.most_, .bool p2_0.full_]), .obj bp2_0_2 (.cells none 2 [rowV rp2_0_2_0 p2_0.a_.l_.length, .int .i64 p2_0.a_.first_]), .lst rp2_0_2_0 108 (lst e_S_auto_state p2_0.a_.l_), .obj bp2 (.cells none 2 [.ptr (some (bp2_0, 0))])] F := (((A.front 3 rfl).front 3 rfl).front 3 rfl)
  have A1 := A.cut 3
  obtain ⟨⟨x1, x2, x3⟩, hx, hm⟩ := bind_some hm
  obtain ⟨v1, h1, hr, r1, rfl, A1⟩ := ok_auto_maker_lay_sPPOR (av := [.ptr (some (bp2_0, 0)), .agg [.int .i64 (2 : Int), .int .i64 p0, .int .i64 p1, .int .u64 (0 : Int), .int .u64 (0 : Int), .int .u64 (0 : Int), .int .u64 (0 : Int)]]) hx (by kernel_rfl) A1
  replace A : HH g h1 [.obj bp2_0 (.cells none 2 [vs e_S_tree_Node x2.t_.Nodes, .int .i64 x2.t_.Root, .ptr (some (bp2_0_2, 0)), .int .i64 x2.most_, .bool x2.full_]), .obj bp2_0_2 (.cells none 2 [rowV r1 x3.length, .int .i64 p2_0.a_.first_]), .lst r1 108 (lst e_S_auto_state x3), .obj bp2 (.cells none 2 [.ptr (some (bp2_0, 0))])] F := A.glue0 (n := 3) A1
  refine at_step (v := .int .i64 x1) (h1 := h1) [(10, .int .i64 x1)] H (fun fr => by kernel_rfl) (fun fr => Steps.call (by kernel_rfl) hr) ?_
  intro fr t H
  refine at_seg [(5, [])] [(5, .int .i64 x1)] H (noU_all rfl) (fun fr => by kernel_rfl) ?_
  intro fr H
  refine at_nil ?_
  show AW cfg 83 g (right (right (bodyC cfg.P 83))) fr h1 _
  refine aw_ret (by kernel_rfl) ?_
  have e0 := Option.some.inj hm
  obtain ⟨y0, z0⟩ := Prod.mk.inj e0
  obtain ⟨y1, z1⟩ := Prod.mk.inj z0
  subst y0
  subst y1
  subst z1
  refine ⟨.inl rfl, .int .i64 x1, resH H (fun fr => by kernel_rfl), ?_⟩
  replace A : HH g h1 [.obj bp2 (.cells none 2 [.ptr (some (bp2_0, 0))]), .obj bp2_0 (.cells none 2 [vs e_S_tree_Node x2.t_.Nodes, .int .i64 x2.t_.Root, .ptr (some (bp2_0_2, 0)), .int .i64 x2.most_, .bool x2.full_]), .obj bp2_0_2 (.cells none 2 [rowV r1 x3.length, .int .i64 p2_0.a_.first_]), .lst r1 108 (lst e_S_auto_state x3)] F := ((((A.front 2 rfl).front 2 rfl).front 2 rfl).front 3 rfl)
  exact ⟨r1, rfl, A⟩
/-! ### (*boulter/auto.Auto).close -/
noncomputable def M_auto_Auto_close_sPVOBB_L0 (p0 : S_auto_Auto) (p2 : Bool) (p3 : Bool) (s : (List Int) × (List Bool)) : Option (((List Int) × (List Bool)) ⊕ (((List Bool)))) :=
  match s with
  | (x1, x2) => iteB (decide ((x1.length : Int) > (0 : Int))) ((ixV x1 (IntKind.i64.wrap ((x1.length : Int) - (1 : Int)))).bind fun x4 => (subV x1 none (some (IntKind.i64.wrap ((x1.length : Int) - (1 : Int))))).bind fun x5 => (ixV x2 x4).bind fun x6 => iteB x6 (some (.inl (x5, x2))) ((ixV x2 x4).bind fun x7 => (ixV p0.l_ x4).bind fun x8 => iteB (x8.kind_ == (2 : Int)) (need (okN 8 (x5.length + ([x8.a_, x8.b_] : List Int).length)) <| some (.inl ((x5 ++ ([x8.a_, x8.b_] : List Int)), (x2.set x4.toNat true)))) ((iteB ((x8.kind_ == (3 : Int)) && p2) (some true) (some ((x8.kind_ == (4 : Int)) && p3)) : Option ((Bool))).bind fun x9 => iteB x9 (need (okN 8 (x5.length + ([x8.a_] : List Int).length)) <| some (.inl ((x5 ++ ([x8.a_] : List Int)), (x2.set x4.toNat true)))) (some (.inl (x5, (x2.set x4.toNat true))))))) (some (.inr x2))
noncomputable def M_auto_Auto_close_sPVOBB_L1 (x3 : List Bool) (s : (List Int) × Int) : Option (((List Int) × Int) ⊕ (((List Int)))) :=
  match s with
  | (x10, x11) => iteB (decide (x11 < (x3.length : Int))) (((ixV x3 x11).bind fun x14 => iteB x14 (need (okN 8 (x10.length + ([x11] : List Int).length)) <| some (x10 ++ ([x11] : List Int))) (some x10) : Option (((List Int)))).bind fun x13 => some (.inl (x13, IntKind.i64.wrap (x11 + (1 : Int))))) (some (.inr x10))
noncomputable def M_auto_Auto_close_sPVOBB (p0 : S_auto_Auto) (p1 : List Int) (p2 : Bool) (p3 : Bool) : Option ((List Int)) :=
 need (mkN 1 (p0.l_.length : Int)) <| need (okN 8 p1.length) <| (loop (M_auto_Auto_close_sPVOBB_L0 p0 p2 p3) (p1, (List.replicate (p0.l_.length : Int).toNat false))).bind fun x3 => (loop (M_auto_Auto_close_sPVOBB_L1 x3) (([] : List Int), (0 : Int))).bind fun x12 => some x12
theorem ok_auto_Auto_close_sPVOBB {g : Gd} {h : AHeap} {F : List Ck} {p0 : S_auto_Auto} {p1 : List Int} {p2 : Bool} {p3 : Bool} {rp1 : Option Nat} {q0 : List Int} {av : List AVal} (hm : M_auto_Auto_close_sPVOBB p0 p1 p2 p3 = some q0) (hc : canL (cfg.still 52) av = [.vptr [vs e_S_auto_state p0.l_, .int .i64 p0.first_], rowV rp1 p1.length, .bool p2, .bool p3]) (A : HH g h [.lst rp1 3 (lst (eI .i64) p1)] F) : ∃ v h', Runs cfg g h 52 av v h' ∧ ∃ (rq0 : Option Nat), v = rowV rq0 q0.length ∧ HH g h' [.lst rq0 3 (lst (eI .i64) q0), .lst rp1 3 (lst (eI .i64) p1)] F := by
  refine runsQ1 (n := 95) (rs := [.tmp 8]) (by kernel_rfl) hc (by kernel_rfl) ?_
  clear hc
  unfold M_auto_Auto_close_sPVOBB at hm
  refine start (n := 95) [(0, .vptr [vs e_S_auto_state p0.l_, .int .i64 p0.first_]), (1, rowV rp1 p1.length), (2, .bool p2), (3, .bool p3)] (by kernel_rfl) (by kernel_rfl) ?_
  intro fr H
  refine aw_seq (by kernel_rfl) ?_
  refine aw_reg (id := 0) (n := 1) [(0, [])] (by kernel_rfl) (by kernel_rfl) ?_
  refine at_seg [(0, [])] [(0, .vptr [vs e_S_auto_state p0.l_, .int .i64 p0.first_]), (1, rowV rp1 p1.length), (2, .bool p2), (3, .bool p3)] H (noU_all rfl) (fun fr => by kernel_rfl) ?_
  intro fr H
  refine at_nil ?_
  show AW cfg 52 g (right (bodyC cfg.P 52)) fr h _
  refine aw_seq (by kernel_rfl) ?_
  refine aw_reg (id := 1) (n := 7) [(0, []), (1, []), (2, []), (3, []), (4, []), (5, []), (6, [])] (by kernel_rfl) (by kernel_rfl) ?_
  refine at_seg [(0, []), (1, []), (2, [])] [(0, .vptr [vs e_S_auto_state p0.l_, .int .i64 p0.first_]), (1, rowV rp1 p1.length), (2, .bool p2), (3, .bool p3), (18, .vptr [vs e_S_auto_state p0.l_, .int .i64 p0.first_])] H (noU_all rfl) (fun fr => by kernel_rfl) ?_
  intro fr H
  refine at_step (v := vs e_S_auto_state p0.l_) (h1 := h) [(0, .vptr [vs e_S_auto_state p0.l_, .int .i64 p0.first_]), (1, rowV rp1 p1.length), (2, .bool p2), (3, .bool p3), (19, vs e_S_auto_state p0.l_)] H (fun fr => by kernel_rfl) (fun fr => .of (s_lv (by kernel_rfl))) ?_
  intro fr t H
  refine at_seg [(4, [])] [(0, .vptr [vs e_S_auto_state p0.l_, .int .i64 p0.first_]), (1, rowV rp1 p1.length), (2, .bool p2), (3, .bool p3), (20, .int .i64 (p0.l_.length : Int))] H (noU_all rfl) (fun fr => by kernel_rfl) ?_
  intro fr H
  obtain ⟨hb, hm⟩ := need_some hm
  obtain ⟨h1, e1⟩ : ∃ x, x = h.push (.cells (some 4) 2 (lst eB (List.replicate (p0.l_.length : Int).toNat false))) := ⟨_, rfl⟩
  replace A := (A.pushL _ _).to e1
  refine at_step (v := rowV (some h.size) (List.replicate (p0.l_.length : Int).toNat false).length) (h1 := h1) [(0, .vptr [vs e_S_auto_state p0.l_, .int .i64 p0.first_]), (1, rowV rp1 p1.length), (2, .bool p2), (3, .bool p3), (21, rowV (some h.size) ((List.replicate (p0.l_.length : Int).toNat false).length))] H (fun fr => by kernel_rfl) (fun fr => .of (s_mkO (e := eB) encB (x := false) (by kernel_rfl) hb (congrArg some e1.symm))) ?_
  intro fr t H
  refine at_seg [(6, [])] [(0, .vptr [vs e_S_auto_state p0.l_, .int .i64 p0.first_]), (1, rowV rp1 p1.length), (2, .bool p2), (3, .bool p3), (9, rowV (some h.size) ((List.replicate (p0.l_.length : Int).toNat false).length))] H (noU_all rfl) (fun fr => by kernel_rfl) ?_
  intro fr H
  refine at_nil ?_
  show AW cfg 52 g (right (right (bodyC cfg.P 52))) fr h1 _
  refine aw_seq (by kernel_rfl) ?_
  refine aw_reg (id := 2) (n := 3) [(0, []), (1, []), (2, [])] (by kernel_rfl) (by kernel_rfl) ?_
  refine at_seg [(0, [])] [(0, .vptr [vs e_S_auto_state p0.l_, .int .i64 p0.first_]), (2, .bool p2), (3, .bool p3), (9, rowV (some h.size) ((List.replicate (p0.l_.length : Int).toNat false).length)), (22, rowV rp1 p1.length)] H (noU_all rfl) (fun fr => by kernel_rfl) ?_
  intro fr H
  replace A : HH g h1 [.lst rp1 3 (lst (eI .i64) p1), .lst (some h.size) 4 (lst eB (List.replicate (p0.l_.length : Int).toNat false))] F := (A.front 1 rfl)
  have A1 := A.cut 1
  obtain ⟨hb, hm⟩ := need_some hm
  obtain ⟨r1, h2, hr, A1⟩ := HH.clone (C := cfg) (f := 69) (a := 0) (t := 3) (xs := p1) (encI .i64) (by decide) A1 (by kernel_rfl) (l := exts) rfl (by kernel_rfl) (by kernel_rfl) rfl (HH.firstO (encI .i64) (by decide) A1 0 (xs := p1) rfl) ((encI .i64).canL _) hb
  replace A : HH g h2 [.lst r1 3 (lst (eI .i64) p1), .lst rp1 3 (lst (eI .i64) p1), .lst (some h.size) 4 (lst eB (List.replicate (p0.l_.length : Int).toNat false))] F := A.glue0 (n := 1) A1
  refine at_step (v := rowV r1 p1.length) (h1 := h2) [(0, .vptr [vs e_S_auto_state p0.l_, .int .i64 p0.first_]), (2, .bool p2), (3, .bool p3), (9, rowV (some h.size) ((List.replicate (p0.l_.length : Int).toNat false).length)), (23, rowV r1 p1.length)] H (fun fr => by kernel_rfl) (fun fr => Steps.call (by kernel_rfl) hr) ?_
  intro fr t H
  refine at_seg [(2, [])] [(0, .vptr [vs e_S_auto_state p0.l_, .int .i64 p0.first_]), (2, .bool p2), (3, .bool p3), (9, rowV (some h.size) ((List.replicate (p0.l_.length : Int).toNat false).length)), (10, rowV r1 p1.length)] H (noU_all rfl) (fun fr => by kernel_rfl) ?_
  intro fr H
  refine at_nil ?_
  show AW cfg 52 g (right (right (right (bodyC cfg.P 52)))) fr h2 _
  refine aw_seq (by kernel_rfl) ?_
  refine aw_block (id := 0) (by kernel_rfl) ?_
  replace A : HH g h2 [.lst r1 3 (lst (eI .i64) (p1 ++ [])), .lst rp1 3 (lst (eI .i64) p1), .lst (some h.size) 4 (lst eB (List.replicate (p0.l_.length : Int).toNat false))] F := A.tl0 0 rfl
  obtain ⟨o1, ho, hm⟩ := bind_some hm
  refine aw_mono (Q' := fun e fr' h' => (∃ (x3 : List Bool), e = .exit 0 ∧ x3 = o1 ∧ ∃ (hl2 : x3.length = (List.replicate (p0.l_.length : Int).toNat false).length), Has fr' 95 [(9, rowV (some h.size) x3.length)] ∧ HH g h' [.lst rp1 3 (lst (eI .i64) p1), .lst (some h.size) 4 (lst eB x3)] F) ∨ False) ?_ ?_
  · refine aw_loop (by kernel_rfl) (fun (s : (List Int) × (List Bool)) fr' h' => ∃ (x1 : List Int) (x2 : List Bool), (x1, x2) = s ∧ ∃ (r2 : Option Nat) (tl1 : List Int) (hl1 : x2.length = (List.replicate (p0.l_.length : Int).toNat false).length), Has fr' 95 [(0, .vptr [vs e_S_auto_state p0.l_, .int .i64 p0.first_]), (2, .bool p2), (3, .bool p3), (9, rowV (some h.size) x2.length), (10, rowV r2 x1.length)] ∧ HH g h' [.lst r2 3 (lst (eI .i64) (x1 ++ tl1)), .lst rp1 3 (lst (eI .i64) p1), .lst (some h.size) 4 (lst eB x2)] F) ho ⟨p1, (List.replicate (p0.l_.length : Int).toNat false), rfl, r1, [], rfl, H.less _ (fun fr => by kernel_rfl), A⟩ ?_
    clear ho hm H A
    intro s q fr h3 hI hm
    obtain ⟨x1, x2, rfl, r2, tl1, hl1, H, A⟩ := hI
    unfold M_auto_Auto_close_sPVOBB_L0 at hm
    refine aw_seq (by kernel_rfl) ?_
    refine aw_seq (by kernel_rfl) ?_
    refine aw_reg (id := 3) (n := 3) [(0, []), (1, []), (2, [])] (by kernel_rfl) (by kernel_rfl) ?_
    refine at_seg [(0, []), (1, []), (2, [])] [(0, .vptr [vs e_S_auto_state p0.l_, .int .i64 p0.first_]), (2, .bool p2), (3, .bool p3), (9, rowV (some h.size) x2.length), (10, rowV r2 x1.length), (26, .bool (decide ((x1.length : Int) > (0 : Int))))] H (noU_all rfl) (fun fr => by kernel_rfl) ?_
    intro fr H
    refine at_nil ?_
    show AW cfg 52 g (right (left (left (left (left (right (right (right (bodyC cfg.P 52))))))))) fr h3 _
    rcases iteB_some hm with ⟨hb, hm⟩ | ⟨hb, hm⟩
    · replace H := H.know 26 hb (by kernel_rfl)
      refine aw_true (x := .tmp 26) (by kernel_rfl) H (fun fr => by kernel_rfl) ?_
      refine aw_skip (by kernel_rfl) ?_
      show AW cfg 52 g (right (left (left (left (right (right (right (bodyC cfg.P 52)))))))) fr h3 _
      refine aw_block (id := 1) (by kernel_rfl) ?_
      refine aw_seq (by kernel_rfl) ?_
      refine aw_reg (id := 4) (n := 7) [(0, []), (1, []), (2, []), (3, []), (4, []), (5, []), (6, [])] (by kernel_rfl) (by kernel_rfl) ?_
      refine at_seg [(0, []), (1, []), (2, []), (3, [])] [(0, .vptr [vs e_S_auto_state p0.l_, .int .i64 p0.first_]), (2, .bool p2), (3, .bool p3), (9, rowV (some h.size) x2.length), (10, rowV r2 x1.length), (27, rowV r2 x1.length), (30, .int .i64 (IntKind.i64.wrap ((x1.length : Int) - (1 : Int))))] H (noU_all rfl) (fun fr => by kernel_rfl) ?_
      intro fr H
      obtain ⟨x4, hx, hm⟩ := bind_some hm
      obtain ⟨i1, er1, _, hx, hq1⟩ := HH.ixT (encI .i64) (by decide) A 0 (xs := x1) (tl := tl1) rfl hx
      refine at_step (v := .ptr (some (i1, (IntKind.i64.wrap ((x1.length : Int) - (1 : Int))).toNat * 1))) (h1 := h3) [(0, .vptr [vs e_S_auto_state p0.l_, .int .i64 p0.first_]), (2, .bool p2), (3, .bool p3), (9, rowV (some h.size) x2.length), (10, rowV r2 x1.length), (31, .ptr (some (i1, (IntKind.i64.wrap ((x1.length : Int) - (1 : Int))).toNat * 1)))] H (fun fr => by kernel_rfl) (fun fr => .of (s_ixL (s := rowS r2 x1.length) (by kernel_rfl) hx)) ?_
      intro fr t H
      refine at_step (v := .int .i64 x4) (h1 := h3) [(0, .vptr [vs e_S_auto_state p0.l_, .int .i64 p0.first_]), (2, .bool p2), (3, .bool p3), (9, rowV (some h.size) x2.length), (10, rowV r2 x1.length), (32, .int .i64 x4)] H (fun fr => by kernel_rfl) (fun fr => .of (s_ld (by kernel_rfl) (row_ld1 (encI .i64) (HH.row A 0 rfl er1) hq1 (o := 0) rfl))) ?_
      intro fr t H
      refine at_seg [(6, [])] [(0, .vptr [vs e_S_auto_state p0.l_, .int .i64 p0.first_]), (2, .bool p2), (3, .bool p3), (9, rowV (some h.size) x2.length), (10, rowV r2 x1.length), (11, .int .i64 x4)] H (noU_all rfl) (fun fr => by kernel_rfl) ?_
      intro fr H
      refine at_nil ?_
      show AW cfg 52 g (right (left (right (left (left (left (right (right (right (bodyC cfg.P 52)))))))))) fr h3 _
      refine aw_seq (by kernel_rfl) ?_
      refine aw_reg (id := 5) (n := 6) [(0, []), (1, []), (2, []), (3, []), (4, []), (5, [])] (by kernel_rfl) (by kernel_rfl) ?_
      refine at_seg [(0, []), (1, []), (2, []), (3, [])] [(0, .vptr [vs e_S_auto_state p0.l_, .int .i64 p0.first_]), (2, .bool p2), (3, .bool p3), (9, rowV (some h.size) x2.length), (11, .int .i64 x4), (33, rowV r2 x1.length), (36, .int .i64 (IntKind.i64.wrap ((x1.length : Int) - (1 : Int))))] H (noU_all rfl) (fun fr => by kernel_rfl) ?_
      intro fr H
      obtain ⟨x5, hx, hm⟩ := bind_some hm
      have Aw1 := A
      obtain ⟨tl2, A1⟩ := HH.cutT A 0 (xs := x1) (tl := tl1) rfl hx
      replace A : HH g h3 [.lst r2 3 (lst (eI .i64) (x5 ++ tl2)), .lst rp1 3 (lst (eI .i64) p1), .lst (some h.size) 4 (lst eB x2)] F := A1
      refine at_step (v := rowV r2 x5.length) (h1 := h3) [(0, .vptr [vs e_S_auto_state p0.l_, .int .i64 p0.first_]), (2, .bool p2), (3, .bool p3), (9, rowV (some h.size) x2.length), (11, .int .i64 x4), (37, rowV r2 x5.length)] H (fun fr => by kernel_rfl) (fun fr => .of (s_subT (encI .i64) (by decide) Aw1 0 (xs := x1) (tl := tl1) (k' := .i64) rfl (by kernel_rfl) (by kernel_rfl) hx)) ?_
      intro fr t H
      refine at_seg [(5, [])] [(0, .vptr [vs e_S_auto_state p0.l_, .int .i64 p0.first_]), (2, .bool p2), (3, .bool p3), (9, rowV (some h.size) x2.length), (10, rowV r2 x5.length), (11, .int .i64 x4)] H (noU_all rfl) (fun fr => by kernel_rfl) ?_
      intro fr H
      refine at_nil ?_
      show AW cfg 52 g (right (right (left (right (left (left (left (right (right (right (bodyC cfg.P 52))))))))))) fr h3 _
      refine aw_seq (by kernel_rfl) ?_
      refine aw_seq (by kernel_rfl) ?_
      refine aw_reg (id := 6) (n := 4) [(0, []), (1, []), (2, []), (3, [])] (by kernel_rfl) (by kernel_rfl) ?_
      refine at_seg [(0, []), (1, [])] [(0, .vptr [vs e_S_auto_state p0.l_, .int .i64 p0.first_]), (2, .bool p2), (3, .bool p3), (9, rowV (some h.size) x2.length), (10, rowV r2 x5.length), (11, .int .i64 x4), (38, rowV (some h.size) x2.length), (39, .int .i64 x4)] H (noU_all rfl) (fun fr => by kernel_rfl) ?_
      intro fr H
      obtain ⟨x6, hx, hm⟩ := bind_some hm
      obtain ⟨i2, er2, _, hx, hq2⟩ := HH.ixO encB (by decide) A 2 (xs := x2) rfl hx
      refine at_step (v := .ptr (some (i2, x4.toNat * 1))) (h1 := h3) [(0, .vptr [vs e_S_auto_state p0.l_, .int .i64 p0.first_]), (2, .bool p2), (3, .bool p3), (9, rowV (some h.size) x2.length), (10, rowV r2 x5.length), (11, .int .i64 x4), (40, .ptr (some (i2, x4.toNat * 1)))] H (fun fr => by kernel_rfl) (fun fr => .of (s_ixL (s := rowS (some h.size) x2.length) (by kernel_rfl) hx)) ?_
      intro fr t H
      refine at_step (v := .bool x6) (h1 := h3) [(0, .vptr [vs e_S_auto_state p0.l_, .int .i64 p0.first_]), (2, .bool p2), (3, .bool p3), (9, rowV (some h.size) x2.length), (10, rowV r2 x5.length), (11, .int .i64 x4), (41, .bool x6)] H (fun fr => by kernel_rfl) (fun fr => .of (s_ld (by kernel_rfl) (row_ld1 encB (HH.row A 2 rfl er2) hq2 (o := 0) rfl))) ?_
      intro fr t H
      refine at_nil ?_
      show AW cfg 52 g (right (left (right (right (left (right (left (left (left (right (right (right (bodyC cfg.P 52))))))))))))) fr h3 _
      rcases iteB_some hm with ⟨hb, hm⟩ | ⟨hb, hm⟩
      · replace H := H.know 41 hb (by kernel_rfl)
        refine aw_true (x := .tmp 41) (by kernel_rfl) H (fun fr => by kernel_rfl) ?_
        refine aw_exit (i := 1) (by kernel_rfl) ?_
        exact Exists.intro (x5, x2) (And.intro (Option.some.inj hm).symm ⟨x5, x2, rfl, r2, tl2, hl1, H.less _ (fun fr => by kernel_rfl), A⟩)
      · replace H := H.know 41 hb (by kernel_rfl)
        refine aw_false (x := .tmp 41) (by kernel_rfl) H (fun fr => by kernel_rfl) ?_
        refine aw_skip (by kernel_rfl) ?_
        show AW cfg 52 g (right (right (right (left (right (left (left (left (right (right (right (bodyC cfg.P 52)))))))))))) fr h3 _
        refine aw_seq (by kernel_rfl) ?_
        refine aw_reg (id := 7) (n := 4) [(0, []), (1, []), (2, []), (3, [])] (by kernel_rfl) (by kernel_rfl) ?_
        refine at_seg [(0, []), (1, [])] [(0, .vptr [vs e_S_auto_state p0.l_, .int .i64 p0.first_]), (2, .bool p2), (3, .bool p3), (9, rowV (some h.size) x2.length), (10, rowV r2 x5.length), (11, .int .i64 x4), (42, rowV (some h.size) x2.length), (43, .int .i64 x4)] H (noU_all rfl) (fun fr => by kernel_rfl) ?_
        intro fr H
        obtain ⟨x7, hx, hm⟩ := bind_some hm
        obtain ⟨i3, er3, _, hx, hq3⟩ := HH.ixO encB (by decide) A 2 (xs := x2) rfl hx
        refine at_step (v := .ptr (some (i3, x4.toNat * 1))) (h1 := h3) [(0, .vptr [vs e_S_auto_state p0.l_, .int .i64 p0.first_]), (2, .bool p2), (3, .bool p3), (9, rowV (some h.size) x2.length), (10, rowV r2 x5.length), (11, .int .i64 x4), (44, .ptr (some (i3, x4.toNat * 1)))] H (fun fr => by kernel_rfl) (fun fr => .of (s_ixL (s := rowS (some h.size) x2.length) (by kernel_rfl) hx)) ?_
        intro fr t H
        obtain ⟨h4, hx, A1⟩ := HH.stO encB A 2 rfl er3 hq3 (y := true) (o := 0) (new := [.bool true]) rfl rfl (Nat.le_of_ble_eq_true rfl)
        have hl3 : (x2.set x4.toNat true).length = (List.replicate (p0.l_.length : Int).toNat false).length := List.length_set.trans hl1
        have el : rowV (some h.size) x2.length = rowV (some h.size) (x2.set x4.toNat true).length := congrArg _ List.length_set.symm
        try rw [el] at H
        try rw [el] at A1
        replace A : HH g h4 [.lst r2 3 (lst (eI .i64) (x5 ++ tl2)), .lst rp1 3 (lst (eI .i64) p1), .lst (some h.size) 4 (lst eB (x2.set x4.toNat true))] F := A1
        refine at_step (v := .tuple []) (h1 := h4) [(0, .vptr [vs e_S_auto_state p0.l_, .int .i64 p0.first_]), (2, .bool p2), (3, .bool p3), (9, rowV (some h.size) ((x2.set x4.toNat true).length)), (10, rowV r2 x5.length), (11, .int .i64 x4)] H (fun fr => by kernel_rfl) (fun fr => .of (s_st (by kernel_rfl) rfl hx)) ?_
        intro fr t H
        refine at_nil ?_
        show AW cfg 52 g (right (right (right (right (left (right (left (left (left (right (right (right (bodyC cfg.P 52))))))))))))) fr h4 _
        refine aw_seq (by kernel_rfl) ?_
        refine aw_reg (id := 8) (n := 9) [(0, []), (1, []), (2, []), (3, []), (4, []), (5, []), (6, []), (7, []), (8, [])] (by kernel_rfl) (by kernel_rfl) ?_
        refine at_seg [(0, []), (1, []), (2, [])] [(0, .vptr [vs e_S_auto_state p0.l_, .int .i64 p0.first_]), (2, .bool p2), (3, .bool p3), (9, rowV (some h.size) ((x2.set x4.toNat true).length)), (10, rowV r2 x5.length), (11, .int .i64 x4), (47, .vptr [vs e_S_auto_state p0.l_, .int .i64 p0.first_])] H (noU_all rfl) (fun fr => by kernel_rfl) ?_
        intro fr H
        refine at_step (v := vs e_S_auto_state p0.l_) (h1 := h4) [(0, .vptr [vs e_S_auto_state p0.l_, .int .i64 p0.first_]), (2, .bool p2), (3, .bool p3), (9, rowV (some h.size) ((x2.set x4.toNat true).length)), (10, rowV r2 x5.length), (11, .int .i64 x4), (48, vs e_S_auto_state p0.l_)] H (fun fr => by kernel_rfl) (fun fr => .of (s_lv (by kernel_rfl))) ?_
        intro fr t H
        refine at_seg [(4, [])] [(0, .vptr [vs e_S_auto_state p0.l_, .int .i64 p0.first_]), (2, .bool p2), (3, .bool p3), (9, rowV (some h.size) ((x2.set x4.toNat true).length)), (10, rowV r2 x5.length), (48, vs e_S_auto_state p0.l_), (49, .int .i64 x4)] H (noU_all rfl) (fun fr => by kernel_rfl) ?_
        intro fr H
        obtain ⟨x8, hx, hm⟩ := bind_some hm
        refine at_step (v := .vptr (e_S_auto_state x8)) (h1 := h4) [(0, .vptr [vs e_S_auto_state p0.l_, .int .i64 p0.first_]), (2, .bool p2), (3, .bool p3), (9, rowV (some h.size) ((x2.set x4.toNat true).length)), (10, rowV r2 x5.length), (50, .vptr (e_S_auto_state x8))] H (fun fr => by kernel_rfl) (fun fr => .of (s_ixV (e := e_S_auto_state) (x := x8) enc_S_auto_state (by decide) (by kernel_rfl) hx)) ?_
        intro fr t H
        refine at_step (v := .agg (e_S_auto_state x8)) (h1 := h4) [(0, .vptr [vs e_S_auto_state p0.l_, .int .i64 p0.first_]), (2, .bool p2), (3, .bool p3), (9, rowV (some h.size) ((x2.set x4.toNat true).length)), (10, rowV r2 x5.length), (51, .agg (e_S_auto_state x8))] H (fun fr => by kernel_rfl) (fun fr => .of (s_lv (by kernel_rfl))) ?_
        intro fr t H
        obtain ⟨h5, e2⟩ : ∃ x, x = h4.push (.cells none 2 [.int .i64 (0 : Int), .int .i64 (0 : Int), .int .i64 (0 : Int), .int .u64 (0 : Int), .int .u64 (0 : Int), .int .u64 (0 : Int), .int .u64 (0 : Int)]) := ⟨_, rfl⟩
        replace A := (A.push _).to e2
        refine at_step (v := .ptr (some (h4.size, 0))) (h1 := h5) [(0, .vptr [vs e_S_auto_state p0.l_, .int .i64 p0.first_]), (2, .bool p2), (3, .bool p3), (9, rowV (some h.size) ((x2.set x4.toNat true).length)), (10, rowV r2 x5.length), (12, .ptr (some (h4.size, 0))), (51, .agg (e_S_auto_state x8))] H (fun fr => by kernel_rfl) (fun fr => .of (s_n' (by kernel_rfl) (congrArg some e2.symm))) ?_
        intro fr t H
        obtain ⟨h6, hx, A1⟩ := A.st 0 rfl (o := 0) (new := [.int .i64 x8.kind_, .int .i64 x8.a_, .int .i64 x8.b_, .int .u64 x8.set_.w0, .int .u64 x8.set_.w1, .int .u64 x8.set_.w2, .int .u64 x8.set_.w3]) (ds := [.int .i64 x8.kind_, .int .i64 x8.a_, .int .i64 x8.b_, .int .u64 x8.set_.w0, .int .u64 x8.set_.w1, .int .u64 x8.set_.w2, .int .u64 x8.set_.w3]) (Nat.le_of_ble_eq_true rfl) rfl rfl
        replace A : HH g h6 [.obj h4.size (.cells none 2 (e_S_auto_state x8)), .lst r2 3 (lst (eI .i64) (x5 ++ tl2)), .lst rp1 3 (lst (eI .i64) p1), .lst (some h.size) 4 (lst eB (x2.set x4.toNat true))] F := A1
        refine at_step (v := .tuple []) (h1 := h6) [(0, .vptr [vs e_S_auto_state p0.l_, .int .i64 p0.first_]), (2, .bool p2), (3, .bool p3), (9, rowV (some h.size) ((x2.set x4.toNat true).length)), (10, rowV r2 x5.length), (12, .ptr (some (h4.size, 0)))] H (fun fr => by kernel_rfl) (fun fr => .of (s_stG (by kernel_rfl) (stG_st hx rfl))) ?_
        intro fr t H
        refine at_nil ?_
        show AW cfg 52 g (right (right (right (right (right (left (right (left (left (left (right (right (right (bodyC cfg.P 52)))))))))))))) fr h6 _
        refine aw_block (id := 2) (by kernel_rfl) ?_
        refine aw_seq (by kernel_rfl) ?_
        refine aw_reg (id := 9) (n := 4) [(0, []), (1, []), (2, []), (3, [])] (by kernel_rfl) (by kernel_rfl) ?_
        refine at_seg [(0, [])] [(0, .vptr [vs e_S_auto_state p0.l_, .int .i64 p0.first_]), (2, .bool p2), (3, .bool p3), (9, rowV (some h.size) ((x2.set x4.toNat true).length)), (10, rowV r2 x5.length), (12, .ptr (some (h4.size, 0))), (53, .ptr (some (h4.size, 0)))] H (noU_all rfl) (fun fr => by kernel_rfl) ?_
        intro fr H
        refine at_step (v := .int .i64 x8.kind_) (h1 := h6) [(0, .vptr [vs e_S_auto_state p0.l_, .int .i64 p0.first_]), (2, .bool p2), (3, .bool p3), (9, rowV (some h.size) ((x2.set x4.toNat true).length)), (10, rowV r2 x5.length), (12, .ptr (some (h4.size, 0))), (54, .int .i64 x8.kind_)] H (fun fr => by kernel_rfl) (fun fr => .of (s_ld (by kernel_rfl) (A.ld1 0 rfl (o := 0) rfl))) ?_
        intro fr t H
        refine at_seg [(2, []), (3, [])] [(0, .vptr [vs e_S_auto_state p0.l_, .int .i64 p0.first_]), (2, .bool p2), (3, .bool p3), (9, rowV (some h.size) ((x2.set x4.toNat true).length)), (10, rowV r2 x5.length), (12, .ptr (some (h4.size, 0))), (52, .bool (x8.kind_ == (2 : Int)))] H (noU_all rfl) (fun fr => by kernel_rfl) ?_
        intro fr H
        refine at_nil ?_
        show AW cfg 52 g (right (left (right (right (right (right (right (left (right (left (left (left (right (right (right (bodyC cfg.P 52)))))))))))))))) fr h6 _
        rcases iteB_some hm with ⟨hb, hm⟩ | ⟨hb, hm⟩
        · replace H := H.know 52 hb (by kernel_rfl)
          refine aw_true (x := .tmp 52) (by kernel_rfl) H (fun fr => by kernel_rfl) ?_
          refine aw_reg (id := 10) (n := 8) [(0, []), (1, []), (2, []), (3, []), (4, []), (5, []), (6, []), (7, [])] (by kernel_rfl) (by kernel_rfl) ?_
          refine at_seg [(0, []), (1, [])] [(0, .vptr [vs e_S_auto_state p0.l_, .int .i64 p0.first_]), (2, .bool p2), (3, .bool p3), (9, rowV (some h.size) ((x2.set x4.toNat true).length)), (12, .ptr (some (h4.size, 0))), (56, rowV r2 x5.length), (57, .ptr (some (h4.size, 1)))] H (noU_all rfl) (fun fr => by kernel_rfl) ?_
          intro fr H
          refine at_step (v := .int .i64 x8.a_) (h1 := h6) [(0, .vptr [vs e_S_auto_state p0.l_, .int .i64 p0.first_]), (2, .bool p2), (3, .bool p3), (9, rowV (some h.size) ((x2.set x4.toNat true).length)), (12, .ptr (some (h4.size, 0))), (56, rowV r2 x5.length), (58, .int .i64 x8.a_)] H (fun fr => by kernel_rfl) (fun fr => .of (s_ld (by kernel_rfl) (A.ld1 0 rfl (o := 1) rfl))) ?_
          intro fr t H
          refine at_seg [(3, [])] [(0, .vptr [vs e_S_auto_state p0.l_, .int .i64 p0.first_]), (2, .bool p2), (3, .bool p3), (9, rowV (some h.size) ((x2.set x4.toNat true).length)), (56, rowV r2 x5.length), (58, .int .i64 x8.a_), (59, .ptr (some (h4.size, 2)))] H (noU_all rfl) (fun fr => by kernel_rfl) ?_
          intro fr H
          refine at_step (v := .int .i64 x8.b_) (h1 := h6) [(0, .vptr [vs e_S_auto_state p0.l_, .int .i64 p0.first_]), (2, .bool p2), (3, .bool p3), (9, rowV (some h.size) ((x2.set x4.toNat true).length)), (56, rowV r2 x5.length), (58, .int .i64 x8.a_), (60, .int .i64 x8.b_)] H (fun fr => by kernel_rfl) (fun fr => .of (s_ld (by kernel_rfl) (A.ld1 0 rfl (o := 2) rfl))) ?_
          intro fr t H
          obtain ⟨h7, e3⟩ : ∃ x, x = h6.push (.cells (some 3) 2 [.int .i64 x8.a_, .int .i64 x8.b_]) := ⟨_, rfl⟩
          replace A := (A.pushL _ _).to e3
          refine at_step (v := rowV (some h6.size) (([x8.a_, x8.b_] : List Int).length)) (h1 := h7) [(0, .vptr [vs e_S_auto_state p0.l_, .int .i64 p0.first_]), (2, .bool p2), (3, .bool p3), (9, rowV (some h.size) ((x2.set x4.toNat true).length)), (56, rowV r2 x5.length), (61, rowV (some h6.size) (([x8.a_, x8.b_] : List Int).length))] H (fun fr => by kernel_rfl) (fun fr => .of (s_n' (by kernel_rfl) (congrArg some e3.symm))) ?_
          intro fr t H
          obtain ⟨hb, hm⟩ := need_some hm
          obtain ⟨r3, tl3, h8, hx, A1⟩ := HH.appT (encI .i64) (by decide) A 2 (xs := x5) (tl := tl2) (ys := ([x8.a_, x8.b_] : List Int)) rfl (row_first A 0 rfl (n := ([x8.a_, x8.b_] : List Int).length) (z := 1) rfl (by decide)) rfl rfl hb
          replace A : HH g h8 [.lst (some h6.size) 3 ([.int .i64 x8.a_, .int .i64 x8.b_]), .obj h4.size (.cells none 2 (e_S_auto_state x8)), .lst r3 3 (lst (eI .i64) ((x5 ++ ([x8.a_, x8.b_] : List Int)) ++ tl3)), .lst rp1 3 (lst (eI .i64) p1), .lst (some h.size) 4 (lst eB (x2.set x4.toNat true))] F := A1
          replace A : HH g h8 [.obj h4.size (.cells none 2 (e_S_auto_state x8)), .lst r3 3 (lst (eI .i64) ((x5 ++ ([x8.a_, x8.b_] : List Int)) ++ tl3)), .lst rp1 3 (lst (eI .i64) p1), .lst (some h.size) 4 (lst eB (x2.set x4.toNat true))] F := (HH.dropF ((((A.front 4 rfl).front 4 rfl).front 4 rfl).front 4 rfl) 4)
          refine at_step (v := rowV r3 ((x5 ++ ([x8.a_, x8.b_] : List Int)).length)) (h1 := h8) [(0, .vptr [vs e_S_auto_state p0.l_, .int .i64 p0.first_]), (2, .bool p2), (3, .bool p3), (9, rowV (some h.size) ((x2.set x4.toNat true).length)), (62, rowV r3 ((x5 ++ ([x8.a_, x8.b_] : List Int)).length))] H (fun fr => by kernel_rfl) (fun fr => .of (s_app (s := rowS r2 x5.length) (by kernel_rfl) hx)) ?_
          intro fr t H
          refine at_seg [(7, [])] [(0, .vptr [vs e_S_auto_state p0.l_, .int .i64 p0.first_]), (2, .bool p2), (3, .bool p3), (9, rowV (some h.size) ((x2.set x4.toNat true).length)), (10, rowV r3 ((x5 ++ ([x8.a_, x8.b_] : List Int)).length))] H (noU_all rfl) (fun fr => by kernel_rfl) ?_
          intro fr H
          refine at_nil ?_
          replace A : HH g h8 [.lst r3 3 (lst (eI .i64) ((x5 ++ ([x8.a_, x8.b_] : List Int)) ++ tl3)), .lst rp1 3 (lst (eI .i64) p1), .lst (some h.size) 4 (lst eB (x2.set x4.toNat true))] F := (HH.dropF (((A.front 3 rfl).front 3 rfl).front 3 rfl) 3)
          exact Exists.intro ((x5 ++ ([x8.a_, x8.b_] : List Int)), (x2.set x4.toNat true)) (And.intro (Option.some.inj hm).symm ⟨(x5 ++ ([x8.a_, x8.b_] : List Int)), (x2.set x4.toNat true), rfl, r3, tl3, hl3, H.less _ (fun fr => by kernel_rfl), A⟩)
        · replace H := H.know 52 hb (by kernel_rfl)
          refine aw_false (x := .tmp 52) (by kernel_rfl) H (fun fr => by kernel_rfl) ?_
          refine aw_seq (by kernel_rfl) ?_
          obtain ⟨o2, ho, hm⟩ := bind_some hm
          refine aw_mono (Q' := fun e fr' h' => (∃ (x9 : Bool), e = .normal ∧ x9 = o2 ∧ Has fr' 95 [(0, .vptr [vs e_S_auto_state p0.l_, .int .i64 p0.first_]), (2, .bool p2), (3, .bool p3), (9, rowV (some h.size) ((x2.set x4.toNat true).length)), (10, rowV r2 x5.length), (12, .ptr (some (h4.size, 0))), (63, .bool x9)] ∧ HH g h' [.obj h4.size (.cells none 2 (e_S_auto_state x8)), .lst r2 3 (lst (eI .i64) (x5 ++ tl2)), .lst rp1 3 (lst (eI .i64) p1), .lst (some h.size) 4 (lst eB (x2.set x4.toNat true))] F) ∨ False) ?_ ?_
          · replace hm := ho
            clear ho
            refine aw_seq (by kernel_rfl) ?_
            refine aw_reg (id := 11) (n := 7) [(0, []), (1, []), (2, []), (3, []), (4, []), (5, []), (6, [])] (by kernel_rfl) (by kernel_rfl) ?_
            refine at_seg [(0, [])] [(0, .vptr [vs e_S_auto_state p0.l_, .int .i64 p0.first_]), (2, .bool p2), (3, .bool p3), (9, rowV (some h.size) ((x2.set x4.toNat true).length)), (10, rowV r2 x5.length), (12, .ptr (some (h4.size, 0))), (64, .ptr (some (h4.size, 0)))] H (noU_all rfl) (fun fr => by kernel_rfl) ?_
            intro fr H
            refine at_step (v := .int .i64 x8.kind_) (h1 := h6) [(0, .vptr [vs e_S_auto_state p0.l_, .int .i64 p0.first_]), (2, .bool p2), (3, .bool p3), (9, rowV (some h.size) ((x2.set x4.toNat true).length)), (10, rowV r2 x5.length), (12, .ptr (some (h4.size, 0))), (65, .int .i64 x8.kind_)] H (fun fr => by kernel_rfl) (fun fr => .of (s_ld (by kernel_rfl) (A.ld1 0 rfl (o := 0) rfl))) ?_
            intro fr t H
            refine at_seg [(2, []), (3, [])] [(0, .vptr [vs e_S_auto_state p0.l_, .int .i64 p0.first_]), (2, .bool p2), (3, .bool p3), (9, rowV (some h.size) ((x2.set x4.toNat true).length)), (10, rowV r2 x5.length), (12, .ptr (some (h4.size, 0))), (67, .bool (x8.kind_ == (3 : Int)))] H (noU_all rfl) (fun fr => by kernel_rfl) ?_
            intro fr H
            refine at_cut [(4, []), (5, [])] (fun fr' h' => h6 = h' ∧ Has fr' 95 [(0, .vptr [vs e_S_auto_state p0.l_, .int .i64 p0.first_]), (2, .bool p2), (3, .bool p3), (9, rowV (some h.size) ((x2.set x4.toNat true).length)), (10, rowV r2 x5.length), (12, .ptr (some (h4.size, 0))), (69, .bool ((x8.kind_ == (3 : Int)) && p2))]) ?_ ?_
            · cases hb : (x8.kind_ == (3 : Int) : Bool) with
              | true =>
                replace H := H.know 67 hb (by kernel_rfl)
                refine at_seg [(4, []), (5, [])] [(0, .vptr [vs e_S_auto_state p0.l_, .int .i64 p0.first_]), (2, .bool p2), (3, .bool p3), (9, rowV (some h.size) ((x2.set x4.toNat true).length)), (10, rowV r2 x5.length), (12, .ptr (some (h4.size, 0))), (69, .bool p2)] H (noU_all rfl) (fun fr => by kernel_rfl) ?_
                intro fr H
                exact at_nil ⟨rfl, by first | exact H.less _ (fun fr => by rfl) | exact H.less _ (fun fr => by rw [hb]; rfl)⟩
              | false =>
                replace H := H.know 67 hb (by kernel_rfl)
                refine at_seg [(4, []), (5, [])] [(0, .vptr [vs e_S_auto_state p0.l_, .int .i64 p0.first_]), (2, .bool p2), (3, .bool p3), (9, rowV (some h.size) ((x2.set x4.toNat true).length)), (10, rowV r2 x5.length), (12, .ptr (some (h4.size, 0))), (69, .bool false)] H (noU_all rfl) (fun fr => by kernel_rfl) ?_
                intro fr H
                exact at_nil ⟨rfl, by first | exact H.less _ (fun fr => by rfl) | exact H.less _ (fun fr => by rw [hb]; rfl)⟩
            · intro t fr h' hK
              obtain ⟨e, H⟩ := hK
              subst e
              refine at_seg [(6, [])] [(0, .vptr [vs e_S_auto_state p0.l_, .int .i64 p0.first_]), (2, .bool p2), (3, .bool p3), (9, rowV (some h.size) ((x2.set x4.toNat true).length)), (10, rowV r2 x5.length), (12, .ptr (some (h4.size, 0))), (63, .bool ((x8.kind_ == (3 : Int)) && p2))] H (noU_all rfl) (fun fr => by kernel_rfl) ?_
              intro fr H
              refine at_nil ?_
              show AW cfg 52 g (right (left (right (right (left (right (right (right (right (right (left (right (left (left (left (right (right (right (bodyC cfg.P 52))))))))))))))))))) fr h6 _
              rcases iteB_some hm with ⟨hb, hm⟩ | ⟨hb, hm⟩
              · replace H := H.know 63 hb (by kernel_rfl)
                refine aw_true (x := .tmp 63) (by kernel_rfl) H (fun fr => by kernel_rfl) ?_
                refine aw_skip (by kernel_rfl) ?_
                exact Or.inl ⟨true, rfl, Option.some.inj hm, H.less _ (fun fr => by kernel_rfl), A⟩
              · replace H := H.know 63 hb (by kernel_rfl)
                refine aw_false (x := .tmp 63) (by kernel_rfl) H (fun fr => by kernel_rfl) ?_
                refine aw_reg (id := 12) (n := 7) [(0, []), (1, []), (2, []), (3, []), (4, []), (5, []), (6, [])] (by kernel_rfl) (by kernel_rfl) ?_
                refine at_seg [(0, [])] [(0, .vptr [vs e_S_auto_state p0.l_, .int .i64 p0.first_]), (2, .bool p2), (3, .bool p3), (9, rowV (some h.size) ((x2.set x4.toNat true).length)), (10, rowV r2 x5.length), (12, .ptr (some (h4.size, 0))), (70, .ptr (some (h4.size, 0)))] H (noU_all rfl) (fun fr => by kernel_rfl) ?_
                intro fr H
                refine at_step (v := .int .i64 x8.kind_) (h1 := h6) [(0, .vptr [vs e_S_auto_state p0.l_, .int .i64 p0.first_]), (2, .bool p2), (3, .bool p3), (9, rowV (some h.size) ((x2.set x4.toNat true).length)), (10, rowV r2 x5.length), (12, .ptr (some (h4.size, 0))), (71, .int .i64 x8.kind_)] H (fun fr => by kernel_rfl) (fun fr => .of (s_ld (by kernel_rfl) (A.ld1 0 rfl (o := 0) rfl))) ?_
                intro fr t H
                refine at_seg [(2, []), (3, [])] [(0, .vptr [vs e_S_auto_state p0.l_, .int .i64 p0.first_]), (2, .bool p2), (3, .bool p3), (9, rowV (some h.size) ((x2.set x4.toNat true).length)), (10, rowV r2 x5.length), (12, .ptr (some (h4.size, 0))), (73, .bool (x8.kind_ == (4 : Int)))] H (noU_all rfl) (fun fr => by kernel_rfl) ?_
                intro fr H
                refine at_cut [(4, []), (5, [])] (fun fr' h' => h6 = h' ∧ Has fr' 95 [(0, .vptr [vs e_S_auto_state p0.l_, .int .i64 p0.first_]), (2, .bool p2), (3, .bool p3), (9, rowV (some h.size) ((x2.set x4.toNat true).length)), (10, rowV r2 x5.length), (12, .ptr (some (h4.size, 0))), (75, .bool ((x8.kind_ == (4 : Int)) && p3))]) ?_ ?_
                · cases hb : (x8.kind_ == (4 : Int) : Bool) with
                  | true =>
                    replace H := H.know 73 hb (by kernel_rfl)
                    refine at_seg [(4, []), (5, [])] [(0, .vptr [vs e_S_auto_state p0.l_, .int .i64 p0.first_]), (2, .bool p2), (3, .bool p3), (9, rowV (some h.size) ((x2.set x4.toNat true).length)), (10, rowV r2 x5.length), (12, .ptr (some (h4.size, 0))), (75, .bool p3)] H (noU_all rfl) (fun fr => by kernel_rfl) ?_
                    intro fr H
                    exact at_nil ⟨rfl, by first | exact H.less _ (fun fr => by rfl) | exact H.less _ (fun fr => by rw [hb]; rfl)⟩
                  | false =>
                    replace H := H.know 73 hb (by kernel_rfl)
                    refine at_seg [(4, []), (5, [])] [(0, .vptr [vs e_S_auto_state p0.l_, .int .i64 p0.first_]), (2, .bool p2), (3, .bool p3), (9, rowV (some h.size) ((x2.set x4.toNat true).length)), (10, rowV r2 x5.length), (12, .ptr (some (h4.size, 0))), (75, .bool false)] H (noU_all rfl) (fun fr => by kernel_rfl) ?_
                    intro fr H
                    exact at_nil ⟨rfl, by first | exact H.less _ (fun fr => by rfl) | exact H.less _ (fun fr => by rw [hb]; rfl)⟩
                · intro t fr h' hK
                  obtain ⟨e, H⟩ := hK
                  subst e
                  refine at_seg [(6, [])] [(0, .vptr [vs e_S_auto_state p0.l_, .int .i64 p0.first_]), (2, .bool p2), (3, .bool p3), (9, rowV (some h.size) ((x2.set x4.toNat true).length)), (10, rowV r2 x5.length), (12, .ptr (some (h4.size, 0))), (63, .bool ((x8.kind_ == (4 : Int)) && p3))] H (noU_all rfl) (fun fr => by kernel_rfl) ?_
                  intro fr H
                  refine at_nil ?_
                  exact Or.inl ⟨(x8.kind_ == (4 : Int)) && p3, rfl, Option.some.inj hm, H.less _ (fun fr => by kernel_rfl), A⟩
          · clear ho
            clear A
            intro e fr h9 hQ
            rcases hQ with ⟨x9, rfl, rfl, H, A⟩ | hF
            · skip
              show AW cfg 52 g (right (right (right (left (right (right (right (right (right (left (right (left (left (left (right (right (right (bodyC cfg.P 52)))))))))))))))))) fr h9 _
              rcases iteB_some hm with ⟨hb, hm⟩ | ⟨hb, hm⟩
              · replace H := H.know 63 hb (by kernel_rfl)
                refine aw_true (x := .tmp 63) (by kernel_rfl) H (fun fr => by kernel_rfl) ?_
                refine aw_reg (id := 13) (n := 6) [(0, []), (1, []), (2, []), (3, []), (4, []), (5, [])] (by kernel_rfl) (by kernel_rfl) ?_
                refine at_seg [(0, []), (1, [])] [(0, .vptr [vs e_S_auto_state p0.l_, .int .i64 p0.first_]), (2, .bool p2), (3, .bool p3), (9, rowV (some h.size) ((x2.set x4.toNat true).length)), (76, rowV r2 x5.length), (77, .ptr (some (h4.size, 1)))] H (noU_all rfl) (fun fr => by kernel_rfl) ?_
                intro fr H
                refine at_step (v := .int .i64 x8.a_) (h1 := h9) [(0, .vptr [vs e_S_auto_state p0.l_, .int .i64 p0.first_]), (2, .bool p2), (3, .bool p3), (9, rowV (some h.size) ((x2.set x4.toNat true).length)), (76, rowV r2 x5.length), (78, .int .i64 x8.a_)] H (fun fr => by kernel_rfl) (fun fr => .of (s_ld (by kernel_rfl) (A.ld1 0 rfl (o := 1) rfl))) ?_
                intro fr t H
                obtain ⟨h10, e4⟩ : ∃ x, x = h9.push (.cells (some 3) 2 [.int .i64 x8.a_]) := ⟨_, rfl⟩
                replace A := (A.pushL _ _).to e4
                refine at_step (v := rowV (some h9.size) (([x8.a_] : List Int).length)) (h1 := h10) [(0, .vptr [vs e_S_auto_state p0.l_, .int .i64 p0.first_]), (2, .bool p2), (3, .bool p3), (9, rowV (some h.size) ((x2.set x4.toNat true).length)), (76, rowV r2 x5.length), (79, rowV (some h9.size) (([x8.a_] : List Int).length))] H (fun fr => by kernel_rfl) (fun fr => .of (s_n' (by kernel_rfl) (congrArg some e4.symm))) ?_
                intro fr t H
                obtain ⟨hb, hm⟩ := need_some hm
                obtain ⟨r4, tl4, h11, hx, A1⟩ := HH.appT (encI .i64) (by decide) A 2 (xs := x5) (tl := tl2) (ys := ([x8.a_] : List Int)) rfl (row_first A 0 rfl (n := ([x8.a_] : List Int).length) (z := 1) rfl (by decide)) rfl rfl hb
                replace A : HH g h11 [.lst (some h9.size) 3 ([.int .i64 x8.a_]), .obj h4.size (.cells none 2 (e_S_auto_state x8)), .lst r4 3 (lst (eI .i64) ((x5 ++ ([x8.a_] : List Int)) ++ tl4)), .lst rp1 3 (lst (eI .i64) p1), .lst (some h.size) 4 (lst eB (x2.set x4.toNat true))] F := A1
                replace A : HH g h11 [.obj h4.size (.cells none 2 (e_S_auto_state x8)), .lst r4 3 (lst (eI .i64) ((x5 ++ ([x8.a_] : List Int)) ++ tl4)), .lst rp1 3 (lst (eI .i64) p1), .lst (some h.size) 4 (lst eB (x2.set x4.toNat true))] F := (HH.dropF ((((A.front 4 rfl).front 4 rfl).front 4 rfl).front 4 rfl) 4)
                refine at_step (v := rowV r4 ((x5 ++ ([x8.a_] : List Int)).length)) (h1 := h11) [(0, .vptr [vs e_S_auto_state p0.l_, .int .i64 p0.first_]), (2, .bool p2), (3, .bool p3), (9, rowV (some h.size) ((x2.set x4.toNat true).length)), (80, rowV r4 ((x5 ++ ([x8.a_] : List Int)).length))] H (fun fr => by kernel_rfl) (fun fr => .of (s_app (s := rowS r2 x5.length) (by kernel_rfl) hx)) ?_
                intro fr t H
                refine at_seg [(5, [])] [(0, .vptr [vs e_S_auto_state p0.l_, .int .i64 p0.first_]), (2, .bool p2), (3, .bool p3), (9, rowV (some h.size) ((x2.set x4.toNat true).length)), (10, rowV r4 ((x5 ++ ([x8.a_] : List Int)).length))] H (noU_all rfl) (fun fr => by kernel_rfl) ?_
                intro fr H
                refine at_nil ?_
                replace A : HH g h11 [.lst r4 3 (lst (eI .i64) ((x5 ++ ([x8.a_] : List Int)) ++ tl4)), .lst rp1 3 (lst (eI .i64) p1), .lst (some h.size) 4 (lst eB (x2.set x4.toNat true))] F := (HH.dropF (((A.front 3 rfl).front 3 rfl).front 3 rfl) 3)
                exact Exists.intro ((x5 ++ ([x8.a_] : List Int)), (x2.set x4.toNat true)) (And.intro (Option.some.inj hm).symm ⟨(x5 ++ ([x8.a_] : List Int)), (x2.set x4.toNat true), rfl, r4, tl4, hl3, H.less _ (fun fr => by kernel_rfl), A⟩)
              · replace H := H.know 63 hb (by kernel_rfl)
                refine aw_false (x := .tmp 63) (by kernel_rfl) H (fun fr => by kernel_rfl) ?_
                refine aw_skip (by kernel_rfl) ?_
                replace A : HH g h9 [.lst r2 3 (lst (eI .i64) (x5 ++ tl2)), .lst rp1 3 (lst (eI .i64) p1), .lst (some h.size) 4 (lst eB (x2.set x4.toNat true))] F := (HH.dropF (((A.front 3 rfl).front 3 rfl).front 3 rfl) 3)
                exact Exists.intro (x5, (x2.set x4.toNat true)) (And.intro (Option.some.inj hm).symm ⟨x5, (x2.set x4.toNat true), rfl, r2, tl2, hl3, H.less _ (fun fr => by kernel_rfl), A⟩)
            · exact hF.elim
    · replace H := H.know 26 hb (by kernel_rfl)
      refine aw_false (x := .tmp 26) (by kernel_rfl) H (fun fr => by kernel_rfl) ?_
      refine aw_exit (i := 0) (by kernel_rfl) ?_
      replace A : HH g h3 [.lst rp1 3 (lst (eI .i64) p1), .lst (some h.size) 4 (lst eB x2)] F := (HH.dropF ((A.front 2 rfl).front 2 rfl) 2)
      exact Exists.intro _ (And.intro (Option.some.inj hm).symm (fun e => Or.inl ⟨x2, rfl, e, hl1, H.less _ (fun fr => by kernel_rfl), A⟩))
  · clear ho
    clear A
    intro e fr h12 hQ
    rcases hQ with ⟨x3, rfl, rfl, hl2, H, A⟩ | hF
    · skip
      show AW cfg 52 g (right (right (right (right (bodyC cfg.P 52))))) fr h12 _
      refine aw_seq (by kernel_rfl) ?_
      refine aw_reg (id := 14) (n := 1) [(0, [])] (by kernel_rfl) (by kernel_rfl) ?_
      refine at_seg [(0, [])] [(9, rowV (some h.size) x3.length), (13, .slice none 0)] H (noU_all rfl) (fun fr => by kernel_rfl) ?_
      intro fr H
      refine at_nil ?_
      show AW cfg 52 g (right (right (right (right (right (bodyC cfg.P 52)))))) fr h12 _
      refine aw_seq (by kernel_rfl) ?_
      refine aw_seq (by kernel_rfl) ?_
      refine aw_reg (id := 15) (n := 3) [(0, []), (1, []), (2, [])] (by kernel_rfl) (by kernel_rfl) ?_
      refine at_seg [(0, []), (1, []), (2, [])] [(13, .slice none 0), (81, rowV (some h.size) x3.length), (82, .int .i64 (x3.length : Int)), (83, .int .i64 (0 : Int))] H (noU_all rfl) (fun fr => by kernel_rfl) ?_
      intro fr H
      refine at_nil ?_
      show AW cfg 52 g (right (left (right (right (right (right (right (bodyC cfg.P 52)))))))) fr h12 _
      refine aw_block (id := 3) (by kernel_rfl) ?_
      replace A : HH g h12 [.lst none 3 (lst (eI .i64) ([] : List Int)), .lst rp1 3 (lst (eI .i64) p1), .lst (some h.size) 4 (lst eB x3)] F := A.nilL 3
      obtain ⟨o3, ho, hm⟩ := bind_some hm
      refine aw_mono (Q' := fun e fr' h' => (∃ (x12 : List Int), e = .exit 3 ∧ x12 = o3 ∧ ∃ (r6 : Option Nat), Has fr' 95 [(13, rowV r6 x12.length)] ∧ HH g h' [.lst r6 3 (lst (eI .i64) x12), .lst rp1 3 (lst (eI .i64) p1)] F) ∨ False) ?_ ?_
      · refine aw_loop (by kernel_rfl) (fun (s : (List Int) × Int) fr' h' => ∃ (x10 : List Int) (x11 : Int), (x10, x11) = s ∧ ∃ (r5 : Option Nat), Has fr' 95 [(13, rowV r5 x10.length), (81, rowV (some h.size) x3.length), (82, .int .i64 (x3.length : Int)), (83, .int .i64 x11)] ∧ HH g h' [.lst r5 3 (lst (eI .i64) x10), .lst rp1 3 (lst (eI .i64) p1), .lst (some h.size) 4 (lst eB x3)] F) ho ⟨([] : List Int), (0 : Int), rfl, none, H.less _ (fun fr => by kernel_rfl), A⟩ ?_
        clear ho hm H A
        intro s q fr h13 hI hm
        obtain ⟨x10, x11, rfl, r5, H, A⟩ := hI
        unfold M_auto_Auto_close_sPVOBB_L1 at hm
        refine aw_seq (by kernel_rfl) ?_
        refine aw_reg (id := 16) (n := 1) [(0, [])] (by kernel_rfl) (by kernel_rfl) ?_
        refine at_seg [(0, [])] [(13, rowV r5 x10.length), (81, rowV (some h.size) x3.length), (82, .int .i64 (x3.length : Int)), (83, .int .i64 x11), (84, .bool (decide (x11 < (x3.length : Int))))] H (noU_all rfl) (fun fr => by kernel_rfl) ?_
        intro fr H
        refine at_nil ?_
        show AW cfg 52 g (right (left (left (right (left (right (right (right (right (right (bodyC cfg.P 52))))))))))) fr h13 _
        refine aw_seq (by kernel_rfl) ?_
        rcases iteB_some hm with ⟨hb, hm⟩ | ⟨hb, hm⟩
        · replace H := H.know 84 hb (by kernel_rfl)
          refine aw_true (x := .tmp 84) (by kernel_rfl) H (fun fr => by kernel_rfl) ?_
          refine aw_skip (by kernel_rfl) ?_
          show AW cfg 52 g (right (right (left (left (right (left (right (right (right (right (right (bodyC cfg.P 52)))))))))))) fr h13 _
          refine aw_seq (by kernel_rfl) ?_
          obtain ⟨o4, ho, hm⟩ := bind_some hm
          refine aw_mono (Q' := fun e fr' h' => (∃ (x13 : List Int), e = .normal ∧ x13 = o4 ∧ ∃ (r7 : Option Nat), Has fr' 95 [(13, rowV r7 x13.length), (81, rowV (some h.size) x3.length), (82, .int .i64 (x3.length : Int)), (83, .int .i64 x11)] ∧ HH g h' [.lst r7 3 (lst (eI .i64) x13), .lst rp1 3 (lst (eI .i64) p1), .lst (some h.size) 4 (lst eB x3)] F) ∨ False) ?_ ?_
          · replace hm := ho
            clear ho
            refine aw_block (id := 4) (by kernel_rfl) ?_
            refine aw_seq (by kernel_rfl) ?_
            refine aw_reg (id := 17) (n := 5) [(0, []), (1, []), (2, []), (3, []), (4, [])] (by kernel_rfl) (by kernel_rfl) ?_
            refine at_seg [(0, [])] [(13, rowV r5 x10.length), (81, rowV (some h.size) x3.length), (82, .int .i64 (x3.length : Int)), (83, .int .i64 x11), (85, .int .i64 x11)] H (noU_all rfl) (fun fr => by kernel_rfl) ?_
            intro fr H
            obtain ⟨x14, hx, hm⟩ := bind_some hm
            obtain ⟨i4, er4, _, hx, hq4⟩ := HH.ixO encB (by decide) A 2 (xs := x3) rfl hx
            refine at_step (v := .ptr (some (i4, x11.toNat * 1))) (h1 := h13) [(13, rowV r5 x10.length), (81, rowV (some h.size) x3.length), (82, .int .i64 (x3.length : Int)), (83, .int .i64 x11), (85, .int .i64 x11), (86, .ptr (some (i4, x11.toNat * 1)))] H (fun fr => by kernel_rfl) (fun fr => .of (s_ixL (s := rowS (some h.size) x3.length) (by kernel_rfl) hx)) ?_
            intro fr t H
            refine at_step (v := .bool x14) (h1 := h13) [(13, rowV r5 x10.length), (81, rowV (some h.size) x3.length), (82, .int .i64 (x3.length : Int)), (83, .int .i64 x11), (85, .int .i64 x11), (87, .bool x14)] H (fun fr => by kernel_rfl) (fun fr => .of (s_ld (by kernel_rfl) (row_ld1 encB (HH.row A 2 rfl er4) hq4 (o := 0) rfl))) ?_
            intro fr t H
            refine at_seg [(3, []), (4, [])] [(13, rowV r5 x10.length), (14, .int .i64 x11), (15, .bool x14), (81, rowV (some h.size) x3.length), (82, .int .i64 (x3.length : Int)), (83, .int .i64 x11)] H (noU_all rfl) (fun fr => by kernel_rfl) ?_
            intro fr H
            refine at_nil ?_
            show AW cfg 52 g (right (left (left (right (right (left (left (right (left (right (right (right (right (right (bodyC cfg.P 52))))))))))))))) fr h13 _
            refine aw_seq (by kernel_rfl) ?_
            refine aw_reg (id := 18) (n := 1) [(0, [])] (by kernel_rfl) (by kernel_rfl) ?_
            refine at_seg [(0, [])] [(13, rowV r5 x10.length), (14, .int .i64 x11), (81, rowV (some h.size) x3.length), (82, .int .i64 (x3.length : Int)), (83, .int .i64 x11), (88, .bool x14)] H (noU_all rfl) (fun fr => by kernel_rfl) ?_
            intro fr H
            refine at_nil ?_
            show AW cfg 52 g (right (right (left (left (right (right (left (left (right (left (right (right (right (right (right (bodyC cfg.P 52)))))))))))))))) fr h13 _
            rcases iteB_some hm with ⟨hb, hm⟩ | ⟨hb, hm⟩
            · replace H := H.know 88 hb (by kernel_rfl)
              refine aw_true (x := .tmp 88) (by kernel_rfl) H (fun fr => by kernel_rfl) ?_
              refine aw_reg (id := 19) (n := 5) [(0, []), (1, []), (2, []), (3, []), (4, [])] (by kernel_rfl) (by kernel_rfl) ?_
              refine at_seg [(0, []), (1, [])] [(81, rowV (some h.size) x3.length), (82, .int .i64 (x3.length : Int)), (83, .int .i64 x11), (89, rowV r5 x10.length), (90, .int .i64 x11)] H (noU_all rfl) (fun fr => by kernel_rfl) ?_
              intro fr H
              obtain ⟨h14, e5⟩ : ∃ x, x = h13.push (.cells (some 3) 2 [.int .i64 x11]) := ⟨_, rfl⟩
              replace A := (A.pushL _ _).to e5
              refine at_step (v := rowV (some h13.size) (([x11] : List Int).length)) (h1 := h14) [(81, rowV (some h.size) x3.length), (82, .int .i64 (x3.length : Int)), (83, .int .i64 x11), (89, rowV r5 x10.length), (91, rowV (some h13.size) (([x11] : List Int).length))] H (fun fr => by kernel_rfl) (fun fr => .of (s_n' (by kernel_rfl) (congrArg some e5.symm))) ?_
              intro fr t H
              obtain ⟨hb, hm⟩ := need_some hm
              obtain ⟨r8, h15, hx, A1⟩ := HH.appO (encI .i64) (by decide) A 1 (xs := x10) (ys := ([x11] : List Int)) rfl (row_first A 0 rfl (n := ([x11] : List Int).length) (z := 1) rfl (by decide)) rfl rfl hb
              replace A : HH g h15 [.lst (some h13.size) 3 ([.int .i64 x11]), .lst r8 3 (lst (eI .i64) (x10 ++ ([x11] : List Int))), .lst rp1 3 (lst (eI .i64) p1), .lst (some h.size) 4 (lst eB x3)] F := A1
              replace A : HH g h15 [.lst r8 3 (lst (eI .i64) (x10 ++ ([x11] : List Int))), .lst rp1 3 (lst (eI .i64) p1), .lst (some h.size) 4 (lst eB x3)] F := (HH.dropF (((A.front 3 rfl).front 3 rfl).front 3 rfl) 3)
              refine at_step (v := rowV r8 ((x10 ++ ([x11] : List Int)).length)) (h1 := h15) [(81, rowV (some h.size) x3.length), (82, .int .i64 (x3.length : Int)), (83, .int .i64 x11), (92, rowV r8 ((x10 ++ ([x11] : List Int)).length))] H (fun fr => by kernel_rfl) (fun fr => .of (s_app (s := rowS r5 x10.length) (by kernel_rfl) hx)) ?_
              intro fr t H
              refine at_seg [(4, [])] [(13, rowV r8 ((x10 ++ ([x11] : List Int)).length)), (81, rowV (some h.size) x3.length), (82, .int .i64 (x3.length : Int)), (83, .int .i64 x11)] H (noU_all rfl) (fun fr => by kernel_rfl) ?_
              intro fr H
              refine at_nil ?_
              exact Or.inl ⟨(x10 ++ ([x11] : List Int)), rfl, Option.some.inj hm, r8, H.less _ (fun fr => by kernel_rfl), A⟩
            · replace H := H.know 88 hb (by kernel_rfl)
              refine aw_false (x := .tmp 88) (by kernel_rfl) H (fun fr => by kernel_rfl) ?_
              refine aw_skip (by kernel_rfl) ?_
              exact Or.inl ⟨x10, rfl, Option.some.inj hm, r5, H.less _ (fun fr => by kernel_rfl), A⟩
          · clear ho
            clear A
            intro e fr h16 hQ
            rcases hQ with ⟨x13, rfl, rfl, r7, H, A⟩ | hF
            · skip
              show AW cfg 52 g (right (right (right (left (left (right (left (right (right (right (right (right (bodyC cfg.P 52))))))))))))) fr h16 _
              refine aw_reg (id := 20) (n := 2) [(0, []), (1, [])] (by kernel_rfl) (by kernel_rfl) ?_
              refine at_seg [(0, []), (1, [])] [(13, rowV r7 x13.length), (81, rowV (some h.size) x3.length), (82, .int .i64 (x3.length : Int)), (83, .int .i64 (IntKind.i64.wrap (x11 + (1 : Int))))] H (noU_all rfl) (fun fr => by kernel_rfl) ?_
              intro fr H
              refine at_nil ?_
              exact Exists.intro (x13, IntKind.i64.wrap (x11 + (1 : Int))) (And.intro (Option.some.inj hm).symm ⟨x13, IntKind.i64.wrap (x11 + (1 : Int)), rfl, r7, H.less _ (fun fr => by kernel_rfl), A⟩)
            · exact hF.elim
        · replace H := H.know 84 hb (by kernel_rfl)
          refine aw_false (x := .tmp 84) (by kernel_rfl) H (fun fr => by kernel_rfl) ?_
          refine aw_exit (i := 3) (by kernel_rfl) ?_
          replace A : HH g h13 [.lst r5 3 (lst (eI .i64) x10), .lst rp1 3 (lst (eI .i64) p1)] F := (HH.dropF ((A.front 1 rfl).front 1 rfl) 2)
          exact Exists.intro _ (And.intro (Option.some.inj hm).symm (fun e => Or.inl ⟨x10, rfl, e, r5, H.less _ (fun fr => by kernel_rfl), A⟩))
      · clear ho
        clear A
        intro e fr h17 hQ
        rcases hQ with ⟨x12, rfl, rfl, r6, H, A⟩ | hF
        · skip
          show AW cfg 52 g (right (right (right (right (right (right (bodyC cfg.P 52))))))) fr h17 _
          refine aw_seq (by kernel_rfl) ?_
          refine aw_reg (id := 21) (n := 2) [(0, []), (1, [])] (by kernel_rfl) (by kernel_rfl) ?_
          refine at_seg [(0, []), (1, [])] [(8, rowV r6 x12.length)] H (noU_all rfl) (fun fr => by kernel_rfl) ?_
          intro fr H
          refine at_nil ?_
          show AW cfg 52 g (right (right (right (right (right (right (right (bodyC cfg.P 52)))))))) fr h17 _
          refine aw_ret (by kernel_rfl) ?_
          have e1 := Option.some.inj hm
          subst e1
          refine ⟨.inl rfl, rowV r6 x12.length, resH H (fun fr => by kernel_rfl), ?_⟩
          exact ⟨r6, rfl, A⟩
        · exact hF.elim
    · exact hF.elim
/-! ### (*boulter/auto.Auto).Start -/
noncomputable def M_auto_Auto_Start (p0 : S_auto_Auto) (p1 : Bool) : Option ((List Int)) :=
 (M_auto_Auto_close_sPVOBB p0 ([p0.first_] : List Int) p1 false).bind fun x1 => some x1
theorem ok_auto_Auto_Start {g : Gd} {h : AHeap} {F : List Ck} {p0 : S_auto_Auto} {p1 : Bool} {q0 : List Int} {av : List AVal} (hm : M_auto_Auto_Start p0 p1 = some q0) (hc : canL (cfg.still 26) av = [.vptr [vs e_S_auto_state p0.l_, .int .i64 p0.first_], .bool p1]) (A : HH g h [] F) : ∃ v h', Runs cfg g h 26 av v h' ∧ ∃ (rq0 : Option Nat), v = rowV rq0 q0.length ∧ HH g h' [.lst rq0 3 (lst (eI .i64) q0)] F := by
  refine runsQ1 (n := 13) (rs := [.tmp 4]) (by kernel_rfl) hc (by kernel_rfl) ?_
  clear hc
  unfold M_auto_Auto_Start at hm
  refine start (n := 13) [(0, .vptr [vs e_S_auto_state p0.l_, .int .i64 p0.first_]), (1, .bool p1)] (by kernel_rfl) (by kernel_rfl) ?_
  intro fr H
  refine aw_seq (by kernel_rfl) ?_
  refine aw_reg (id := 0) (n := 1) [(0, [])] (by kernel_rfl) (by kernel_rfl) ?_
  refine at_seg [(0, [])] [(0, .vptr [vs e_S_auto_state p0.l_, .int .i64 p0.first_]), (1, .bool p1)] H (noU_all rfl) (fun fr => by kernel_rfl) ?_
  intro fr H
  refine at_nil ?_
  show AW cfg 26 g (right (bodyC cfg.P 26)) fr h _
  refine aw_seq (by kernel_rfl) ?_
  refine aw_reg (id := 1) (n := 9) [(0, []), (1, []), (2, []), (3, []), (4, []), (5, []), (6, []), (7, []), (8, [])] (by kernel_rfl) (by kernel_rfl) ?_
  refine at_seg [(0, []), (1, []), (2, []), (3, [])] [(1, .bool p1), (5, .vptr [vs e_S_auto_state p0.l_, .int .i64 p0.first_]), (8, .vptr [.int .i64 p0.first_])] H (noU_all rfl) (fun fr => by kernel_rfl) ?_
  intro fr H
  refine at_step (v := .int .i64 p0.first_) (h1 := h) [(1, .bool p1), (5, .vptr [vs e_S_auto_state p0.l_, .int .i64 p0.first_]), (9, .int .i64 p0.first_)] H (fun fr => by kernel_rfl) (fun fr => .of (s_lv (by kernel_rfl))) ?_
  intro fr t H
  obtain ⟨h1, e1⟩ : ∃ x, x = h.push (.cells (some 3) 2 [.int .i64 p0.first_]) := ⟨_, rfl⟩
  replace A := (A.pushL _ _).to e1
  refine at_step (v := rowV (some h.size) (([p0.first_] : List Int).length)) (h1 := h1) [(1, .bool p1), (5, .vptr [vs e_S_auto_state p0.l_, .int .i64 p0.first_]), (10, rowV (some h.size) (([p0.first_] : List Int).length))] H (fun fr => by kernel_rfl) (fun fr => .of (s_n' (by kernel_rfl) (congrArg some e1.symm))) ?_
  intro fr t H
  refine at_seg [(6, [])] [(5, .vptr [vs e_S_auto_state p0.l_, .int .i64 p0.first_]), (10, rowV (some h.size) (([p0.first_] : List Int).length)), (11, .bool p1)] H (noU_all rfl) (fun fr => by kernel_rfl) ?_
  intro fr H
  replace A : HH g h1 [.lst (some h.size) 3 (lst (eI .i64) ([p0.first_] : List Int))] F := A
  have A1 := A.cut 1
  obtain ⟨x1, hx, hm⟩ := bind_some hm
  obtain ⟨v1, h2, hr, rqw1, rfl, A1⟩ := ok_auto_Auto_close_sPVOBB (av := [.vptr [vs e_S_auto_state p0.l_, .int .i64 p0.first_], rowV (some h.size) (([p0.first_] : List Int).length), .bool p1, .bool false]) hx (by kernel_rfl) A1
  replace A : HH g h2 [.lst rqw1 3 (lst (eI .i64) x1), .lst (some h.size) 3 (lst (eI .i64) ([p0.first_] : List Int))] F := A.glue0 (n := 1) A1
  refine at_step (v := rowV rqw1 x1.length) (h1 := h2) [(12, rowV rqw1 x1.length)] H (fun fr => by kernel_rfl) (fun fr => Steps.call (by kernel_rfl) hr) ?_
  intro fr t H
  refine at_seg [(8, [])] [(4, rowV rqw1 x1.length)] H (noU_all rfl) (fun fr => by kernel_rfl) ?_
  intro fr H
  refine at_nil ?_
  show AW cfg 26 g (right (right (bodyC cfg.P 26))) fr h2 _
  refine aw_ret (by kernel_rfl) ?_
  have e1 := Option.some.inj hm
  subst e1
  refine ⟨.inl rfl, rowV rqw1 x1.length, resH H (fun fr => by kernel_rfl), ?_⟩
  replace A : HH g h2 [.lst rqw1 3 (lst (eI .i64) x1)] F := (HH.dropF (A.front 0 rfl) 1)
  exact ⟨rqw1, rfl, A⟩
/-! ### (*boulter/auto.Auto).Apart -/
noncomputable def M_auto_Auto_Apart_L0 (p0 : S_auto_Auto) (p1 : Int) (p2 : Int) (s : Int) : Option ((Int) ⊕ ((Unit) ⊕ (Bool))) :=
  match s with
  | x1 => iteB (decide (x1 < (p0.l_.length : Int))) ((ixV p0.l_ x1).bind fun x3 => (iteB (x3.kind_ == (1 : Int)) ((M_class_Set_Has x3.set_ p1).bind fun x5 => (M_class_Set_Has x3.set_ p2).bind fun x6 => some (!(x5 == x6))) (some false) : Option (Bool)).bind fun x4 => iteB x4 (some (.inr (.inr true))) (some (.inl (IntKind.i64.wrap (x1 + (1 : Int)))))) (some (.inr (.inl ())))
noncomputable def M_auto_Auto_Apart (p0 : S_auto_Auto) (p1 : Int) (p2 : Int) : Option (Bool) :=
 (loop (M_auto_Auto_Apart_L0 p0 p1 p2) (0 : Int)).bind fun o1 => (match o1 with | .inl _ => some false | .inr x2 => some x2)
theorem ok_auto_Auto_Apart {g : Gd} {h : AHeap} {F : List Ck} {p0 : S_auto_Auto} {p1 : Int} {p2 : Int} {q0 : Bool} {av : List AVal} (hm : M_auto_Auto_Apart p0 p1 p2 = some q0) (hc : canL (cfg.still 30) av = [.vptr [vs e_S_auto_state p0.l_, .int .i64 p0.first_], .int .u8 p1, .int .u8 p2]) (A : HH g h [] F) : ∃ v h', Runs cfg g h 30 av v h' ∧ v = .bool q0 ∧ HH g h' [] F := by
  refine runsQ1 (n := 33) (rs := [.tmp 6]) (by kernel_rfl) hc (by kernel_rfl) ?_
  clear hc
  unfold M_auto_Auto_Apart at hm
  refine start (n := 33) [(0, .vptr [vs e_S_auto_state p0.l_, .int .i64 p0.first_]), (1, .int .u8 p1), (2, .int .u8 p2)] (by kernel_rfl) (by kernel_rfl) ?_
  intro fr H
  refine aw_seq (by kernel_rfl) ?_
  refine aw_reg (id := 0) (n := 1) [(0, [])] (by kernel_rfl) (by kernel_rfl) ?_
  refine at_seg [(0, [])] [(0, .vptr [vs e_S_auto_state p0.l_, .int .i64 p0.first_]), (1, .int .u8 p1), (2, .int .u8 p2)] H (noU_all rfl) (fun fr => by kernel_rfl) ?_
  intro fr H
  refine at_nil ?_
  show AW cfg 30 g (right (bodyC cfg.P 30)) fr h _
  refine aw_seq (by kernel_rfl) ?_
  refine aw_seq (by kernel_rfl) ?_
  refine aw_reg (id := 1) (n := 6) [(0, []), (1, []), (2, []), (3, []), (4, []), (5, [])] (by kernel_rfl) (by kernel_rfl) ?_
  refine at_seg [(0, []), (1, []), (2, [])] [(1, .int .u8 p1), (2, .int .u8 p2), (11, .vptr [vs e_S_auto_state p0.l_, .int .i64 p0.first_])] H (noU_all rfl) (fun fr => by kernel_rfl) ?_
  intro fr H
  refine at_step (v := vs e_S_auto_state p0.l_) (h1 := h) [(1, .int .u8 p1), (2, .int .u8 p2), (12, vs e_S_auto_state p0.l_)] H (fun fr => by kernel_rfl) (fun fr => .of (s_lv (by kernel_rfl))) ?_
  intro fr t H
  refine at_seg [(4, []), (5, [])] [(1, .int .u8 p1), (2, .int .u8 p2), (12, vs e_S_auto_state p0.l_), (13, .int .i64 (p0.l_.length : Int)), (14, .int .i64 (0 : Int))] H (noU_all rfl) (fun fr => by kernel_rfl) ?_
  intro fr H
  refine at_nil ?_
  show AW cfg 30 g (right (left (right (bodyC cfg.P 30)))) fr h _
  refine aw_block (id := 0) (by kernel_rfl) ?_
  obtain ⟨o1, ho, hm⟩ := bind_some hm
  refine aw_mono (Q' := fun e fr' h' => (e = .exit 0 ∧ .inl () = o1 ∧ Has fr' 33 [] ∧ HH g h' [] F) ∨ (∃ (x2 : Bool), e = .ret ∧ .inr x2 = o1 ∧ Has fr' 33 [(6, .bool x2)] ∧ HH g h' [] F) ∨ False) ?_ ?_
  · refine aw_loop (by kernel_rfl) (fun (s : Int) fr' h' => ∃ (x1 : Int), x1 = s ∧ Has fr' 33 [(1, .int .u8 p1), (2, .int .u8 p2), (12, vs e_S_auto_state p0.l_), (13, .int .i64 (p0.l_.length : Int)), (14, .int .i64 x1)] ∧ HH g h' [] F) ho ⟨(0 : Int), rfl, H.less _ (fun fr => by kernel_rfl), A⟩ ?_
    clear ho hm H A
    intro s q fr h1 hI hm
    obtain ⟨x1, rfl, H, A⟩ := hI
    unfold M_auto_Auto_Apart_L0 at hm
    refine aw_seq (by kernel_rfl) ?_
    refine aw_reg (id := 2) (n := 1) [(0, [])] (by kernel_rfl) (by kernel_rfl) ?_
    refine at_seg [(0, [])] [(1, .int .u8 p1), (2, .int .u8 p2), (12, vs e_S_auto_state p0.l_), (13, .int .i64 (p0.l_.length : Int)), (14, .int .i64 x1), (15, .bool (decide (x1 < (p0.l_.length : Int))))] H (noU_all rfl) (fun fr => by kernel_rfl) ?_
    intro fr H
    refine at_nil ?_
    show AW cfg 30 g (right (left (left (right (left (right (bodyC cfg.P 30))))))) fr h1 _
    refine aw_seq (by kernel_rfl) ?_
    rcases iteB_some hm with ⟨hb, hm⟩ | ⟨hb, hm⟩
    · replace H := H.know 15 hb (by kernel_rfl)
      refine aw_true (x := .tmp 15) (by kernel_rfl) H (fun fr => by kernel_rfl) ?_
      refine aw_skip (by kernel_rfl) ?_
      show AW cfg 30 g (right (right (left (left (right (left (right (bodyC cfg.P 30)))))))) fr h1 _
      refine aw_seq (by kernel_rfl) ?_
      refine aw_block (id := 1) (by kernel_rfl) ?_
      refine aw_seq (by kernel_rfl) ?_
      refine aw_reg (id := 3) (n := 4) [(0, []), (1, []), (2, []), (3, [])] (by kernel_rfl) (by kernel_rfl) ?_
      obtain ⟨x3, hx, hm⟩ := bind_some hm
      refine at_step (v := .vptr (e_S_auto_state x3)) (h1 := h1) [(1, .int .u8 p1), (2, .int .u8 p2), (12, vs e_S_auto_state p0.l_), (13, .int .i64 (p0.l_.length : Int)), (14, .int .i64 x1), (16, .vptr (e_S_auto_state x3))] H (fun fr => by kernel_rfl) (fun fr => .of (s_ixV (e := e_S_auto_state) (x := x3) enc_S_auto_state (by decide) (by kernel_rfl) hx)) ?_
      intro fr t H
      refine at_step (v := .agg (e_S_auto_state x3)) (h1 := h1) [(1, .int .u8 p1), (2, .int .u8 p2), (12, vs e_S_auto_state p0.l_), (13, .int .i64 (p0.l_.length : Int)), (14, .int .i64 x1), (17, .agg (e_S_auto_state x3))] H (fun fr => by kernel_rfl) (fun fr => .of (s_lv (by kernel_rfl))) ?_
      intro fr t H
      obtain ⟨h2, e1⟩ : ∃ x, x = h1.push (.cells none 2 [.int .i64 (0 : Int), .int .i64 (0 : Int), .int .i64 (0 : Int), .int .u64 (0 : Int), .int .u64 (0 : Int), .int .u64 (0 : Int), .int .u64 (0 : Int)]) := ⟨_, rfl⟩
      replace A := (A.push _).to e1
      refine at_step (v := .ptr (some (h1.size, 0))) (h1 := h2) [(1, .int .u8 p1), (2, .int .u8 p2), (8, .ptr (some (h1.size, 0))), (12, vs e_S_auto_state p0.l_), (13, .int .i64 (p0.l_.length : Int)), (14, .int .i64 x1), (17, .agg (e_S_auto_state x3))] H (fun fr => by kernel_rfl) (fun fr => .of (s_n' (by kernel_rfl) (congrArg some e1.symm))) ?_
      intro fr t H
      obtain ⟨h3, hx, A1⟩ := A.st 0 rfl (o := 0) (new := [.int .i64 x3.kind_, .int .i64 x3.a_, .int .i64 x3.b_, .int .u64 x3.set_.w0, .int .u64 x3.set_.w1, .int .u64 x3.set_.w2, .int .u64 x3.set_.w3]) (ds := [.int .i64 x3.kind_, .int .i64 x3.a_, .int .i64 x3.b_, .int .u64 x3.set_.w0, .int .u64 x3.set_.w1, .int .u64 x3.set_.w2, .int .u64 x3.set_.w3]) (Nat.le_of_ble_eq_true rfl) rfl rfl
      replace A : HH g h3 [.obj h1.size (.cells none 2 (e_S_auto_state x3))] F := A1
      refine at_step (v := .tuple []) (h1 := h3) [(1, .int .u8 p1), (2, .int .u8 p2), (8, .ptr (some (h1.size, 0))), (12, vs e_S_auto_state p0.l_), (13, .int .i64 (p0.l_.length : Int)), (14, .int .i64 x1)] H (fun fr => by kernel_rfl) (fun fr => .of (s_stG (by kernel_rfl) (stG_st hx rfl))) ?_
      intro fr t H
      refine at_nil ?_
      show AW cfg 30 g (right (left (left (right (right (left (left (right (left (right (bodyC cfg.P 30))))))))))) fr h3 _
      refine aw_seq (by kernel_rfl) ?_
      refine aw_draw (id := 4) (n := 14) (by kernel_rfl) [(0, []), (1, []), (2, []), (3, []), (4, []), (5, []), (6, []), (8, []), (9, []), (7, [9]), (10, []), (11, []), (12, []), (13, [])] (by kernel_rfl) ?_
      refine at_seg [(0, [])] [(1, .int .u8 p1), (2, .int .u8 p2), (8, .ptr (some (h1.size, 0))), (12, vs e_S_auto_state p0.l_), (13, .int .i64 (p0.l_.length : Int)), (14, .int .i64 x1), (18, .ptr (some (h1.size, 0)))] H (noU_all rfl) (fun fr => by kernel_rfl) ?_
      intro fr H
      refine at_stepT (v := .int .i64 x3.kind_) (h1 := h3) (tch' := [(1, h1.size)]) (g.prot) [(1, .int .u8 p1), (2, .int .u8 p2), (8, .ptr (some (h1.size, 0))), (12, vs e_S_auto_state p0.l_), (13, .int .i64 (p0.l_.length : Int)), (14, .int .i64 x1), (19, .int .i64 x3.kind_)] H (fun fr => by kernel_rfl) (by kernel_rfl) (fun fr => by kernel_rfl) (fun fr => .of (s_ld (by kernel_rfl) (A.ld1 0 rfl (o := 0) rfl))) (fun fr => by kernel_rfl) ?_
      intro fr H
      refine at_seg [(2, []), (3, [])] [(1, .int .u8 p1), (2, .int .u8 p2), (8, .ptr (some (h1.size, 0))), (12, vs e_S_auto_state p0.l_), (13, .int .i64 (p0.l_.length : Int)), (14, .int .i64 x1), (21, .bool (x3.kind_ == (1 : Int)))] H (noU_all rfl) (fun fr => by kernel_rfl) ?_
      intro fr H
      obtain ⟨x4, ho, hm⟩ := bind_some hm
      refine at_cut [(4, []), (5, []), (6, []), (8, []), (9, []), (7, [9]), (10, []), (11, []), (12, []), (13, [])] (fun fr' h' => Has fr' 33 [(1, .int .u8 p1), (2, .int .u8 p2), (12, vs e_S_auto_state p0.l_), (13, .int .i64 (p0.l_.length : Int)), (14, .int .i64 x1), (31, .bool x4)] ∧ HH g h' [.obj h1.size (.cells none 2 (e_S_auto_state x3))] F) ?_ ?_
      · rcases iteB_some ho with ⟨hb, hm⟩ | ⟨hb, hm⟩
        · replace H := H.know 21 hb (by kernel_rfl)
          refine at_seg [(4, [])] [(1, .int .u8 p1), (2, .int .u8 p2), (8, .ptr (some (h1.size, 0))), (12, vs e_S_auto_state p0.l_), (13, .int .i64 (p0.l_.length : Int)), (14, .int .i64 x1), (21, .bool true), (22, .ptr (some (h1.size, 3)))] H (noU_all rfl) (fun fr => by kernel_rfl) ?_
          intro fr H
          refine at_stepT (v := .agg [.int .u64 x3.set_.w0, .int .u64 x3.set_.w1, .int .u64 x3.set_.w2, .int .u64 x3.set_.w3]) (h1 := h3) (tch' := [(5, h1.size), (1, h1.size)]) (g.prot) [(1, .int .u8 p1), (2, .int .u8 p2), (8, .ptr (some (h1.size, 0))), (12, vs e_S_auto_state p0.l_), (13, .int .i64 (p0.l_.length : Int)), (14, .int .i64 x1), (21, .bool true), (23, .agg [.int .u64 x3.set_.w0, .int .u64 x3.set_.w1, .int .u64 x3.set_.w2, .int .u64 x3.set_.w3])] H (fun fr => by kernel_rfl) (by kernel_rfl) (fun fr => by kernel_rfl) (fun fr => .of (s_ldA (by kernel_rfl) (A.ldA 0 rfl (o := 3) (n := 4) ⟨Nat.le_of_ble_eq_true rfl, rfl⟩))) (fun fr => by kernel_rfl) ?_
          intro fr H
          refine at_seg [(6, []), (8, [])] [(1, .int .u8 p1), (2, .int .u8 p2), (12, vs e_S_auto_state p0.l_), (13, .int .i64 (p0.l_.length : Int)), (14, .int .i64 x1), (21, .bool true), (23, .agg [.int .u64 x3.set_.w0, .int .u64 x3.set_.w1, .int .u64 x3.set_.w2, .int .u64 x3.set_.w3]), (24, .int .u8 p1), (26, .ptr (some (h1.size, 3)))] H (noU_all rfl) (fun fr => by kernel_rfl) ?_
          intro fr H
          refine at_stepT (v := .agg [.int .u64 x3.set_.w0, .int .u64 x3.set_.w1, .int .u64 x3.set_.w2, .int .u64 x3.set_.w3]) (h1 := h3) (tch' := [(9, h1.size), (5, h1.size), (1, h1.size)]) (g.prot) [(1, .int .u8 p1), (2, .int .u8 p2), (12, vs e_S_auto_state p0.l_), (13, .int .i64 (p0.l_.length : Int)), (14, .int .i64 x1), (21, .bool true), (23, .agg [.int .u64 x3.set_.w0, .int .u64 x3.set_.w1, .int .u64 x3.set_.w2, .int .u64 x3.set_.w3]), (24, .int .u8 p1), (27, .agg [.int .u64 x3.set_.w0, .int .u64 x3.set_.w1, .int .u64 x3.set_.w2, .int .u64 x3.set_.w3])] H (fun fr => by kernel_rfl) (by kernel_rfl) (fun fr => by kernel_rfl) (fun fr => .of (s_ldA (by kernel_rfl) (A.ldA 0 rfl (o := 3) (n := 4) ⟨Nat.le_of_ble_eq_true rfl, rfl⟩))) (fun fr => by kernel_rfl) ?_
          intro fr H
          have A1 := A.prot2 0 (pr := [h1.size]) (.cons 0 rfl (by simp [Ck.ids]) .nil)
          obtain ⟨x5, hx, hm⟩ := bind_some hm
          obtain ⟨v1, h5, hr, rfl, A1⟩ := ok_class_Set_Has (av := [.agg [.int .u64 x3.set_.w0, .int .u64 x3.set_.w1, .int .u64 x3.set_.w2, .int .u64 x3.set_.w3], .int .u8 p1]) hx (by kernel_rfl) A1
          replace A : HH g h5 [.obj h1.size (.cells none 2 (e_S_auto_state x3))] F := A.glueP (n := 0) A1
          refine at_stepT (v := .bool x5) (h1 := h5) (tch' := [(9, h1.size), (5, h1.size), (1, h1.size)]) (h1.size :: g.prot) [(1, .int .u8 p1), (2, .int .u8 p2), (12, vs e_S_auto_state p0.l_), (13, .int .i64 (p0.l_.length : Int)), (14, .int .i64 x1), (21, .bool true), (25, .bool x5), (27, .agg [.int .u64 x3.set_.w0, .int .u64 x3.set_.w1, .int .u64 x3.set_.w2, .int .u64 x3.set_.w3])] H (fun fr => by kernel_rfl) (by kernel_rfl) (fun fr => by kernel_rfl) (fun fr => Steps.call (by kernel_rfl) hr) (fun fr => by kernel_rfl) ?_
          intro fr H
          refine at_seg [(10, [])] [(1, .int .u8 p1), (2, .int .u8 p2), (12, vs e_S_auto_state p0.l_), (13, .int .i64 (p0.l_.length : Int)), (14, .int .i64 x1), (21, .bool true), (25, .bool x5), (27, .agg [.int .u64 x3.set_.w0, .int .u64 x3.set_.w1, .int .u64 x3.set_.w2, .int .u64 x3.set_.w3]), (28, .int .u8 p2)] H (noU_all rfl) (fun fr => by kernel_rfl) ?_
          intro fr H
          have A1 := A.cut 0
          obtain ⟨x6, hx, hm⟩ := bind_some hm
          obtain ⟨v1, h6, hr, rfl, A1⟩ := ok_class_Set_Has (av := [.agg [.int .u64 x3.set_.w0, .int .u64 x3.set_.w1, .int .u64 x3.set_.w2, .int .u64 x3.set_.w3], .int .u8 p2]) hx (by kernel_rfl) A1
          replace A : HH g h6 [.obj h1.size (.cells none 2 (e_S_auto_state x3))] F := A.glue0 (n := 0) A1
          refine at_stepT (v := .bool x6) (h1 := h6) (tch' := [(9, h1.size), (5, h1.size), (1, h1.size)]) (g.prot) [(1, .int .u8 p1), (2, .int .u8 p2), (12, vs e_S_auto_state p0.l_), (13, .int .i64 (p0.l_.length : Int)), (14, .int .i64 x1), (21, .bool true), (25, .bool x5), (29, .bool x6)] H (fun fr => by kernel_rfl) (by kernel_rfl) (fun fr => by kernel_rfl) (fun fr => Steps.call (by kernel_rfl) hr) (fun fr => by kernel_rfl) ?_
          intro fr H
          refine at_seg [(12, []), (13, [])] [(1, .int .u8 p1), (2, .int .u8 p2), (12, vs e_S_auto_state p0.l_), (13, .int .i64 (p0.l_.length : Int)), (14, .int .i64 x1), (31, .bool (!(x5 == x6)))] H (noU_all rfl) (fun fr => by kernel_rfl) ?_
          intro fr H
          have e1 := Option.some.inj hm
          subst e1
          exact at_nil ⟨H.less _ (fun fr => by kernel_rfl), A⟩
        · replace H := H.know 21 hb (by kernel_rfl)
          refine at_seg [(4, []), (5, []), (6, []), (8, []), (9, [])] [(1, .int .u8 p1), (2, .int .u8 p2), (12, vs e_S_auto_state p0.l_), (13, .int .i64 (p0.l_.length : Int)), (14, .int .i64 x1), (21, .bool false), (23, .tuple []), (24, .tuple []), (27, .tuple [])] H (noU_all rfl) (fun fr => by kernel_rfl) ?_
          intro fr H
          refine at_skip [(1, .int .u8 p1), (2, .int .u8 p2), (12, vs e_S_auto_state p0.l_), (13, .int .i64 (p0.l_.length : Int)), (14, .int .i64 x1), (21, .bool false), (25, .tuple []), (27, .tuple [])] H (fun fr => by kernel_rfl) ?_
          intro fr H
          refine at_seg [(10, []), (11, []), (12, []), (13, [])] [(1, .int .u8 p1), (2, .int .u8 p2), (12, vs e_S_auto_state p0.l_), (13, .int .i64 (p0.l_.length : Int)), (14, .int .i64 x1), (31, .bool false)] H (noU_all rfl) (fun fr => by kernel_rfl) ?_
          intro fr H
          have e1 := Option.some.inj hm
          subst e1
          exact at_nil ⟨H.less _ (fun fr => by kernel_rfl), A⟩
      · clear A
        intro t fr h4 hK
        obtain ⟨H, A⟩ := hK
        refine at_nil ?_
        show AW cfg 30 g (right (right (left (left (right (right (left (left (right (left (right (bodyC cfg.P 30)))))))))))) fr h4 _
        rcases iteB_some hm with ⟨hb, hm⟩ | ⟨hb, hm⟩
        · replace H := H.know 31 hb (by kernel_rfl)
          refine aw_true (x := .tmp 31) (by kernel_rfl) H (fun fr => by kernel_rfl) ?_
          refine aw_seq (by kernel_rfl) ?_
          refine aw_reg (id := 5) (n := 1) [(0, [])] (by kernel_rfl) (by kernel_rfl) ?_
          refine at_seg [(0, [])] [(6, .bool true)] H (noU_all rfl) (fun fr => by kernel_rfl) ?_
          intro fr H
          refine at_nil ?_
          show AW cfg 30 g (right (left (right (right (left (left (right (right (left (left (right (left (right (bodyC cfg.P 30)))))))))))))) fr h4 _
          refine aw_ret (by kernel_rfl) ?_
          replace A : HH g h4 [] F := (HH.dropF A 0)
          exact Exists.intro _ (And.intro (Option.some.inj hm).symm (fun e => Or.inr (Or.inl ⟨true, rfl, e, H.less _ (fun fr => by kernel_rfl), A⟩)))
        · replace H := H.know 31 hb (by kernel_rfl)
          refine aw_false (x := .tmp 31) (by kernel_rfl) H (fun fr => by kernel_rfl) ?_
          refine aw_skip (by kernel_rfl) ?_
          show AW cfg 30 g (right (right (right (left (left (right (left (right (bodyC cfg.P 30))))))))) fr h4 _
          refine aw_reg (id := 6) (n := 2) [(0, []), (1, [])] (by kernel_rfl) (by kernel_rfl) ?_
          refine at_seg [(0, []), (1, [])] [(1, .int .u8 p1), (2, .int .u8 p2), (12, vs e_S_auto_state p0.l_), (13, .int .i64 (p0.l_.length : Int)), (14, .int .i64 (IntKind.i64.wrap (x1 + (1 : Int))))] H (noU_all rfl) (fun fr => by kernel_rfl) ?_
          intro fr H
          refine at_nil ?_
          replace A : HH g h4 [] F := (HH.dropF A 0)
          exact Exists.intro (IntKind.i64.wrap (x1 + (1 : Int))) (And.intro (Option.some.inj hm).symm ⟨IntKind.i64.wrap (x1 + (1 : Int)), rfl, H.less _ (fun fr => by kernel_rfl), A⟩)
    · replace H := H.know 15 hb (by kernel_rfl)
      refine aw_false (x := .tmp 15) (by kernel_rfl) H (fun fr => by kernel_rfl) ?_
      refine aw_exit (i := 0) (by kernel_rfl) ?_
      exact Exists.intro _ (And.intro (Option.some.inj hm).symm (fun e => Or.inl ⟨rfl, e, H.less _ (fun fr => by kernel_rfl), A⟩))
  · clear ho
    clear A
    intro e fr h7 hQ
    rcases hQ with ⟨rfl, rfl, H, A⟩ | ⟨x2, rfl, rfl, H, A⟩ | hF
    · skip
      show AW cfg 30 g (right (right (bodyC cfg.P 30))) fr h7 _
      refine aw_seq (by kernel_rfl) ?_
      refine aw_reg (id := 7) (n := 1) [(0, [])] (by kernel_rfl) (by kernel_rfl) ?_
      refine at_seg [(0, [])] [(6, .bool false)] H (noU_all rfl) (fun fr => by kernel_rfl) ?_
      intro fr H
      refine at_nil ?_
      show AW cfg 30 g (right (right (right (bodyC cfg.P 30)))) fr h7 _
      refine aw_ret (by kernel_rfl) ?_
      have e1 := Option.some.inj hm
      subst e1
      refine ⟨.inl rfl, .bool false, resH H (fun fr => by kernel_rfl), ?_⟩
      exact ⟨rfl, A⟩
    · skip
      have e1 := Option.some.inj hm
      subst e1
      refine ⟨.inl rfl, .bool x2, resH H (fun fr => by kernel_rfl), ?_⟩
      exact ⟨rfl, A⟩
    · exact hF.elim
end Go.Av.L
