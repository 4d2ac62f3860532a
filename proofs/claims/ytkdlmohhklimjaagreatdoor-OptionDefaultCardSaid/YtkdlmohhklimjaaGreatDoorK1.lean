/-
 Models of functions, and that the abstract run tells them. Written by lift2.py.
-/
import Derived.Test.YtkdlmohhklimjaaGreatDoorKCfg
import Derived.Test.YtkdlmohhklimjaaGreatDoorK0
namespace Go.Av.L
open Go.Av Go.Lib
set_option maxRecDepth 10000
set_option linter.unusedVariables false
set_option linter.unusedSimpArgs false
/-! ### boulter/option.Equal -/
noncomputable def M_option_Equal (p0 : S_option_Config) (p1 : S_option_Config) : Option (Bool) :=
 (M_slices_Equal_boulter_pattern_Rule_boulter_pattern_Rule p0.Includes p1.Includes).bind fun x1 => (iteB x1 ((M_slices_Equal_boulter_pattern_Rule_boulter_pattern_Rule p0.Excludes p1.Excludes).bind fun x3 => some x3) (some false) : Option (Bool)).bind fun x2 => (iteB x2 ((M_slices_Equal_boulter_rewrite_Expr_boulter_rewrite_Expr p0.Exprs p1.Exprs).bind fun x5 => some x5) (some false) : Option (Bool)).bind fun x4 => (iteB ((((x4 && (p0.Vcs == p1.Vcs)) && (p0.Backups == p1.Backups)) && (p0.Caches == p1.Caches)) && (p0.Dated == p1.Dated)) ((eqG cfg.P 41 [.int .i64 p0.Newer.Sec, .int .i64 p0.Newer.Nsec] [.int .i64 p1.Newer.Sec, .int .i64 p1.Newer.Nsec]).bind fun x7 => some x7) (some false) : Option (Bool)).bind fun x6 => some (((((x6 && (p0.Nth == p1.Nth)) && (p0.Strip == p1.Strip)) && (p0.Name == p1.Name)) && (p0.Head == p1.Head)) && (p0.States == p1.States))
theorem ok_option_Equal {g : Gd} {h : AHeap} {F : List Ck} {p0 : S_option_Config} {p1 : S_option_Config} {q0 : Bool} {av : List AVal} (hm : M_option_Equal p0 p1 = some q0) (hc : canL (cfg.still 16) av = [.agg (e_S_option_Config p0), .agg (e_S_option_Config p1)]) (A : HH g h [] F) : ∃ v h', Runs cfg g h 16 av v h' ∧ v = .bool q0 ∧ HH g h' [] F := by
 refine runsQ1 (n := 94) (rs := [.tmp 4]) (by kernel_rfl) hc (by kernel_rfl) ?_
 clear hc
 unfold M_option_Equal at hm
 refine start (n := 94) [(0, .agg (e_S_option_Config p0)), (1, .agg (e_S_option_Config p1))] (by kernel_rfl) (by kernel_rfl) ?_
 intro fr H
 refine aw_seq (by kernel_rfl) ?_
 refine aw_reg (id := 0) (n := 3) [(0, []), (1, []), (2, [])] (by kernel_rfl) (by kernel_rfl) ?_
 obtain ⟨h1, e1⟩ : ∃ x, x = h.push (.cells none 2 (e_S_option_Config p0)) := ⟨_, rfl⟩
 replace A := (A.push _).to e1
 refine at_step (v := .ptr (some (h.size, 0))) (h1 := h1) [(1, .agg (e_S_option_Config p1)), (2, .ptr (some (h.size, 0)))] H (fun fr => by kernel_rfl) (fun fr => .of (s_n' (by kernel_rfl) (congrArg some e1.symm))) ?_
 intro fr t H
 obtain ⟨h2, e2⟩ : ∃ x, x = h1.push (.cells none 2 (e_S_option_Config p1)) := ⟨_, rfl⟩
 replace A := (A.push _).to e2
 refine at_step (v := .ptr (some (h1.size, 0))) (h1 := h2) [(2, .ptr (some (h.size, 0))), (3, .ptr (some (h1.size, 0)))] H (fun fr => by kernel_rfl) (fun fr => .of (s_n' (by kernel_rfl) (congrArg some e2.symm))) ?_
 intro fr t H
 refine at_seg [(2, [])] [(2, .ptr (some (h.size, 0))), (3, .ptr (some (h1.size, 0)))] H (noU_all rfl) (fun fr => by kernel_rfl) ?_
 intro fr H
 refine at_nil ?_
 show AW cfg 16 g (right (bodyC cfg.P 16)) fr h2 _
 refine aw_seq (by kernel_rfl) ?_
 refine aw_reg (id := 1) (n := 90) [(0, []), (1, []), (2, []), (3, []), (4, []), (5, []), (6, []), (7, []), (8, []), (9, []), (10, []), (11, []), (12, []), (13, []), (14, []), (15, []), (16, []), (17, []), (18, []), (19, []), (20, []), (21, []), (22, []), (23, []), (24, []), (25, []), (26, []), (27, []), (28, []), (29, []), (30, []), (31, []), (32, []), (33, []), (34, []), (35, []), (36, []), (37, []), (38, []), (39, []), (40, []), (41, []), (42, []), (43, []), (44, []), (45, []), (46, []), (47, []), (48, []), (49, []), (50, []), (51, []), (52, []), (53, []), (54, []), (55, []), (56, []), (57, []), (58, []), (59, []), (60, []), (61, []), (62, []), (63, []), (64, []), (65, []), (66, []), (67, []), (68, []), (69, []), (70, []), (71, []), (72, []), (73, []), (74, []), (75, []), (76, []), (77, []), (78, []), (79, []), (80, []), (81, []), (82, []), (83, []), (84, []), (85, []), (86, []), (87, []), (88, []), (89, [])] (by kernel_rfl) (by kernel_rfl) ?_
 refine at_seg [(0, [])] [(2, .ptr (some (h.size, 0))), (3, .ptr (some (h1.size, 0))), (5, .ptr (some (h.size, 0)))] H (noU_all rfl) (fun fr => by kernel_rfl) ?_
 intro fr H
 refine at_step (v := vs e_S_pattern_Rule p0.Includes) (h1 := h2) [(2, .ptr (some (h.size, 0))), (3, .ptr (some (h1.size, 0))), (6, vs e_S_pattern_Rule p0.Includes)] H (fun fr => by kernel_rfl) (fun fr => .of (s_ld (by kernel_rfl) (A.ld1 1 rfl (o := 0) rfl))) ?_
 intro fr t H
 refine at_seg [(2, [])] [(2, .ptr (some (h.size, 0))), (3, .ptr (some (h1.size, 0))), (6, vs e_S_pattern_Rule p0.Includes), (7, .ptr (some (h1.size, 0)))] H (noU_all rfl) (fun fr => by kernel_rfl) ?_
 intro fr H
 refine at_step (v := vs e_S_pattern_Rule p1.Includes) (h1 := h2) [(2, .ptr (some (h.size, 0))), (3, .ptr (some (h1.size, 0))), (6, vs e_S_pattern_Rule p0.Includes), (8, vs e_S_pattern_Rule p1.Includes)] H (fun fr => by kernel_rfl) (fun fr => .of (s_ld (by kernel_rfl) (A.ld1 0 rfl (o := 0) rfl))) ?_
 intro fr t H
 have A1 := A.cut 0
 obtain ⟨x1, hx, hm⟩ := bind_some hm
 obtain ⟨v1, h3, hr, rfl, A1⟩ := ok_slices_Equal_boulter_pattern_Rule_boulter_pattern_Rule (av := [vs e_S_pattern_Rule p0.Includes, vs e_S_pattern_Rule p1.Includes]) hx (by kernel_rfl) A1
 replace A : HH g h3 [.obj h1.size (.cells none 2 (e_S_option_Config p1)), .obj h.size (.cells none 2 (e_S_option_Config p0))] F := A.glue0 (n := 0) A1
 refine at_step (v := .bool x1) (h1 := h3) [(2, .ptr (some (h.size, 0))), (3, .ptr (some (h1.size, 0))), (9, .bool x1)] H (fun fr => by kernel_rfl) (fun fr => Steps.call (by kernel_rfl) hr) ?_
 intro fr t H
 refine at_seg [(5, [])] [(2, .ptr (some (h.size, 0))), (3, .ptr (some (h1.size, 0))), (10, .bool x1)] H (noU_all rfl) (fun fr => by kernel_rfl) ?_
 intro fr H
 obtain ⟨x2, ho, hm⟩ := bind_some hm
 refine at_cut [(6, []), (7, []), (8, []), (9, []), (10, []), (11, [])] (fun fr' h' => Has fr' 94 [(2, .ptr (some (h.size, 0))), (3, .ptr (some (h1.size, 0))), (16, .bool x2)] ∧ HH g h' [.obj h1.size (.cells none 2 (e_S_option_Config p1)), .obj h.size (.cells none 2 (e_S_option_Config p0))] F) ?_ ?_
 ·rcases iteB_some ho with ⟨hb, hm⟩ | ⟨hb, hm⟩
  ·replace H := H.know 10 hb (by kernel_rfl)
   refine at_seg [(6, [])] [(2, .ptr (some (h.size, 0))), (3, .ptr (some (h1.size, 0))), (10, .bool true), (11, .ptr (some (h.size, 1)))] H (noU_all rfl) (fun fr => by kernel_rfl) ?_
   intro fr H
   refine at_step (v := vs e_S_pattern_Rule p0.Excludes) (h1 := h3) [(2, .ptr (some (h.size, 0))), (3, .ptr (some (h1.size, 0))), (10, .bool true), (12, vs e_S_pattern_Rule p0.Excludes)] H (fun fr => by kernel_rfl) (fun fr => .of (s_ld (by kernel_rfl) (A.ld1 1 rfl (o := 1) rfl))) ?_
   intro fr t H
   refine at_seg [(8, [])] [(2, .ptr (some (h.size, 0))), (3, .ptr (some (h1.size, 0))), (10, .bool true), (12, vs e_S_pattern_Rule p0.Excludes), (13, .ptr (some (h1.size, 1)))] H (noU_all rfl) (fun fr => by kernel_rfl) ?_
   intro fr H
   refine at_step (v := vs e_S_pattern_Rule p1.Excludes) (h1 := h3) [(2, .ptr (some (h.size, 0))), (3, .ptr (some (h1.size, 0))), (10, .bool true), (12, vs e_S_pattern_Rule p0.Excludes), (14, vs e_S_pattern_Rule p1.Excludes)] H (fun fr => by kernel_rfl) (fun fr => .of (s_ld (by kernel_rfl) (A.ld1 0 rfl (o := 1) rfl))) ?_
   intro fr t H
   have A1 := A.cut 0
   obtain ⟨x3, hx, hm⟩ := bind_some hm
   obtain ⟨v1, h5, hr, rfl, A1⟩ := ok_slices_Equal_boulter_pattern_Rule_boulter_pattern_Rule (av := [vs e_S_pattern_Rule p0.Excludes, vs e_S_pattern_Rule p1.Excludes]) hx (by kernel_rfl) A1
   replace A : HH g h5 [.obj h1.size (.cells none 2 (e_S_option_Config p1)), .obj h.size (.cells none 2 (e_S_option_Config p0))] F := A.glue0 (n := 0) A1
   refine at_step (v := .bool x3) (h1 := h5) [(2, .ptr (some (h.size, 0))), (3, .ptr (some (h1.size, 0))), (10, .bool true), (15, .bool x3)] H (fun fr => by kernel_rfl) (fun fr => Steps.call (by kernel_rfl) hr) ?_
   intro fr t H
   refine at_seg [(11, [])] [(2, .ptr (some (h.size, 0))), (3, .ptr (some (h1.size, 0))), (16, .bool x3)] H (noU_all rfl) (fun fr => by kernel_rfl) ?_
   intro fr H
   have e1 := Option.some.inj hm
   subst e1
   exact at_nil ⟨H.less _ (fun fr => by kernel_rfl), A⟩
  ·replace H := H.know 10 hb (by kernel_rfl)
   refine at_seg [(6, []), (7, []), (8, []), (9, []), (10, []), (11, [])] [(2, .ptr (some (h.size, 0))), (3, .ptr (some (h1.size, 0))), (16, .bool false)] H (noU_all rfl) (fun fr => by kernel_rfl) ?_
   intro fr H
   have e1 := Option.some.inj hm
   subst e1
   exact at_nil ⟨H.less _ (fun fr => by kernel_rfl), A⟩
 ·clear A
  intro t fr h4 hK
  obtain ⟨H, A⟩ := hK
  refine at_seg [(12, [])] [(2, .ptr (some (h.size, 0))), (3, .ptr (some (h1.size, 0))), (17, .bool x2)] H (noU_all rfl) (fun fr => by kernel_rfl) ?_
  intro fr H
  obtain ⟨x4, ho, hm⟩ := bind_some hm
  refine at_cut [(13, []), (14, []), (15, []), (16, []), (17, []), (18, [])] (fun fr' h' => Has fr' 94 [(2, .ptr (some (h.size, 0))), (3, .ptr (some (h1.size, 0))), (23, .bool x4)] ∧ HH g h' [.obj h1.size (.cells none 2 (e_S_option_Config p1)), .obj h.size (.cells none 2 (e_S_option_Config p0))] F) ?_ ?_
  ·rcases iteB_some ho with ⟨hb, hm⟩ | ⟨hb, hm⟩
   ·replace H := H.know 17 hb (by kernel_rfl)
    refine at_seg [(13, [])] [(2, .ptr (some (h.size, 0))), (3, .ptr (some (h1.size, 0))), (17, .bool true), (18, .ptr (some (h.size, 2)))] H (noU_all rfl) (fun fr => by kernel_rfl) ?_
    intro fr H
    refine at_step (v := vs e_S_rewrite_Expr p0.Exprs) (h1 := h4) [(2, .ptr (some (h.size, 0))), (3, .ptr (some (h1.size, 0))), (17, .bool true), (19, vs e_S_rewrite_Expr p0.Exprs)] H (fun fr => by kernel_rfl) (fun fr => .of (s_ld (by kernel_rfl) (A.ld1 1 rfl (o := 2) rfl))) ?_
    intro fr t H
    refine at_seg [(15, [])] [(2, .ptr (some (h.size, 0))), (3, .ptr (some (h1.size, 0))), (17, .bool true), (19, vs e_S_rewrite_Expr p0.Exprs), (20, .ptr (some (h1.size, 2)))] H (noU_all rfl) (fun fr => by kernel_rfl) ?_
    intro fr H
    refine at_step (v := vs e_S_rewrite_Expr p1.Exprs) (h1 := h4) [(2, .ptr (some (h.size, 0))), (3, .ptr (some (h1.size, 0))), (17, .bool true), (19, vs e_S_rewrite_Expr p0.Exprs), (21, vs e_S_rewrite_Expr p1.Exprs)] H (fun fr => by kernel_rfl) (fun fr => .of (s_ld (by kernel_rfl) (A.ld1 0 rfl (o := 2) rfl))) ?_
    intro fr t H
    have A1 := A.cut 0
    obtain ⟨x5, hx, hm⟩ := bind_some hm
    obtain ⟨v1, h7, hr, rfl, A1⟩ := ok_slices_Equal_boulter_rewrite_Expr_boulter_rewrite_Expr (av := [vs e_S_rewrite_Expr p0.Exprs, vs e_S_rewrite_Expr p1.Exprs]) hx (by kernel_rfl) A1
    replace A : HH g h7 [.obj h1.size (.cells none 2 (e_S_option_Config p1)), .obj h.size (.cells none 2 (e_S_option_Config p0))] F := A.glue0 (n := 0) A1
    refine at_step (v := .bool x5) (h1 := h7) [(2, .ptr (some (h.size, 0))), (3, .ptr (some (h1.size, 0))), (17, .bool true), (22, .bool x5)] H (fun fr => by kernel_rfl) (fun fr => Steps.call (by kernel_rfl) hr) ?_
    intro fr t H
    refine at_seg [(18, [])] [(2, .ptr (some (h.size, 0))), (3, .ptr (some (h1.size, 0))), (23, .bool x5)] H (noU_all rfl) (fun fr => by kernel_rfl) ?_
    intro fr H
    have e1 := Option.some.inj hm
    subst e1
    exact at_nil ⟨H.less _ (fun fr => by kernel_rfl), A⟩
   ·replace H := H.know 17 hb (by kernel_rfl)
    refine at_seg [(13, []), (14, []), (15, []), (16, []), (17, []), (18, [])] [(2, .ptr (some (h.size, 0))), (3, .ptr (some (h1.size, 0))), (23, .bool false)] H (noU_all rfl) (fun fr => by kernel_rfl) ?_
    intro fr H
    have e1 := Option.some.inj hm
    subst e1
    exact at_nil ⟨H.less _ (fun fr => by kernel_rfl), A⟩
  ·clear A
   intro t fr h6 hK
   obtain ⟨H, A⟩ := hK
   refine at_seg [(19, [])] [(2, .ptr (some (h.size, 0))), (3, .ptr (some (h1.size, 0))), (24, .bool x4)] H (noU_all rfl) (fun fr => by kernel_rfl) ?_
   intro fr H
   refine at_cut [(20, []), (21, []), (22, []), (23, []), (24, []), (25, [])] (fun fr' h' => h6 = h' ∧ Has fr' 94 [(2, .ptr (some (h.size, 0))), (3, .ptr (some (h1.size, 0))), (30, .bool (x4 && (p0.Vcs == p1.Vcs)))]) ?_ ?_
   ·cases hb : (x4 : Bool) with
    | true =>
     replace H := H.know 24 hb (by kernel_rfl)
     refine at_seg [(20, [])] [(2, .ptr (some (h.size, 0))), (3, .ptr (some (h1.size, 0))), (24, .bool true), (25, .ptr (some (h.size, 3)))] H (noU_all rfl) (fun fr => by kernel_rfl) ?_
     intro fr H
     refine at_step (v := .bool p0.Vcs) (h1 := h6) [(2, .ptr (some (h.size, 0))), (3, .ptr (some (h1.size, 0))), (24, .bool true), (26, .bool p0.Vcs)] H (fun fr => by kernel_rfl) (fun fr => .of (s_ld (by kernel_rfl) (A.ld1 1 rfl (o := 3) rfl))) ?_
     intro fr t H
     refine at_seg [(22, [])] [(2, .ptr (some (h.size, 0))), (3, .ptr (some (h1.size, 0))), (24, .bool true), (26, .bool p0.Vcs), (27, .ptr (some (h1.size, 3)))] H (noU_all rfl) (fun fr => by kernel_rfl) ?_
     intro fr H
     refine at_step (v := .bool p1.Vcs) (h1 := h6) [(2, .ptr (some (h.size, 0))), (3, .ptr (some (h1.size, 0))), (24, .bool true), (26, .bool p0.Vcs), (28, .bool p1.Vcs)] H (fun fr => by kernel_rfl) (fun fr => .of (s_ld (by kernel_rfl) (A.ld1 0 rfl (o := 3) rfl))) ?_
     intro fr t H
     refine at_seg [(24, []), (25, [])] [(2, .ptr (some (h.size, 0))), (3, .ptr (some (h1.size, 0))), (30, .bool (p0.Vcs == p1.Vcs))] H (noU_all rfl) (fun fr => by kernel_rfl) ?_
     intro fr H
     exact at_nil ⟨rfl, by first | exact H.less _ (fun fr => by rfl) | exact H.less _ (fun fr => by rw [hb]; rfl)⟩
    | false =>
     replace H := H.know 24 hb (by kernel_rfl)
     refine at_seg [(20, []), (21, []), (22, []), (23, []), (24, []), (25, [])] [(2, .ptr (some (h.size, 0))), (3, .ptr (some (h1.size, 0))), (30, .bool false)] H (noU_all rfl) (fun fr => by kernel_rfl) ?_
     intro fr H
     exact at_nil ⟨rfl, by first | exact H.less _ (fun fr => by rfl) | exact H.less _ (fun fr => by rw [hb]; rfl)⟩
   ·intro t fr h' hK
    obtain ⟨e, H⟩ := hK
    subst e
    refine at_seg [(26, [])] [(2, .ptr (some (h.size, 0))), (3, .ptr (some (h1.size, 0))), (31, .bool (x4 && (p0.Vcs == p1.Vcs)))] H (noU_all rfl) (fun fr => by kernel_rfl) ?_
    intro fr H
    refine at_cut [(27, []), (28, []), (29, []), (30, []), (31, []), (32, [])] (fun fr' h' => h6 = h' ∧ Has fr' 94 [(2, .ptr (some (h.size, 0))), (3, .ptr (some (h1.size, 0))), (37, .bool ((x4 && (p0.Vcs == p1.Vcs)) && (p0.Backups == p1.Backups)))]) ?_ ?_
    ·cases hb : (x4 && (p0.Vcs == p1.Vcs) : Bool) with
     | true =>
      replace H := H.know 31 hb (by kernel_rfl)
      refine at_seg [(27, [])] [(2, .ptr (some (h.size, 0))), (3, .ptr (some (h1.size, 0))), (31, .bool true), (32, .ptr (some (h.size, 4)))] H (noU_all rfl) (fun fr => by kernel_rfl) ?_
      intro fr H
      refine at_step (v := .bool p0.Backups) (h1 := h6) [(2, .ptr (some (h.size, 0))), (3, .ptr (some (h1.size, 0))), (31, .bool true), (33, .bool p0.Backups)] H (fun fr => by kernel_rfl) (fun fr => .of (s_ld (by kernel_rfl) (A.ld1 1 rfl (o := 4) rfl))) ?_
      intro fr t H
      refine at_seg [(29, [])] [(2, .ptr (some (h.size, 0))), (3, .ptr (some (h1.size, 0))), (31, .bool true), (33, .bool p0.Backups), (34, .ptr (some (h1.size, 4)))] H (noU_all rfl) (fun fr => by kernel_rfl) ?_
      intro fr H
      refine at_step (v := .bool p1.Backups) (h1 := h6) [(2, .ptr (some (h.size, 0))), (3, .ptr (some (h1.size, 0))), (31, .bool true), (33, .bool p0.Backups), (35, .bool p1.Backups)] H (fun fr => by kernel_rfl) (fun fr => .of (s_ld (by kernel_rfl) (A.ld1 0 rfl (o := 4) rfl))) ?_
      intro fr t H
      refine at_seg [(31, []), (32, [])] [(2, .ptr (some (h.size, 0))), (3, .ptr (some (h1.size, 0))), (37, .bool (p0.Backups == p1.Backups))] H (noU_all rfl) (fun fr => by kernel_rfl) ?_
      intro fr H
      exact at_nil ⟨rfl, by first | exact H.less _ (fun fr => by rfl) | exact H.less _ (fun fr => by rw [hb]; rfl)⟩
     | false =>
      replace H := H.know 31 hb (by kernel_rfl)
      refine at_seg [(27, []), (28, []), (29, []), (30, []), (31, []), (32, [])] [(2, .ptr (some (h.size, 0))), (3, .ptr (some (h1.size, 0))), (37, .bool false)] H (noU_all rfl) (fun fr => by kernel_rfl) ?_
      intro fr H
      exact at_nil ⟨rfl, by first | exact H.less _ (fun fr => by rfl) | exact H.less _ (fun fr => by rw [hb]; rfl)⟩
    ·intro t fr h' hK
     obtain ⟨e, H⟩ := hK
     subst e
     refine at_seg [(33, [])] [(2, .ptr (some (h.size, 0))), (3, .ptr (some (h1.size, 0))), (38, .bool ((x4 && (p0.Vcs == p1.Vcs)) && (p0.Backups == p1.Backups)))] H (noU_all rfl) (fun fr => by kernel_rfl) ?_
     intro fr H
     refine at_cut [(34, []), (35, []), (36, []), (37, []), (38, []), (39, [])] (fun fr' h' => h6 = h' ∧ Has fr' 94 [(2, .ptr (some (h.size, 0))), (3, .ptr (some (h1.size, 0))), (44, .bool (((x4 && (p0.Vcs == p1.Vcs)) && (p0.Backups == p1.Backups)) && (p0.Caches == p1.Caches)))]) ?_ ?_
     ·cases hb : ((x4 && (p0.Vcs == p1.Vcs)) && (p0.Backups == p1.Backups) : Bool) with
      | true =>
       replace H := H.know 38 hb (by kernel_rfl)
       refine at_seg [(34, [])] [(2, .ptr (some (h.size, 0))), (3, .ptr (some (h1.size, 0))), (38, .bool true), (39, .ptr (some (h.size, 5)))] H (noU_all rfl) (fun fr => by kernel_rfl) ?_
       intro fr H
       refine at_step (v := .int .i64 p0.Caches) (h1 := h6) [(2, .ptr (some (h.size, 0))), (3, .ptr (some (h1.size, 0))), (38, .bool true), (40, .int .i64 p0.Caches)] H (fun fr => by kernel_rfl) (fun fr => .of (s_ld (by kernel_rfl) (A.ld1 1 rfl (o := 5) rfl))) ?_
       intro fr t H
       refine at_seg [(36, [])] [(2, .ptr (some (h.size, 0))), (3, .ptr (some (h1.size, 0))), (38, .bool true), (40, .int .i64 p0.Caches), (41, .ptr (some (h1.size, 5)))] H (noU_all rfl) (fun fr => by kernel_rfl) ?_
       intro fr H
       refine at_step (v := .int .i64 p1.Caches) (h1 := h6) [(2, .ptr (some (h.size, 0))), (3, .ptr (some (h1.size, 0))), (38, .bool true), (40, .int .i64 p0.Caches), (42, .int .i64 p1.Caches)] H (fun fr => by kernel_rfl) (fun fr => .of (s_ld (by kernel_rfl) (A.ld1 0 rfl (o := 5) rfl))) ?_
       intro fr t H
       refine at_seg [(38, []), (39, [])] [(2, .ptr (some (h.size, 0))), (3, .ptr (some (h1.size, 0))), (44, .bool (p0.Caches == p1.Caches))] H (noU_all rfl) (fun fr => by kernel_rfl) ?_
       intro fr H
       exact at_nil ⟨rfl, by first | exact H.less _ (fun fr => by rfl) | exact H.less _ (fun fr => by rw [hb]; rfl)⟩
      | false =>
       replace H := H.know 38 hb (by kernel_rfl)
       refine at_seg [(34, []), (35, []), (36, []), (37, []), (38, []), (39, [])] [(2, .ptr (some (h.size, 0))), (3, .ptr (some (h1.size, 0))), (44, .bool false)] H (noU_all rfl) (fun fr => by kernel_rfl) ?_
       intro fr H
       exact at_nil ⟨rfl, by first | exact H.less _ (fun fr => by rfl) | exact H.less _ (fun fr => by rw [hb]; rfl)⟩
     ·intro t fr h' hK
      obtain ⟨e, H⟩ := hK
      subst e
      refine at_seg [(40, [])] [(2, .ptr (some (h.size, 0))), (3, .ptr (some (h1.size, 0))), (45, .bool (((x4 && (p0.Vcs == p1.Vcs)) && (p0.Backups == p1.Backups)) && (p0.Caches == p1.Caches)))] H (noU_all rfl) (fun fr => by kernel_rfl) ?_
      intro fr H
      refine at_cut [(41, []), (42, []), (43, []), (44, []), (45, []), (46, [])] (fun fr' h' => h6 = h' ∧ Has fr' 94 [(2, .ptr (some (h.size, 0))), (3, .ptr (some (h1.size, 0))), (51, .bool ((((x4 && (p0.Vcs == p1.Vcs)) && (p0.Backups == p1.Backups)) && (p0.Caches == p1.Caches)) && (p0.Dated == p1.Dated)))]) ?_ ?_
      ·cases hb : (((x4 && (p0.Vcs == p1.Vcs)) && (p0.Backups == p1.Backups)) && (p0.Caches == p1.Caches) : Bool) with
       | true =>
        replace H := H.know 45 hb (by kernel_rfl)
        refine at_seg [(41, [])] [(2, .ptr (some (h.size, 0))), (3, .ptr (some (h1.size, 0))), (45, .bool true), (46, .ptr (some (h.size, 6)))] H (noU_all rfl) (fun fr => by kernel_rfl) ?_
        intro fr H
        refine at_step (v := .bool p0.Dated) (h1 := h6) [(2, .ptr (some (h.size, 0))), (3, .ptr (some (h1.size, 0))), (45, .bool true), (47, .bool p0.Dated)] H (fun fr => by kernel_rfl) (fun fr => .of (s_ld (by kernel_rfl) (A.ld1 1 rfl (o := 6) rfl))) ?_
        intro fr t H
        refine at_seg [(43, [])] [(2, .ptr (some (h.size, 0))), (3, .ptr (some (h1.size, 0))), (45, .bool true), (47, .bool p0.Dated), (48, .ptr (some (h1.size, 6)))] H (noU_all rfl) (fun fr => by kernel_rfl) ?_
        intro fr H
        refine at_step (v := .bool p1.Dated) (h1 := h6) [(2, .ptr (some (h.size, 0))), (3, .ptr (some (h1.size, 0))), (45, .bool true), (47, .bool p0.Dated), (49, .bool p1.Dated)] H (fun fr => by kernel_rfl) (fun fr => .of (s_ld (by kernel_rfl) (A.ld1 0 rfl (o := 6) rfl))) ?_
        intro fr t H
        refine at_seg [(45, []), (46, [])] [(2, .ptr (some (h.size, 0))), (3, .ptr (some (h1.size, 0))), (51, .bool (p0.Dated == p1.Dated))] H (noU_all rfl) (fun fr => by kernel_rfl) ?_
        intro fr H
        exact at_nil ⟨rfl, by first | exact H.less _ (fun fr => by rfl) | exact H.less _ (fun fr => by rw [hb]; rfl)⟩
       | false =>
        replace H := H.know 45 hb (by kernel_rfl)
        refine at_seg [(41, []), (42, []), (43, []), (44, []), (45, []), (46, [])] [(2, .ptr (some (h.size, 0))), (3, .ptr (some (h1.size, 0))), (51, .bool false)] H (noU_all rfl) (fun fr => by kernel_rfl) ?_
        intro fr H
        exact at_nil ⟨rfl, by first | exact H.less _ (fun fr => by rfl) | exact H.less _ (fun fr => by rw [hb]; rfl)⟩
      ·intro t fr h' hK
       obtain ⟨e, H⟩ := hK
       subst e
       refine at_seg [(47, [])] [(2, .ptr (some (h.size, 0))), (3, .ptr (some (h1.size, 0))), (52, .bool ((((x4 && (p0.Vcs == p1.Vcs)) && (p0.Backups == p1.Backups)) && (p0.Caches == p1.Caches)) && (p0.Dated == p1.Dated)))] H (noU_all rfl) (fun fr => by kernel_rfl) ?_
       intro fr H
       obtain ⟨x6, ho, hm⟩ := bind_some hm
       refine at_cut [(48, []), (49, []), (50, []), (51, []), (52, []), (53, [])] (fun fr' h' => Has fr' 94 [(2, .ptr (some (h.size, 0))), (3, .ptr (some (h1.size, 0))), (58, .bool x6)] ∧ HH g h' [.obj h1.size (.cells none 2 (e_S_option_Config p1)), .obj h.size (.cells none 2 (e_S_option_Config p0))] F) ?_ ?_
       ·rcases iteB_some ho with ⟨hb, hm⟩ | ⟨hb, hm⟩
        ·replace H := H.know 52 hb (by kernel_rfl)
         refine at_seg [(48, [])] [(2, .ptr (some (h.size, 0))), (3, .ptr (some (h1.size, 0))), (52, .bool true), (53, .ptr (some (h.size, 7)))] H (noU_all rfl) (fun fr => by kernel_rfl) ?_
         intro fr H
         refine at_step (v := .agg [.int .i64 p0.Newer.Sec, .int .i64 p0.Newer.Nsec]) (h1 := h6) [(2, .ptr (some (h.size, 0))), (3, .ptr (some (h1.size, 0))), (52, .bool true), (54, .agg [.int .i64 p0.Newer.Sec, .int .i64 p0.Newer.Nsec])] H (fun fr => by kernel_rfl) (fun fr => .of (s_ldA (by kernel_rfl) (A.ldA 1 rfl (o := 7) (n := 2) ⟨Nat.le_of_ble_eq_true rfl, rfl⟩))) ?_
         intro fr t H
         refine at_seg [(50, [])] [(2, .ptr (some (h.size, 0))), (3, .ptr (some (h1.size, 0))), (52, .bool true), (54, .agg [.int .i64 p0.Newer.Sec, .int .i64 p0.Newer.Nsec]), (55, .ptr (some (h1.size, 7)))] H (noU_all rfl) (fun fr => by kernel_rfl) ?_
         intro fr H
         refine at_step (v := .agg [.int .i64 p1.Newer.Sec, .int .i64 p1.Newer.Nsec]) (h1 := h6) [(2, .ptr (some (h.size, 0))), (3, .ptr (some (h1.size, 0))), (52, .bool true), (54, .agg [.int .i64 p0.Newer.Sec, .int .i64 p0.Newer.Nsec]), (56, .agg [.int .i64 p1.Newer.Sec, .int .i64 p1.Newer.Nsec])] H (fun fr => by kernel_rfl) (fun fr => .of (s_ldA (by kernel_rfl) (A.ldA 0 rfl (o := 7) (n := 2) ⟨Nat.le_of_ble_eq_true rfl, rfl⟩))) ?_
         intro fr t H
         obtain ⟨x7, hx, hm⟩ := bind_some hm
         refine at_step (v := .bool x7) (h1 := h6) [(2, .ptr (some (h.size, 0))), (3, .ptr (some (h1.size, 0))), (52, .bool true), (57, .bool x7)] H (fun fr => by kernel_rfl) (fun fr => .of (s_eqG (by kernel_rfl) hx)) ?_
         intro fr t H
         refine at_seg [(53, [])] [(2, .ptr (some (h.size, 0))), (3, .ptr (some (h1.size, 0))), (58, .bool x7)] H (noU_all rfl) (fun fr => by kernel_rfl) ?_
         intro fr H
         have e1 := Option.some.inj hm
         subst e1
         exact at_nil ⟨H.less _ (fun fr => by kernel_rfl), A⟩
        ·replace H := H.know 52 hb (by kernel_rfl)
         refine at_seg [(48, []), (49, []), (50, []), (51, []), (52, []), (53, [])] [(2, .ptr (some (h.size, 0))), (3, .ptr (some (h1.size, 0))), (58, .bool false)] H (noU_all rfl) (fun fr => by kernel_rfl) ?_
         intro fr H
         have e1 := Option.some.inj hm
         subst e1
         exact at_nil ⟨H.less _ (fun fr => by kernel_rfl), A⟩
       ·clear A
        intro t fr h8 hK
        obtain ⟨H, A⟩ := hK
        refine at_seg [(54, [])] [(2, .ptr (some (h.size, 0))), (3, .ptr (some (h1.size, 0))), (59, .bool x6)] H (noU_all rfl) (fun fr => by kernel_rfl) ?_
        intro fr H
        refine at_cut [(55, []), (56, []), (57, []), (58, []), (59, []), (60, [])] (fun fr' h' => h8 = h' ∧ Has fr' 94 [(2, .ptr (some (h.size, 0))), (3, .ptr (some (h1.size, 0))), (65, .bool (x6 && (p0.Nth == p1.Nth)))]) ?_ ?_
        ·cases hb : (x6 : Bool) with
         | true =>
          replace H := H.know 59 hb (by kernel_rfl)
          refine at_seg [(55, [])] [(2, .ptr (some (h.size, 0))), (3, .ptr (some (h1.size, 0))), (59, .bool true), (60, .ptr (some (h.size, 9)))] H (noU_all rfl) (fun fr => by kernel_rfl) ?_
          intro fr H
          refine at_step (v := .int .i64 p0.Nth) (h1 := h8) [(2, .ptr (some (h.size, 0))), (3, .ptr (some (h1.size, 0))), (59, .bool true), (61, .int .i64 p0.Nth)] H (fun fr => by kernel_rfl) (fun fr => .of (s_ld (by kernel_rfl) (A.ld1 1 rfl (o := 9) rfl))) ?_
          intro fr t H
          refine at_seg [(57, [])] [(2, .ptr (some (h.size, 0))), (3, .ptr (some (h1.size, 0))), (59, .bool true), (61, .int .i64 p0.Nth), (62, .ptr (some (h1.size, 9)))] H (noU_all rfl) (fun fr => by kernel_rfl) ?_
          intro fr H
          refine at_step (v := .int .i64 p1.Nth) (h1 := h8) [(2, .ptr (some (h.size, 0))), (3, .ptr (some (h1.size, 0))), (59, .bool true), (61, .int .i64 p0.Nth), (63, .int .i64 p1.Nth)] H (fun fr => by kernel_rfl) (fun fr => .of (s_ld (by kernel_rfl) (A.ld1 0 rfl (o := 9) rfl))) ?_
          intro fr t H
          refine at_seg [(59, []), (60, [])] [(2, .ptr (some (h.size, 0))), (3, .ptr (some (h1.size, 0))), (65, .bool (p0.Nth == p1.Nth))] H (noU_all rfl) (fun fr => by kernel_rfl) ?_
          intro fr H
          exact at_nil ⟨rfl, by first | exact H.less _ (fun fr => by rfl) | exact H.less _ (fun fr => by rw [hb]; rfl)⟩
         | false =>
          replace H := H.know 59 hb (by kernel_rfl)
          refine at_seg [(55, []), (56, []), (57, []), (58, []), (59, []), (60, [])] [(2, .ptr (some (h.size, 0))), (3, .ptr (some (h1.size, 0))), (65, .bool false)] H (noU_all rfl) (fun fr => by kernel_rfl) ?_
          intro fr H
          exact at_nil ⟨rfl, by first | exact H.less _ (fun fr => by rfl) | exact H.less _ (fun fr => by rw [hb]; rfl)⟩
        ·intro t fr h' hK
         obtain ⟨e, H⟩ := hK
         subst e
         refine at_seg [(61, [])] [(2, .ptr (some (h.size, 0))), (3, .ptr (some (h1.size, 0))), (66, .bool (x6 && (p0.Nth == p1.Nth)))] H (noU_all rfl) (fun fr => by kernel_rfl) ?_
         intro fr H
         refine at_cut [(62, []), (63, []), (64, []), (65, []), (66, []), (67, [])] (fun fr' h' => h8 = h' ∧ Has fr' 94 [(2, .ptr (some (h.size, 0))), (3, .ptr (some (h1.size, 0))), (72, .bool ((x6 && (p0.Nth == p1.Nth)) && (p0.Strip == p1.Strip)))]) ?_ ?_
         ·cases hb : (x6 && (p0.Nth == p1.Nth) : Bool) with
          | true =>
           replace H := H.know 66 hb (by kernel_rfl)
           refine at_seg [(62, [])] [(2, .ptr (some (h.size, 0))), (3, .ptr (some (h1.size, 0))), (66, .bool true), (67, .ptr (some (h.size, 10)))] H (noU_all rfl) (fun fr => by kernel_rfl) ?_
           intro fr H
           refine at_step (v := .int .i64 p0.Strip) (h1 := h8) [(2, .ptr (some (h.size, 0))), (3, .ptr (some (h1.size, 0))), (66, .bool true), (68, .int .i64 p0.Strip)] H (fun fr => by kernel_rfl) (fun fr => .of (s_ld (by kernel_rfl) (A.ld1 1 rfl (o := 10) rfl))) ?_
           intro fr t H
           refine at_seg [(64, [])] [(2, .ptr (some (h.size, 0))), (3, .ptr (some (h1.size, 0))), (66, .bool true), (68, .int .i64 p0.Strip), (69, .ptr (some (h1.size, 10)))] H (noU_all rfl) (fun fr => by kernel_rfl) ?_
           intro fr H
           refine at_step (v := .int .i64 p1.Strip) (h1 := h8) [(2, .ptr (some (h.size, 0))), (3, .ptr (some (h1.size, 0))), (66, .bool true), (68, .int .i64 p0.Strip), (70, .int .i64 p1.Strip)] H (fun fr => by kernel_rfl) (fun fr => .of (s_ld (by kernel_rfl) (A.ld1 0 rfl (o := 10) rfl))) ?_
           intro fr t H
           refine at_seg [(66, []), (67, [])] [(2, .ptr (some (h.size, 0))), (3, .ptr (some (h1.size, 0))), (72, .bool (p0.Strip == p1.Strip))] H (noU_all rfl) (fun fr => by kernel_rfl) ?_
           intro fr H
           exact at_nil ⟨rfl, by first | exact H.less _ (fun fr => by rfl) | exact H.less _ (fun fr => by rw [hb]; rfl)⟩
          | false =>
           replace H := H.know 66 hb (by kernel_rfl)
           refine at_seg [(62, []), (63, []), (64, []), (65, []), (66, []), (67, [])] [(2, .ptr (some (h.size, 0))), (3, .ptr (some (h1.size, 0))), (72, .bool false)] H (noU_all rfl) (fun fr => by kernel_rfl) ?_
           intro fr H
           exact at_nil ⟨rfl, by first | exact H.less _ (fun fr => by rfl) | exact H.less _ (fun fr => by rw [hb]; rfl)⟩
         ·intro t fr h' hK
          obtain ⟨e, H⟩ := hK
          subst e
          refine at_seg [(68, [])] [(2, .ptr (some (h.size, 0))), (3, .ptr (some (h1.size, 0))), (73, .bool ((x6 && (p0.Nth == p1.Nth)) && (p0.Strip == p1.Strip)))] H (noU_all rfl) (fun fr => by kernel_rfl) ?_
          intro fr H
          refine at_cut [(69, []), (70, []), (71, []), (72, []), (73, []), (74, [])] (fun fr' h' => h8 = h' ∧ Has fr' 94 [(2, .ptr (some (h.size, 0))), (3, .ptr (some (h1.size, 0))), (79, .bool (((x6 && (p0.Nth == p1.Nth)) && (p0.Strip == p1.Strip)) && (p0.Name == p1.Name)))]) ?_ ?_
          ·cases hb : ((x6 && (p0.Nth == p1.Nth)) && (p0.Strip == p1.Strip) : Bool) with
           | true =>
            replace H := H.know 73 hb (by kernel_rfl)
            refine at_seg [(69, [])] [(2, .ptr (some (h.size, 0))), (3, .ptr (some (h1.size, 0))), (73, .bool true), (74, .ptr (some (h.size, 11)))] H (noU_all rfl) (fun fr => by kernel_rfl) ?_
            intro fr H
            refine at_step (v := .int .i64 p0.Name) (h1 := h8) [(2, .ptr (some (h.size, 0))), (3, .ptr (some (h1.size, 0))), (73, .bool true), (75, .int .i64 p0.Name)] H (fun fr => by kernel_rfl) (fun fr => .of (s_ld (by kernel_rfl) (A.ld1 1 rfl (o := 11) rfl))) ?_
            intro fr t H
            refine at_seg [(71, [])] [(2, .ptr (some (h.size, 0))), (3, .ptr (some (h1.size, 0))), (73, .bool true), (75, .int .i64 p0.Name), (76, .ptr (some (h1.size, 11)))] H (noU_all rfl) (fun fr => by kernel_rfl) ?_
            intro fr H
            refine at_step (v := .int .i64 p1.Name) (h1 := h8) [(2, .ptr (some (h.size, 0))), (3, .ptr (some (h1.size, 0))), (73, .bool true), (75, .int .i64 p0.Name), (77, .int .i64 p1.Name)] H (fun fr => by kernel_rfl) (fun fr => .of (s_ld (by kernel_rfl) (A.ld1 0 rfl (o := 11) rfl))) ?_
            intro fr t H
            refine at_seg [(73, []), (74, [])] [(2, .ptr (some (h.size, 0))), (3, .ptr (some (h1.size, 0))), (79, .bool (p0.Name == p1.Name))] H (noU_all rfl) (fun fr => by kernel_rfl) ?_
            intro fr H
            exact at_nil ⟨rfl, by first | exact H.less _ (fun fr => by rfl) | exact H.less _ (fun fr => by rw [hb]; rfl)⟩
           | false =>
            replace H := H.know 73 hb (by kernel_rfl)
            refine at_seg [(69, []), (70, []), (71, []), (72, []), (73, []), (74, [])] [(2, .ptr (some (h.size, 0))), (3, .ptr (some (h1.size, 0))), (79, .bool false)] H (noU_all rfl) (fun fr => by kernel_rfl) ?_
            intro fr H
            exact at_nil ⟨rfl, by first | exact H.less _ (fun fr => by rfl) | exact H.less _ (fun fr => by rw [hb]; rfl)⟩
          ·intro t fr h' hK
           obtain ⟨e, H⟩ := hK
           subst e
           refine at_seg [(75, [])] [(2, .ptr (some (h.size, 0))), (3, .ptr (some (h1.size, 0))), (80, .bool (((x6 && (p0.Nth == p1.Nth)) && (p0.Strip == p1.Strip)) && (p0.Name == p1.Name)))] H (noU_all rfl) (fun fr => by kernel_rfl) ?_
           intro fr H
           refine at_cut [(76, []), (77, []), (78, []), (79, []), (80, []), (81, [])] (fun fr' h' => h8 = h' ∧ Has fr' 94 [(2, .ptr (some (h.size, 0))), (3, .ptr (some (h1.size, 0))), (86, .bool ((((x6 && (p0.Nth == p1.Nth)) && (p0.Strip == p1.Strip)) && (p0.Name == p1.Name)) && (p0.Head == p1.Head)))]) ?_ ?_
           ·cases hb : (((x6 && (p0.Nth == p1.Nth)) && (p0.Strip == p1.Strip)) && (p0.Name == p1.Name) : Bool) with
            | true =>
             replace H := H.know 80 hb (by kernel_rfl)
             refine at_seg [(76, [])] [(2, .ptr (some (h.size, 0))), (3, .ptr (some (h1.size, 0))), (80, .bool true), (81, .ptr (some (h.size, 12)))] H (noU_all rfl) (fun fr => by kernel_rfl) ?_
             intro fr H
             refine at_step (v := .int .i64 p0.Head) (h1 := h8) [(2, .ptr (some (h.size, 0))), (3, .ptr (some (h1.size, 0))), (80, .bool true), (82, .int .i64 p0.Head)] H (fun fr => by kernel_rfl) (fun fr => .of (s_ld (by kernel_rfl) (A.ld1 1 rfl (o := 12) rfl))) ?_
             intro fr t H
             refine at_seg [(78, [])] [(2, .ptr (some (h.size, 0))), (3, .ptr (some (h1.size, 0))), (80, .bool true), (82, .int .i64 p0.Head), (83, .ptr (some (h1.size, 12)))] H (noU_all rfl) (fun fr => by kernel_rfl) ?_
             intro fr H
             refine at_step (v := .int .i64 p1.Head) (h1 := h8) [(2, .ptr (some (h.size, 0))), (3, .ptr (some (h1.size, 0))), (80, .bool true), (82, .int .i64 p0.Head), (84, .int .i64 p1.Head)] H (fun fr => by kernel_rfl) (fun fr => .of (s_ld (by kernel_rfl) (A.ld1 0 rfl (o := 12) rfl))) ?_
             intro fr t H
             refine at_seg [(80, []), (81, [])] [(2, .ptr (some (h.size, 0))), (3, .ptr (some (h1.size, 0))), (86, .bool (p0.Head == p1.Head))] H (noU_all rfl) (fun fr => by kernel_rfl) ?_
             intro fr H
             exact at_nil ⟨rfl, by first | exact H.less _ (fun fr => by rfl) | exact H.less _ (fun fr => by rw [hb]; rfl)⟩
            | false =>
             replace H := H.know 80 hb (by kernel_rfl)
             refine at_seg [(76, []), (77, []), (78, []), (79, []), (80, []), (81, [])] [(2, .ptr (some (h.size, 0))), (3, .ptr (some (h1.size, 0))), (86, .bool false)] H (noU_all rfl) (fun fr => by kernel_rfl) ?_
             intro fr H
             exact at_nil ⟨rfl, by first | exact H.less _ (fun fr => by rfl) | exact H.less _ (fun fr => by rw [hb]; rfl)⟩
           ·intro t fr h' hK
            obtain ⟨e, H⟩ := hK
            subst e
            refine at_seg [(82, [])] [(2, .ptr (some (h.size, 0))), (3, .ptr (some (h1.size, 0))), (87, .bool ((((x6 && (p0.Nth == p1.Nth)) && (p0.Strip == p1.Strip)) && (p0.Name == p1.Name)) && (p0.Head == p1.Head)))] H (noU_all rfl) (fun fr => by kernel_rfl) ?_
            intro fr H
            refine at_cut [(83, []), (84, []), (85, []), (86, []), (87, []), (88, [])] (fun fr' h' => h8 = h' ∧ Has fr' 94 [(93, .bool (((((x6 && (p0.Nth == p1.Nth)) && (p0.Strip == p1.Strip)) && (p0.Name == p1.Name)) && (p0.Head == p1.Head)) && (p0.States == p1.States)))]) ?_ ?_
            ·cases hb : ((((x6 && (p0.Nth == p1.Nth)) && (p0.Strip == p1.Strip)) && (p0.Name == p1.Name)) && (p0.Head == p1.Head) : Bool) with
             | true =>
              replace H := H.know 87 hb (by kernel_rfl)
              refine at_seg [(83, [])] [(3, .ptr (some (h1.size, 0))), (87, .bool true), (88, .ptr (some (h.size, 13)))] H (noU_all rfl) (fun fr => by kernel_rfl) ?_
              intro fr H
              refine at_step (v := .int .i64 p0.States) (h1 := h8) [(3, .ptr (some (h1.size, 0))), (87, .bool true), (89, .int .i64 p0.States)] H (fun fr => by kernel_rfl) (fun fr => .of (s_ld (by kernel_rfl) (A.ld1 1 rfl (o := 13) rfl))) ?_
              intro fr t H
              refine at_seg [(85, [])] [(87, .bool true), (89, .int .i64 p0.States), (90, .ptr (some (h1.size, 13)))] H (noU_all rfl) (fun fr => by kernel_rfl) ?_
              intro fr H
              refine at_step (v := .int .i64 p1.States) (h1 := h8) [(87, .bool true), (89, .int .i64 p0.States), (91, .int .i64 p1.States)] H (fun fr => by kernel_rfl) (fun fr => .of (s_ld (by kernel_rfl) (A.ld1 0 rfl (o := 13) rfl))) ?_
              intro fr t H
              refine at_seg [(87, []), (88, [])] [(93, .bool (p0.States == p1.States))] H (noU_all rfl) (fun fr => by kernel_rfl) ?_
              intro fr H
              exact at_nil ⟨rfl, by first | exact H.less _ (fun fr => by rfl) | exact H.less _ (fun fr => by rw [hb]; rfl)⟩
             | false =>
              replace H := H.know 87 hb (by kernel_rfl)
              refine at_seg [(83, []), (84, []), (85, []), (86, []), (87, []), (88, [])] [(93, .bool false)] H (noU_all rfl) (fun fr => by kernel_rfl) ?_
              intro fr H
              exact at_nil ⟨rfl, by first | exact H.less _ (fun fr => by rfl) | exact H.less _ (fun fr => by rw [hb]; rfl)⟩
            ·intro t fr h' hK
             obtain ⟨e, H⟩ := hK
             subst e
             refine at_seg [(89, [])] [(4, .bool (((((x6 && (p0.Nth == p1.Nth)) && (p0.Strip == p1.Strip)) && (p0.Name == p1.Name)) && (p0.Head == p1.Head)) && (p0.States == p1.States)))] H (noU_all rfl) (fun fr => by kernel_rfl) ?_
             intro fr H
             refine at_nil ?_
             show AW cfg 16 g (right (right (bodyC cfg.P 16))) fr h8 _
             refine aw_ret (by kernel_rfl) ?_
             have e1 := Option.some.inj hm
             subst e1
             refine ⟨.inl rfl, .bool (((((x6 && (p0.Nth == p1.Nth)) && (p0.Strip == p1.Strip)) && (p0.Name == p1.Name)) && (p0.Head == p1.Head)) && (p0.States == p1.States)), resH H (fun fr => by kernel_rfl), ?_⟩
             replace A : HH g h8 [] F := (HH.dropF A 0)
             exact ⟨rfl, A⟩
/-! ### boulter/boulterlaw32.OptionDefault -/
noncomputable def M_boulterlaw32_OptionDefault_L0 (p0 : List (List UInt8)) (s : (List UInt8) × Int) : Option (((List UInt8) × Int) ⊕ (((List UInt8)) ⊕ (Bool))) :=
 match s with
 | (x1, x2) => iteB (decide (x2 < (p0.length : Int))) ((ixV p0 x2).bind fun x5 => (iteB (decide ((x5.length : Int) > (60 : Int))) (some true) ((M_boulterref13_In (10 : Int) x5).bind fun x7 => some x7) : Option (Bool)).bind fun x6 => iteB x6 (some (.inr (.inr true))) (need (decide (([35] : List UInt8).length + x5.length ≤ 9223372036854775807)) <| need (decide ((([35] : List UInt8) ++ x5).length + ([10, 10] : List UInt8).length ≤ 9223372036854775807)) <| need (decide (x1.length + ((([35] : List UInt8) ++ x5) ++ ([10, 10] : List UInt8)).length ≤ 9223372036854775807)) <| some (.inl (x1 ++ ((([35] : List UInt8) ++ x5) ++ ([10, 10] : List UInt8)), IntKind.i64.wrap (x2 + (1 : Int)))))) (some (.inr (.inl x1)))
noncomputable def M_boulterlaw32_OptionDefault (p0 : List (List UInt8)) : Option (Bool) :=
 iteB (decide ((p0.length : Int) > (20 : Int))) (some true) ((loop (M_boulterlaw32_OptionDefault_L0 p0) (([] : List UInt8), (0 : Int))).bind fun o1 => (match o1 with | .inl x3 => (M_option_Parse x3).bind fun (x8, x9, x10) => iteB (x9 == (0 : Int)) ((iteB (x10 == (0 : Int)) ((M_option_Default).bind fun x12 => (M_option_Equal x8 x12).bind fun x13 => some x13) (some false) : Option (Bool)).bind fun x11 => (iteB x11 ((M_option_Default).bind fun x15 => some (x15.Name == (4096 : Int))) (some false) : Option (Bool)).bind fun x14 => (iteB x14 ((M_option_Default).bind fun x17 => some (x17.Head == (65536 : Int))) (some false) : Option (Bool)).bind fun x16 => (iteB x16 ((M_option_Default).bind fun x19 => some (x19.States == (4096 : Int))) (some false) : Option (Bool)).bind fun x18 => some (x18 || false)) (some false) | .inr x4 => some x4))
theorem ok_boulterlaw32_OptionDefault {g : Gd} {h : AHeap} {F : List Ck} {p0 : List (List UInt8)} {q0 : Bool} {av : List AVal} (hm : M_boulterlaw32_OptionDefault p0 = some q0) (hc : canL (cfg.still 7) av = [vs eS p0]) (A : HH g h [] F) : ∃ v h', Runs cfg g h 7 av v h' ∧ v = .bool q0 ∧ HH g h' [] F := by
 refine runsQ1 (n := 68) (rs := [.tmp 2]) (by kernel_rfl) hc (by kernel_rfl) ?_
 clear hc
 unfold M_boulterlaw32_OptionDefault at hm
 refine start (n := 68) [(0, vs eS p0)] (by kernel_rfl) (by kernel_rfl) ?_
 intro fr H
 refine aw_seq (by kernel_rfl) ?_
 refine aw_reg (id := 0) (n := 1) [(0, [])] (by kernel_rfl) (by kernel_rfl) ?_
 refine at_seg [(0, [])] [(0, vs eS p0)] H (noU_all rfl) (fun fr => by kernel_rfl) ?_
 intro fr H
 refine at_nil ?_
 show AW cfg 7 g (right (bodyC cfg.P 7)) fr h _
 refine aw_seq (by kernel_rfl) ?_
 refine aw_seq (by kernel_rfl) ?_
 refine aw_reg (id := 1) (n := 3) [(0, []), (1, []), (2, [])] (by kernel_rfl) (by kernel_rfl) ?_
 refine at_seg [(0, []), (1, []), (2, [])] [(0, vs eS p0), (11, .bool (decide ((p0.length : Int) > (20 : Int))))] H (noU_all rfl) (fun fr => by kernel_rfl) ?_
 intro fr H
 refine at_nil ?_
 show AW cfg 7 g (right (left (right (bodyC cfg.P 7)))) fr h _
 rcases iteB_some hm with ⟨hb, hm⟩ | ⟨hb, hm⟩
 ·replace H := H.know 11 hb (by kernel_rfl)
  refine aw_true (x := .tmp 11) (by kernel_rfl) H (fun fr => by kernel_rfl) ?_
  refine aw_seq (by kernel_rfl) ?_
  refine aw_reg (id := 2) (n := 2) [(0, []), (1, [])] (by kernel_rfl) (by kernel_rfl) ?_
  refine at_step (v := .bool true) (h1 := h) [(12, .bool true)] H (fun fr => by kernel_rfl) (fun fr => Steps.call (by kernel_rfl) (runsTrue (C := cfg) (f := 17) (by kernel_rfl) (l := exts) rfl (by kernel_rfl))) ?_
  intro fr t H
  refine at_seg [(1, [])] [(2, .bool true)] H (noU_all rfl) (fun fr => by kernel_rfl) ?_
  intro fr H
  refine at_nil ?_
  show AW cfg 7 g (right (left (right (left (right (bodyC cfg.P 7)))))) fr h _
  refine aw_ret (by kernel_rfl) ?_
  have e1 := Option.some.inj hm
  subst e1
  refine ⟨.inl rfl, .bool true, resH H (fun fr => by kernel_rfl), ?_⟩
  exact ⟨rfl, A⟩
 ·replace H := H.know 11 hb (by kernel_rfl)
  refine aw_false (x := .tmp 11) (by kernel_rfl) H (fun fr => by kernel_rfl) ?_
  refine aw_skip (by kernel_rfl) ?_
  show AW cfg 7 g (right (right (bodyC cfg.P 7))) fr h _
  refine aw_seq (by kernel_rfl) ?_
  refine aw_reg (id := 3) (n := 1) [(0, [])] (by kernel_rfl) (by kernel_rfl) ?_
  refine at_seg [(0, [])] [(0, vs eS p0), (3, .str ([] : List UInt8))] H (noU_all rfl) (fun fr => by kernel_rfl) ?_
  intro fr H
  refine at_nil ?_
  show AW cfg 7 g (right (right (right (bodyC cfg.P 7)))) fr h _
  refine aw_seq (by kernel_rfl) ?_
  refine aw_seq (by kernel_rfl) ?_
  refine aw_reg (id := 4) (n := 3) [(0, []), (1, []), (2, [])] (by kernel_rfl) (by kernel_rfl) ?_
  refine at_seg [(0, []), (1, []), (2, [])] [(3, .str ([] : List UInt8)), (13, vs eS p0), (14, .int .i64 (p0.length : Int)), (15, .int .i64 (0 : Int))] H (noU_all rfl) (fun fr => by kernel_rfl) ?_
  intro fr H
  refine at_nil ?_
  show AW cfg 7 g (right (left (right (right (right (bodyC cfg.P 7)))))) fr h _
  refine aw_block (id := 0) (by kernel_rfl) ?_
  obtain ⟨o1, ho, hm⟩ := bind_some hm
  refine aw_mono (Q' := fun e fr' h' => (∃ (x3 : List UInt8), e = .exit 0 ∧ .inl x3 = o1 ∧ Has fr' 68 [(3, .str x3)] ∧ HH g h' [] F) ∨ (∃ (x4 : Bool), e = .ret ∧ .inr x4 = o1 ∧ Has fr' 68 [(2, .bool x4)] ∧ HH g h' [] F) ∨ False) ?_ ?_
  ·refine aw_loop (by kernel_rfl) (fun (s : (List UInt8) × Int) fr' h' => ∃ (x1 : List UInt8) (x2 : Int), (x1, x2) = s ∧ Has fr' 68 [(3, .str x1), (13, vs eS p0), (14, .int .i64 (p0.length : Int)), (15, .int .i64 x2)] ∧ HH g h' [] F) ho ⟨([] : List UInt8), (0 : Int), rfl, H.less _ (fun fr => by kernel_rfl), A⟩ ?_
   clear ho hm H A
   intro s q fr h1 hI hm
   obtain ⟨x1, x2, rfl, H, A⟩ := hI
   unfold M_boulterlaw32_OptionDefault_L0 at hm
   refine aw_seq (by kernel_rfl) ?_
   refine aw_reg (id := 5) (n := 1) [(0, [])] (by kernel_rfl) (by kernel_rfl) ?_
   refine at_seg [(0, [])] [(3, .str x1), (13, vs eS p0), (14, .int .i64 (p0.length : Int)), (15, .int .i64 x2), (16, .bool (decide (x2 < (p0.length : Int))))] H (noU_all rfl) (fun fr => by kernel_rfl) ?_
   intro fr H
   refine at_nil ?_
   show AW cfg 7 g (right (left (left (right (left (right (right (right (bodyC cfg.P 7))))))))) fr h1 _
   refine aw_seq (by kernel_rfl) ?_
   rcases iteB_some hm with ⟨hb, hm⟩ | ⟨hb, hm⟩
   ·replace H := H.know 16 hb (by kernel_rfl)
    refine aw_true (x := .tmp 16) (by kernel_rfl) H (fun fr => by kernel_rfl) ?_
    refine aw_skip (by kernel_rfl) ?_
    show AW cfg 7 g (right (right (left (left (right (left (right (right (right (bodyC cfg.P 7)))))))))) fr h1 _
    refine aw_seq (by kernel_rfl) ?_
    refine aw_block (id := 1) (by kernel_rfl) ?_
    refine aw_seq (by kernel_rfl) ?_
    refine aw_reg (id := 6) (n := 3) [(0, []), (1, []), (2, [])] (by kernel_rfl) (by kernel_rfl) ?_
    obtain ⟨x5, hx, hm⟩ := bind_some hm
    refine at_step (v := .vptr [.str x5]) (h1 := h1) [(3, .str x1), (13, vs eS p0), (14, .int .i64 (p0.length : Int)), (15, .int .i64 x2), (17, .vptr [.str x5])] H (fun fr => by kernel_rfl) (fun fr => .of (s_ixV (e := eS) (x := x5) encS (by decide) (by kernel_rfl) hx)) ?_
    intro fr t H
    refine at_step (v := .str x5) (h1 := h1) [(3, .str x1), (13, vs eS p0), (14, .int .i64 (p0.length : Int)), (15, .int .i64 x2), (18, .str x5)] H (fun fr => by kernel_rfl) (fun fr => .of (s_lv (by kernel_rfl))) ?_
    intro fr t H
    refine at_seg [(2, [])] [(3, .str x1), (5, .str x5), (13, vs eS p0), (14, .int .i64 (p0.length : Int)), (15, .int .i64 x2)] H (noU_all rfl) (fun fr => by kernel_rfl) ?_
    intro fr H
    refine at_nil ?_
    show AW cfg 7 g (right (left (left (right (right (left (left (right (left (right (right (right (bodyC cfg.P 7))))))))))))) fr h1 _
    refine aw_seq (by kernel_rfl) ?_
    refine aw_seq (by kernel_rfl) ?_
    refine aw_reg (id := 7) (n := 7) [(0, []), (1, []), (2, []), (3, []), (4, []), (5, []), (6, [])] (by kernel_rfl) (by kernel_rfl) ?_
    refine at_seg [(0, []), (1, []), (2, []), (3, [])] [(3, .str x1), (5, .str x5), (13, vs eS p0), (14, .int .i64 (p0.length : Int)), (15, .int .i64 x2), (22, .bool (decide ((x5.length : Int) > (60 : Int))))] H (noU_all rfl) (fun fr => by kernel_rfl) ?_
    intro fr H
    obtain ⟨x6, ho, hm⟩ := bind_some hm
    refine at_cut [(4, []), (5, []), (6, [])] (fun fr' h' => Has fr' 68 [(3, .str x1), (5, .str x5), (13, vs eS p0), (14, .int .i64 (p0.length : Int)), (15, .int .i64 x2), (25, .bool x6)] ∧ HH g h' [] F) ?_ ?_
    ·rcases iteB_some ho with ⟨hb, hm⟩ | ⟨hb, hm⟩
     ·replace H := H.know 22 hb (by kernel_rfl)
      refine at_seg [(4, []), (5, []), (6, [])] [(3, .str x1), (5, .str x5), (13, vs eS p0), (14, .int .i64 (p0.length : Int)), (15, .int .i64 x2), (25, .bool true)] H (noU_all rfl) (fun fr => by kernel_rfl) ?_
      intro fr H
      have e1 := Option.some.inj hm
      subst e1
      exact at_nil ⟨H.less _ (fun fr => by kernel_rfl), A⟩
     ·replace H := H.know 22 hb (by kernel_rfl)
      refine at_seg [(4, [])] [(3, .str x1), (5, .str x5), (13, vs eS p0), (14, .int .i64 (p0.length : Int)), (15, .int .i64 x2), (22, .bool false), (23, .str x5)] H (noU_all rfl) (fun fr => by kernel_rfl) ?_
      intro fr H
      have A1 := A.cut 0
      obtain ⟨x7, hx, hm⟩ := bind_some hm
      obtain ⟨v1, h3, hr, rfl, A1⟩ := ok_boulterref13_In (av := [.int .u8 (10 : Int), .str x5]) hx (by kernel_rfl) A1
      replace A : HH g h3 [] F := A.glue0 (n := 0) A1
      refine at_step (v := .bool x7) (h1 := h3) [(3, .str x1), (5, .str x5), (13, vs eS p0), (14, .int .i64 (p0.length : Int)), (15, .int .i64 x2), (22, .bool false), (24, .bool x7)] H (fun fr => by kernel_rfl) (fun fr => Steps.call (by kernel_rfl) hr) ?_
      intro fr t H
      refine at_seg [(6, [])] [(3, .str x1), (5, .str x5), (13, vs eS p0), (14, .int .i64 (p0.length : Int)), (15, .int .i64 x2), (25, .bool x7)] H (noU_all rfl) (fun fr => by kernel_rfl) ?_
      intro fr H
      have e1 := Option.some.inj hm
      subst e1
      exact at_nil ⟨H.less _ (fun fr => by kernel_rfl), A⟩
    ·clear A
     intro t fr h2 hK
     obtain ⟨H, A⟩ := hK
     refine at_nil ?_
     show AW cfg 7 g (right (left (right (left (left (right (right (left (left (right (left (right (right (right (bodyC cfg.P 7))))))))))))))) fr h2 _
     rcases iteB_some hm with ⟨hb, hm⟩ | ⟨hb, hm⟩
     ·replace H := H.know 25 hb (by kernel_rfl)
      refine aw_true (x := .tmp 25) (by kernel_rfl) H (fun fr => by kernel_rfl) ?_
      refine aw_seq (by kernel_rfl) ?_
      refine aw_reg (id := 8) (n := 2) [(0, []), (1, [])] (by kernel_rfl) (by kernel_rfl) ?_
      refine at_step (v := .bool true) (h1 := h2) [(26, .bool true)] H (fun fr => by kernel_rfl) (fun fr => Steps.call (by kernel_rfl) (runsTrue (C := cfg) (f := 17) (by kernel_rfl) (l := exts) rfl (by kernel_rfl))) ?_
      intro fr t H
      refine at_seg [(1, [])] [(2, .bool true)] H (noU_all rfl) (fun fr => by kernel_rfl) ?_
      intro fr H
      refine at_nil ?_
      show AW cfg 7 g (right (left (right (left (right (left (left (right (right (left (left (right (left (right (right (right (bodyC cfg.P 7))))))))))))))))) fr h2 _
      refine aw_ret (by kernel_rfl) ?_
      exact Exists.intro _ (And.intro (Option.some.inj hm).symm (fun e => Or.inr (Or.inl ⟨true, rfl, e, H.less _ (fun fr => by kernel_rfl), A⟩)))
     ·replace H := H.know 25 hb (by kernel_rfl)
      refine aw_false (x := .tmp 25) (by kernel_rfl) H (fun fr => by kernel_rfl) ?_
      refine aw_skip (by kernel_rfl) ?_
      show AW cfg 7 g (right (right (left (left (right (right (left (left (right (left (right (right (right (bodyC cfg.P 7)))))))))))))) fr h2 _
      refine aw_reg (id := 9) (n := 6) [(0, []), (1, []), (2, []), (3, []), (4, []), (5, [])] (by kernel_rfl) (by kernel_rfl) ?_
      refine at_seg [(0, []), (1, [])] [(13, vs eS p0), (14, .int .i64 (p0.length : Int)), (15, .int .i64 x2), (27, .str x1), (28, .str x5)] H (noU_all rfl) (fun fr => by kernel_rfl) ?_
      intro fr H
      obtain ⟨hb, hm⟩ := need_some hm
      refine at_step (v := .str (([35] : List UInt8) ++ x5)) (h1 := h2) [(13, vs eS p0), (14, .int .i64 (p0.length : Int)), (15, .int .i64 x2), (27, .str x1), (29, .str (([35] : List UInt8) ++ x5))] H (fun fr => by kernel_rfl) (fun fr => .of (s_cat (by kernel_rfl) hb)) ?_
      intro fr t H
      obtain ⟨hb, hm⟩ := need_some hm
      refine at_step (v := .str ((([35] : List UInt8) ++ x5) ++ ([10, 10] : List UInt8))) (h1 := h2) [(13, vs eS p0), (14, .int .i64 (p0.length : Int)), (15, .int .i64 x2), (27, .str x1), (30, .str ((([35] : List UInt8) ++ x5) ++ ([10, 10] : List UInt8)))] H (fun fr => by kernel_rfl) (fun fr => .of (s_cat (by kernel_rfl) hb)) ?_
      intro fr t H
      obtain ⟨hb, hm⟩ := need_some hm
      refine at_step (v := .str (x1 ++ ((([35] : List UInt8) ++ x5) ++ ([10, 10] : List UInt8)))) (h1 := h2) [(13, vs eS p0), (14, .int .i64 (p0.length : Int)), (15, .int .i64 x2), (31, .str (x1 ++ ((([35] : List UInt8) ++ x5) ++ ([10, 10] : List UInt8))))] H (fun fr => by kernel_rfl) (fun fr => .of (s_cat (by kernel_rfl) hb)) ?_
      intro fr t H
      refine at_seg [(5, [])] [(3, .str (x1 ++ ((([35] : List UInt8) ++ x5) ++ ([10, 10] : List UInt8)))), (13, vs eS p0), (14, .int .i64 (p0.length : Int)), (15, .int .i64 x2)] H (noU_all rfl) (fun fr => by kernel_rfl) ?_
      intro fr H
      refine at_nil ?_
      show AW cfg 7 g (right (right (right (left (left (right (left (right (right (right (bodyC cfg.P 7))))))))))) fr h2 _
      refine aw_reg (id := 10) (n := 2) [(0, []), (1, [])] (by kernel_rfl) (by kernel_rfl) ?_
      refine at_seg [(0, []), (1, [])] [(3, .str (x1 ++ ((([35] : List UInt8) ++ x5) ++ ([10, 10] : List UInt8)))), (13, vs eS p0), (14, .int .i64 (p0.length : Int)), (15, .int .i64 (IntKind.i64.wrap (x2 + (1 : Int))))] H (noU_all rfl) (fun fr => by kernel_rfl) ?_
      intro fr H
      refine at_nil ?_
      exact Exists.intro (x1 ++ ((([35] : List UInt8) ++ x5) ++ ([10, 10] : List UInt8)), IntKind.i64.wrap (x2 + (1 : Int))) (And.intro (Option.some.inj hm).symm ⟨x1 ++ ((([35] : List UInt8) ++ x5) ++ ([10, 10] : List UInt8)), IntKind.i64.wrap (x2 + (1 : Int)), rfl, H.less _ (fun fr => by kernel_rfl), A⟩)
   ·replace H := H.know 16 hb (by kernel_rfl)
    refine aw_false (x := .tmp 16) (by kernel_rfl) H (fun fr => by kernel_rfl) ?_
    refine aw_exit (i := 0) (by kernel_rfl) ?_
    exact Exists.intro _ (And.intro (Option.some.inj hm).symm (fun e => Or.inl ⟨x1, rfl, e, H.less _ (fun fr => by kernel_rfl), A⟩))
  ·clear ho
   clear A
   intro e fr h4 hQ
   rcases hQ with ⟨x3, rfl, rfl, H, A⟩ | ⟨x4, rfl, rfl, H, A⟩ | hF
   ·skip
    show AW cfg 7 g (right (right (right (right (bodyC cfg.P 7))))) fr h4 _
    refine aw_seq (by kernel_rfl) ?_
    refine aw_reg (id := 11) (n := 10) [(0, []), (1, []), (2, []), (3, []), (4, []), (5, []), (6, []), (7, []), (8, []), (9, [])] (by kernel_rfl) (by kernel_rfl) ?_
    refine at_seg [(0, [])] [(34, .str x3)] H (noU_all rfl) (fun fr => by kernel_rfl) ?_
    intro fr H
    have A1 := A.cut 0
    obtain ⟨⟨x8, x9, x10⟩, hx, hm⟩ := bind_some hm
    obtain ⟨v1, h5, hr, rfl, A1⟩ := ok_option_Parse (av := [.str x3]) hx (by kernel_rfl) A1
    replace A : HH g h5 [] F := A.glue0 (n := 0) A1
    refine at_step (v := .tuple [.agg (e_S_option_Config x8), .int .i64 x9, .int .i64 x10]) (h1 := h5) [(35, .tuple [.agg (e_S_option_Config x8), .int .i64 x9, .int .i64 x10])] H (fun fr => by kernel_rfl) (fun fr => Steps.call (by kernel_rfl) hr) ?_
    intro fr t H
    refine at_seg [(2, []), (3, []), (4, []), (5, [])] [(36, .agg (e_S_option_Config x8)), (37, .int .i64 x9), (38, .int .i64 x10)] H (noU_all rfl) (fun fr => by kernel_rfl) ?_
    intro fr H
    obtain ⟨h6, e1⟩ : ∃ x, x = h5.push (.cells none 2 [.slice none 0, .slice none 0, .slice none 0, .bool false, .bool false, .int .i64 (0 : Int), .bool false, .int .i64 (0 : Int), .int .i64 (0 : Int), .int .i64 (0 : Int), .int .i64 (0 : Int), .int .i64 (0 : Int), .int .i64 (0 : Int), .int .i64 (0 : Int)]) := ⟨_, rfl⟩
    replace A := (A.push _).to e1
    refine at_step (v := .ptr (some (h5.size, 0))) (h1 := h6) [(6, .ptr (some (h5.size, 0))), (36, .agg (e_S_option_Config x8)), (37, .int .i64 x9), (38, .int .i64 x10)] H (fun fr => by kernel_rfl) (fun fr => .of (s_n' (by kernel_rfl) (congrArg some e1.symm))) ?_
    intro fr t H
    obtain ⟨h7, hx, A1⟩ := A.st 0 rfl (o := 0) (new := [vs e_S_pattern_Rule x8.Includes, vs e_S_pattern_Rule x8.Excludes, vs e_S_rewrite_Expr x8.Exprs, .bool x8.Vcs, .bool x8.Backups, .int .i64 x8.Caches, .bool x8.Dated, .int .i64 x8.Newer.Sec, .int .i64 x8.Newer.Nsec, .int .i64 x8.Nth, .int .i64 x8.Strip, .int .i64 x8.Name, .int .i64 x8.Head, .int .i64 x8.States]) (ds := [vs e_S_pattern_Rule x8.Includes, vs e_S_pattern_Rule x8.Excludes, vs e_S_rewrite_Expr x8.Exprs, .bool x8.Vcs, .bool x8.Backups, .int .i64 x8.Caches, .bool x8.Dated, .int .i64 x8.Newer.Sec, .int .i64 x8.Newer.Nsec, .int .i64 x8.Nth, .int .i64 x8.Strip, .int .i64 x8.Name, .int .i64 x8.Head, .int .i64 x8.States]) (Nat.le_of_ble_eq_true rfl) rfl rfl
    replace A : HH g h7 [.obj h5.size (.cells none 2 (e_S_option_Config x8))] F := A1
    refine at_step (v := .tuple []) (h1 := h7) [(6, .ptr (some (h5.size, 0))), (37, .int .i64 x9), (38, .int .i64 x10)] H (fun fr => by kernel_rfl) (fun fr => .of (s_stG (by kernel_rfl) (stG_st hx rfl))) ?_
    intro fr t H
    refine at_seg [(8, []), (9, [])] [(6, .ptr (some (h5.size, 0))), (7, .int .i64 x9), (8, .int .i64 x10)] H (noU_all rfl) (fun fr => by kernel_rfl) ?_
    intro fr H
    refine at_nil ?_
    show AW cfg 7 g (right (right (right (right (right (bodyC cfg.P 7)))))) fr h7 _
    refine aw_seq (by kernel_rfl) ?_
    refine aw_draw (id := 12) (n := 30) (by kernel_rfl) [(0, []), (1, []), (2, []), (3, []), (4, []), (5, []), (6, []), (7, []), (8, [7]), (9, []), (10, []), (11, []), (12, []), (13, []), (14, []), (15, []), (16, []), (17, []), (18, []), (19, []), (20, []), (21, []), (22, []), (23, []), (24, []), (25, []), (26, []), (27, []), (28, []), (29, [])] (by kernel_rfl) ?_
    refine at_seg [(0, []), (1, []), (2, [])] [(6, .ptr (some (h5.size, 0))), (8, .int .i64 x10), (41, .bool (x9 == (0 : Int)))] H (noU_all rfl) (fun fr => by kernel_rfl) ?_
    intro fr H
    rcases iteB_some hm with ⟨hb, hm⟩ | ⟨hb, hm⟩
    ·replace H := H.know 41 hb (by kernel_rfl)
     refine at_seg [(3, []), (4, []), (5, []), (6, [])] [(6, .ptr (some (h5.size, 0))), (45, .bool (x10 == (0 : Int)))] H (noU_all rfl) (fun fr => by kernel_rfl) ?_
     intro fr H
     obtain ⟨x11, ho, hm⟩ := bind_some hm
     refine at_cut [(7, []), (8, [7]), (9, []), (10, [])] (fun fr' h' => Has fr' 68 [(49, .bool x11)] ∧ HH g h' [.obj h5.size (.cells none 2 (e_S_option_Config x8))] F) ?_ ?_
     ·rcases iteB_some ho with ⟨hb, hm⟩ | ⟨hb, hm⟩
      ·replace H := H.know 45 hb (by kernel_rfl)
       refine at_stepT (v := .agg (e_S_option_Config x8)) (h1 := h7) (tch' := [(7, h5.size)]) (g.prot) [(45, .bool true), (46, .agg (e_S_option_Config x8))] H (fun fr => by kernel_rfl) (by kernel_rfl) (fun fr => by kernel_rfl) (fun fr => .of (s_ldA (by kernel_rfl) (A.ldA 0 rfl (o := 0) (n := 14) ⟨Nat.le_of_ble_eq_true rfl, rfl⟩))) (fun fr => by kernel_rfl) ?_
       intro fr H
       have A1 := A.prot2 0 (pr := [h5.size]) (.cons 0 rfl (by simp [Ck.ids]) .nil)
       obtain ⟨x12, hx, hm⟩ := bind_some hm
       obtain ⟨v1, h9, hr, rfl, A1⟩ := ok_option_Default (av := []) hx (by kernel_rfl) A1
       replace A : HH g h9 [.obj h5.size (.cells none 2 (e_S_option_Config x8))] F := A.glueP (n := 0) A1
       refine at_stepT (v := .agg (e_S_option_Config x12)) (h1 := h9) (tch' := [(7, h5.size)]) (h5.size :: g.prot) [(45, .bool true), (46, .agg (e_S_option_Config x8)), (47, .agg (e_S_option_Config x12))] H (fun fr => by kernel_rfl) (by kernel_rfl) (fun fr => by kernel_rfl) (fun fr => Steps.call (by kernel_rfl) hr) (fun fr => by kernel_rfl) ?_
       intro fr H
       have A1 := A.cut 0
       obtain ⟨x13, hx, hm⟩ := bind_some hm
       obtain ⟨v1, h10, hr, rfl, A1⟩ := ok_option_Equal (av := [.agg (e_S_option_Config x8), .agg (e_S_option_Config x12)]) hx (by kernel_rfl) A1
       replace A : HH g h10 [.obj h5.size (.cells none 2 (e_S_option_Config x8))] F := A.glue0 (n := 0) A1
       refine at_stepT (v := .bool x13) (h1 := h10) (tch' := [(7, h5.size)]) (g.prot) [(45, .bool true), (48, .bool x13)] H (fun fr => by kernel_rfl) (by kernel_rfl) (fun fr => by kernel_rfl) (fun fr => Steps.call (by kernel_rfl) hr) (fun fr => by kernel_rfl) ?_
       intro fr H
       refine at_seg [(10, [])] [(49, .bool x13)] H (noU_all rfl) (fun fr => by kernel_rfl) ?_
       intro fr H
       have e1 := Option.some.inj hm
       subst e1
       exact at_nil ⟨H.less _ (fun fr => by kernel_rfl), A⟩
      ·replace H := H.know 45 hb (by kernel_rfl)
       refine at_seg [(7, [])] [(45, .bool false), (46, .tuple [])] H (noU_all rfl) (fun fr => by kernel_rfl) ?_
       intro fr H
       refine at_skip [(45, .bool false), (46, .tuple []), (47, .tuple [])] H (fun fr => by kernel_rfl) ?_
       intro fr H
       refine at_seg [(9, []), (10, [])] [(49, .bool false)] H (noU_all rfl) (fun fr => by kernel_rfl) ?_
       intro fr H
       have e1 := Option.some.inj hm
       subst e1
       exact at_nil ⟨H.less _ (fun fr => by kernel_rfl), A⟩
     ·clear A
      intro t fr h8 hK
      obtain ⟨H, A⟩ := hK
      refine at_seg [(11, [])] [(50, .bool x11)] H (noU_all rfl) (fun fr => by kernel_rfl) ?_
      intro fr H
      obtain ⟨x14, ho, hm⟩ := bind_some hm
      refine at_cut [(12, []), (13, []), (14, []), (15, [])] (fun fr' h' => Has fr' 68 [(54, .bool x14)] ∧ HH g h' [.obj h5.size (.cells none 2 (e_S_option_Config x8))] F) ?_ ?_
      ·rcases iteB_some ho with ⟨hb, hm⟩ | ⟨hb, hm⟩
       ·replace H := H.know 50 hb (by kernel_rfl)
        have A1 := A.cut 0
        obtain ⟨x15, hx, hm⟩ := bind_some hm
        obtain ⟨v1, h12, hr, rfl, A1⟩ := ok_option_Default (av := []) hx (by kernel_rfl) A1
        replace A : HH g h12 [.obj h5.size (.cells none 2 (e_S_option_Config x8))] F := A.glue0 (n := 0) A1
        refine at_step (v := .agg (e_S_option_Config x15)) (h1 := h12) [(50, .bool true), (51, .agg (e_S_option_Config x15))] H (fun fr => by kernel_rfl) (fun fr => Steps.call (by kernel_rfl) hr) ?_
        intro fr t H
        refine at_seg [(13, []), (14, []), (15, [])] [(54, .bool (x15.Name == (4096 : Int)))] H (noU_all rfl) (fun fr => by kernel_rfl) ?_
        intro fr H
        have e1 := Option.some.inj hm
        subst e1
        exact at_nil ⟨H.less _ (fun fr => by kernel_rfl), A⟩
       ·replace H := H.know 50 hb (by kernel_rfl)
        refine at_seg [(12, []), (13, []), (14, []), (15, [])] [(54, .bool false)] H (noU_all rfl) (fun fr => by kernel_rfl) ?_
        intro fr H
        have e1 := Option.some.inj hm
        subst e1
        exact at_nil ⟨H.less _ (fun fr => by kernel_rfl), A⟩
      ·clear A
       intro t fr h11 hK
       obtain ⟨H, A⟩ := hK
       refine at_seg [(16, [])] [(55, .bool x14)] H (noU_all rfl) (fun fr => by kernel_rfl) ?_
       intro fr H
       obtain ⟨x16, ho, hm⟩ := bind_some hm
       refine at_cut [(17, []), (18, []), (19, []), (20, [])] (fun fr' h' => Has fr' 68 [(59, .bool x16)] ∧ HH g h' [.obj h5.size (.cells none 2 (e_S_option_Config x8))] F) ?_ ?_
       ·rcases iteB_some ho with ⟨hb, hm⟩ | ⟨hb, hm⟩
        ·replace H := H.know 55 hb (by kernel_rfl)
         have A1 := A.cut 0
         obtain ⟨x17, hx, hm⟩ := bind_some hm
         obtain ⟨v1, h14, hr, rfl, A1⟩ := ok_option_Default (av := []) hx (by kernel_rfl) A1
         replace A : HH g h14 [.obj h5.size (.cells none 2 (e_S_option_Config x8))] F := A.glue0 (n := 0) A1
         refine at_step (v := .agg (e_S_option_Config x17)) (h1 := h14) [(55, .bool true), (56, .agg (e_S_option_Config x17))] H (fun fr => by kernel_rfl) (fun fr => Steps.call (by kernel_rfl) hr) ?_
         intro fr t H
         refine at_seg [(18, []), (19, []), (20, [])] [(59, .bool (x17.Head == (65536 : Int)))] H (noU_all rfl) (fun fr => by kernel_rfl) ?_
         intro fr H
         have e1 := Option.some.inj hm
         subst e1
         exact at_nil ⟨H.less _ (fun fr => by kernel_rfl), A⟩
        ·replace H := H.know 55 hb (by kernel_rfl)
         refine at_seg [(17, []), (18, []), (19, []), (20, [])] [(59, .bool false)] H (noU_all rfl) (fun fr => by kernel_rfl) ?_
         intro fr H
         have e1 := Option.some.inj hm
         subst e1
         exact at_nil ⟨H.less _ (fun fr => by kernel_rfl), A⟩
       ·clear A
        intro t fr h13 hK
        obtain ⟨H, A⟩ := hK
        refine at_seg [(21, [])] [(60, .bool x16)] H (noU_all rfl) (fun fr => by kernel_rfl) ?_
        intro fr H
        obtain ⟨x18, ho, hm⟩ := bind_some hm
        refine at_cut [(22, []), (23, []), (24, []), (25, [])] (fun fr' h' => Has fr' 68 [(64, .bool x18)] ∧ HH g h' [.obj h5.size (.cells none 2 (e_S_option_Config x8))] F) ?_ ?_
        ·rcases iteB_some ho with ⟨hb, hm⟩ | ⟨hb, hm⟩
         ·replace H := H.know 60 hb (by kernel_rfl)
          have A1 := A.cut 0
          obtain ⟨x19, hx, hm⟩ := bind_some hm
          obtain ⟨v1, h16, hr, rfl, A1⟩ := ok_option_Default (av := []) hx (by kernel_rfl) A1
          replace A : HH g h16 [.obj h5.size (.cells none 2 (e_S_option_Config x8))] F := A.glue0 (n := 0) A1
          refine at_step (v := .agg (e_S_option_Config x19)) (h1 := h16) [(60, .bool true), (61, .agg (e_S_option_Config x19))] H (fun fr => by kernel_rfl) (fun fr => Steps.call (by kernel_rfl) hr) ?_
          intro fr t H
          refine at_seg [(23, []), (24, []), (25, [])] [(64, .bool (x19.States == (4096 : Int)))] H (noU_all rfl) (fun fr => by kernel_rfl) ?_
          intro fr H
          have e1 := Option.some.inj hm
          subst e1
          exact at_nil ⟨H.less _ (fun fr => by kernel_rfl), A⟩
         ·replace H := H.know 60 hb (by kernel_rfl)
          refine at_seg [(22, []), (23, []), (24, []), (25, [])] [(64, .bool false)] H (noU_all rfl) (fun fr => by kernel_rfl) ?_
          intro fr H
          have e1 := Option.some.inj hm
          subst e1
          exact at_nil ⟨H.less _ (fun fr => by kernel_rfl), A⟩
        ·clear A
         intro t fr h15 hK
         obtain ⟨H, A⟩ := hK
         refine at_seg [(26, [])] [(65, .bool x18)] H (noU_all rfl) (fun fr => by kernel_rfl) ?_
         intro fr H
         refine at_cut [(27, []), (28, [])] (fun fr' h' => h15 = h' ∧ Has fr' 68 [(67, .bool (x18 || false))]) ?_ ?_
         ·cases hb : (x18 : Bool) with
          | true =>
           replace H := H.know 65 hb (by kernel_rfl)
           refine at_step (v := .bool true) (h1 := h15) [(65, .bool true), (66, .bool true)] H (fun fr => by kernel_rfl) (fun fr => Steps.call (by kernel_rfl) (runsTrue (C := cfg) (f := 17) (by kernel_rfl) (l := exts) rfl (by kernel_rfl))) ?_
           intro fr t H
           refine at_seg [(28, [])] [(67, .bool true)] H (noU_all rfl) (fun fr => by kernel_rfl) ?_
           intro fr H
           exact at_nil ⟨rfl, by first | exact H.less _ (fun fr => by rfl) | exact H.less _ (fun fr => by rw [hb]; rfl)⟩
          | false =>
           replace H := H.know 65 hb (by kernel_rfl)
           refine at_seg [(27, []), (28, [])] [(67, .bool false)] H (noU_all rfl) (fun fr => by kernel_rfl) ?_
           intro fr H
           exact at_nil ⟨rfl, by first | exact H.less _ (fun fr => by rfl) | exact H.less _ (fun fr => by rw [hb]; rfl)⟩
         ·intro t fr h' hK
          obtain ⟨e, H⟩ := hK
          subst e
          refine at_seg [(29, [])] [(2, .bool (x18 || false))] H (noU_all rfl) (fun fr => by kernel_rfl) ?_
          intro fr H
          refine at_nil ?_
          show AW cfg 7 g (right (right (right (right (right (right (bodyC cfg.P 7))))))) fr h15 _
          refine aw_ret (by kernel_rfl) ?_
          have e1 := Option.some.inj hm
          subst e1
          refine ⟨.inl rfl, .bool (x18 || false), resH H (fun fr => by kernel_rfl), ?_⟩
          replace A : HH g h15 [] F := (HH.dropF A 0)
          exact ⟨rfl, A⟩
    ·replace H := H.know 41 hb (by kernel_rfl)
     refine at_seg [(3, []), (4, []), (5, []), (6, []), (7, [])] [(45, .bool false), (46, .tuple [])] H (noU_all rfl) (fun fr => by kernel_rfl) ?_
     intro fr H
     refine at_skip [(45, .bool false), (46, .tuple []), (47, .tuple [])] H (fun fr => by kernel_rfl) ?_
     intro fr H
     refine at_seg [(9, []), (10, []), (11, []), (12, []), (13, []), (14, []), (15, []), (16, []), (17, []), (18, []), (19, []), (20, []), (21, []), (22, []), (23, []), (24, []), (25, []), (26, []), (27, []), (28, []), (29, [])] [(2, .bool false)] H (noU_all rfl) (fun fr => by kernel_rfl) ?_
     intro fr H
     refine at_nil ?_
     show AW cfg 7 g (right (right (right (right (right (right (bodyC cfg.P 7))))))) fr h7 _
     refine aw_ret (by kernel_rfl) ?_
     have e1 := Option.some.inj hm
     subst e1
     refine ⟨.inl rfl, .bool false, resH H (fun fr => by kernel_rfl), ?_⟩
     replace A : HH g h7 [] F := (HH.dropF A 0)
     exact ⟨rfl, A⟩
   ·skip
    have e1 := Option.some.inj hm
    subst e1
    refine ⟨.inl rfl, .bool x4, resH H (fun fr => by kernel_rfl), ?_⟩
    exact ⟨rfl, A⟩
   ·exact hF.elim
end Go.Av.L
