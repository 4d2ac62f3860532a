/-
 Models of functions, and that the abstract run tells them. Written by lift2.py.
-/
import Derived.Test.YtkdlmohhklimjaaGreatDoorKCfg
import Derived.Test.YtkdlmohhklimjaaGreatDoorK2
import Derived.Test.YtkdlmohhklimjaaGreatDoorK4
namespace Go.Av.L
open Go.Av Go.Lib
set_option maxRecDepth 10000
set_option linter.unusedVariables false
set_option linter.unusedSimpArgs false
/-! ### boulter/option.Equal -/
noncomputable def M_option_Equal (p0 : S_option_Config) (p1 : S_option_Config) : Option (Bool) :=
 (M_slices_Equal_boulter_pattern_Rule_boulter_pattern_Rule p0.Includes p1.Includes).bind fun x1 => (iteB x1 ((M_slices_Equal_boulter_pattern_Rule_boulter_pattern_Rule p0.Excludes p1.Excludes).bind fun x3 => some x3) (some false) : Option (Bool)).bind fun x2 => (iteB x2 ((M_slices_Equal_boulter_rewrite_Expr_boulter_rewrite_Expr p0.Exprs p1.Exprs).bind fun x5 => some x5) (some false) : Option (Bool)).bind fun x4 => (iteB ((((x4 && (p0.Vcs == p1.Vcs)) && (p0.Backups == p1.Backups)) && (p0.Caches == p1.Caches)) && (p0.Dated == p1.Dated)) ((eqG cfg.P 41 [.int .i64 p0.Newer.Sec, .int .i64 p0.Newer.Nsec] [.int .i64 p1.Newer.Sec, .int .i64 p1.Newer.Nsec]).bind fun x7 => some x7) (some false) : Option (Bool)).bind fun x6 => some (((((x6 && (p0.Nth == p1.Nth)) && (p0.Strip == p1.Strip)) && (p0.Name == p1.Name)) && (p0.Head == p1.Head)) && (p0.States == p1.States))
theorem ok_option_Equal {g : Gd} {h : AHeap} {F : List Ck} {p0 : S_option_Config} {p1 : S_option_Config} {q0 : Bool} {av : List AVal} (hm : M_option_Equal p0 p1 = some q0) (hc : canL (cfg.still 16) av = [.agg (e_S_option_Config p0), .agg (e_S_option_Config p1)]) (A : HH g h [] F) : ∃ v h', Runs cfg g h 16 av v h' ∧ v = .bool q0 ∧ HH g h' [] F := by
 refine runsQ1 (n := 94) (rs := [.tmp 4]) (by kernel_rfl) hc (by kernel_rfl) ?_
 clear hc
 unfold M_option_Equal at hm
 refine start (n := 94) [(0, .agg (e_S_option_Config p0)), (1, .agg (e_S_option_Config p1))] (by kernel_rfl) (by kernel_rfl) ?_
 intro fr H
 refine aw_seq (by kernel_rfl) ?_
 refine aw_reg (id := 0) (n := 3) [(0, []), (1, []), (2, [])] (by kernel_rfl) (by kernel_rfl) ?_
 obtain ⟨h1, e1⟩ : ∃ x, x = h.push (.cells none 2 (e_S_option_Config p0)) := ⟨_, rfl⟩
 replace A := (A.push _).to e1
 refine at_step (v := .ptr (some (h.size, 0))) (h1 := h1) [(1, .agg (e_S_option_Config p1)), (2, .ptr (some (h.size, 0)))] H (fun fr => by kernel_rfl) (fun fr => .of (s_n' (by kernel_rfl) (congrArg some e1.symm))) ?_
 intro fr t H
 obtain ⟨h2, e2⟩ : ∃ x, x = h1.push (.cells none 2 (e_S_option_Config p1)) := ⟨_, rfl⟩
 replace A := (A.push _).to e2
 refine at_step (v := .ptr (some (h1.size, 0))) (h1 := h2) [(2, .ptr (some (h.size, 0))), (3, .ptr (some (h1.size, 0)))] H (fun fr => by kernel_rfl) (fun fr => .of (s_n' (by kernel_rfl) (congrArg some e2.symm))) ?_
 intro fr t H
 refine at_seg [(2, [])] [(2, .ptr (some (h.size, 0))), (3, .ptr (some (h1.size, 0)))] H (noU_all rfl) (fun fr => by kernel_rfl) ?_
 intro fr H
 refine at_nil ?_
 show AW cfg 16 g (right (bodyC cfg.P 16)) fr h2 _
 refine aw_seq (by kernel_rfl) ?_
 refine aw_reg (id := 1) (n := 90) [(0, []), (1, []), (2, []), (3, []), (4, []), (5, []), (6, []), (7, []), (8, []), (9, []), (10, []), (11, []), (12, []), (13, []), (14, []), (15, []), (16, []), (17, []), (18, []), (19, []), (20, []), (21, []), (22, []), (23, []), (24, []), (25, []), (26, []), (27, []), (28, []), (29, []), (30, []), (31, []), (32, []), (33, []), (34, []), (35, []), (36, []), (37, []), (38, []), (39, []), (40, []), (41, []), (42, []), (43, []), (44, []), (45, []), (46, []), (47, []), (48, []), (49, []), (50, []), (51, []), (52, []), (53, []), (54, []), (55, []), (56, []), (57, []), (58, []), (59, []), (60, []), (61, []), (62, []), (63, []), (64, []), (65, []), (66, []), (67, []), (68, []), (69, []), (70, []), (71, []), (72, []), (73, []), (74, []), (75, []), (76, []), (77, []), (78, []), (79, []), (80, []), (81, []), (82, []), (83, []), (84, []), (85, []), (86, []), (87, []), (88, []), (89, [])] (by kernel_rfl) (by kernel_rfl) ?_
 refine at_seg [(0, [])] [(2, .ptr (some (h.size, 0))), (3, .ptr (some (h1.size, 0))), (5, .ptr (some (h.size, 0)))] H (noU_all rfl) (fun fr => by kernel_rfl) ?_
 intro fr H
 refine at_step (v := vs e_S_pattern_Rule p0.Includes) (h1 := h2) [(2, .ptr (some (h.size, 0))), (3, .ptr (some (h1.size, 0))), (6, vs e_S_pattern_Rule p0.Includes)] H (fun fr => by kernel_rfl) (fun fr => .of (s_ld (by kernel_rfl) (A.ld1 1 rfl (o := 0) rfl))) ?_
 intro fr t H
 refine at_seg [(2, [])] [(2, .ptr (some (h.size, 0))), (3, .ptr (some (h1.size, 0))), (6, vs e_S_pattern_Rule p0.Includes), (7, .ptr (some (h1.size, 0)))] H (noU_all rfl) (fun fr => by kernel_rfl) ?_
 intro fr H
 refine at_step (v := vs e_S_pattern_Rule p1.Includes) (h1 := h2) [(2, .ptr (some (h.size, 0))), (3, .ptr (some (h1.size, 0))), (6, vs e_S_pattern_Rule p0.Includes), (8, vs e_S_pattern_Rule p1.Includes)] H (fun fr => by kernel_rfl) (fun fr => .of (s_ld (by kernel_rfl) (A.ld1 0 rfl (o := 0) rfl))) ?_
 intro fr t H
 have A1 := A.cut 0
 obtain ⟨x1, hx, hm⟩ := bind_some hm
 obtain ⟨v1, h3, hr, rfl, A1⟩ := ok_slices_Equal_boulter_pattern_Rule_boulter_pattern_Rule (av := [vs e_S_pattern_Rule p0.Includes, vs e_S_pattern_Rule p1.Includes]) hx (by kernel_rfl) A1
 replace A : HH g h3 [.obj h1.size (.cells none 2 (e_S_option_Config p1)), .obj h.size (.cells none 2 (e_S_option_Config p0))] F := A.glue0 (n := 0) A1
 refine at_step (v := .bool x1) (h1 := h3) [(2, .ptr (some (h.size, 0))), (3, .ptr (some (h1.size, 0))), (9, .bool x1)] H (fun fr => by kernel_rfl) (fun fr => Steps.call (by kernel_rfl) hr) ?_
 intro fr t H
 refine at_seg [(5, [])] [(2, .ptr (some (h.size, 0))), (3, .ptr (some (h1.size, 0))), (10, .bool x1)] H (noU_all rfl) (fun fr => by kernel_rfl) ?_
 intro fr H
 obtain ⟨x2, ho, hm⟩ := bind_some hm
 refine at_cut [(6, []), (7, []), (8, []), (9, []), (10, []), (11, [])] (fun fr' h' => Has fr' 94 [(2, .ptr (some (h.size, 0))), (3, .ptr (some (h1.size, 0))), (16, .bool x2)] ∧ HH g h' [.obj h1.size (.cells none 2 (e_S_option_Config p1)), .obj h.size (.cells none 2 (e_S_option_Config p0))] F) ?_ ?_
 ·rcases iteB_some ho with ⟨hb, hm⟩ | ⟨hb, hm⟩
  ·replace H := H.know 10 hb (by kernel_rfl)
   refine at_seg [(6, [])] [(2, .ptr (some (h.size, 0))), (3, .ptr (some (h1.size, 0))), (10, .bool true), (11, .ptr (some (h.size, 1)))] H (noU_all rfl) (fun fr => by kernel_rfl) ?_
   intro fr H
   refine at_step (v := vs e_S_pattern_Rule p0.Excludes) (h1 := h3) [(2, .ptr (some (h.size, 0))), (3, .ptr (some (h1.size, 0))), (10, .bool true), (12, vs e_S_pattern_Rule p0.Excludes)] H (fun fr => by kernel_rfl) (fun fr => .of (s_ld (by kernel_rfl) (A.ld1 1 rfl (o := 1) rfl))) ?_
   intro fr t H
   refine at_seg [(8, [])] [(2, .ptr (some (h.size, 0))), (3, .ptr (some (h1.size, 0))), (10, .bool true), (12, vs e_S_pattern_Rule p0.Excludes), (13, .ptr (some (h1.size, 1)))] H (noU_all rfl) (fun fr => by kernel_rfl) ?_
   intro fr H
   refine at_step (v := vs e_S_pattern_Rule p1.Excludes) (h1 := h3) [(2, .ptr (some (h.size, 0))), (3, .ptr (some (h1.size, 0))), (10, .bool true), (12, vs e_S_pattern_Rule p0.Excludes), (14, vs e_S_pattern_Rule p1.Excludes)] H (fun fr => by kernel_rfl) (fun fr => .of (s_ld (by kernel_rfl) (A.ld1 0 rfl (o := 1) rfl))) ?_
   intro fr t H
   have A1 := A.cut 0
   obtain ⟨x3, hx, hm⟩ := bind_some hm
   obtain ⟨v1, h5, hr, rfl, A1⟩ := ok_slices_Equal_boulter_pattern_Rule_boulter_pattern_Rule (av := [vs e_S_pattern_Rule p0.Excludes, vs e_S_pattern_Rule p1.Excludes]) hx (by kernel_rfl) A1
   replace A : HH g h5 [.obj h1.size (.cells none 2 (e_S_option_Config p1)), .obj h.size (.cells none 2 (e_S_option_Config p0))] F := A.glue0 (n := 0) A1
   refine at_step (v := .bool x3) (h1 := h5) [(2, .ptr (some (h.size, 0))), (3, .ptr (some (h1.size, 0))), (10, .bool true), (15, .bool x3)] H (fun fr => by kernel_rfl) (fun fr => Steps.call (by kernel_rfl) hr) ?_
   intro fr t H
   refine at_seg [(11, [])] [(2, .ptr (some (h.size, 0))), (3, .ptr (some (h1.size, 0))), (16, .bool x3)] H (noU_all rfl) (fun fr => by kernel_rfl) ?_
   intro fr H
   have e1 := Option.some.inj hm
   subst e1
   exact at_nil ⟨H.less _ (fun fr => by kernel_rfl), A⟩
  ·replace H := H.know 10 hb (by kernel_rfl)
   refine at_seg [(6, []), (7, []), (8, []), (9, []), (10, []), (11, [])] [(2, .ptr (some (h.size, 0))), (3, .ptr (some (h1.size, 0))), (16, .bool false)] H (noU_all rfl) (fun fr => by kernel_rfl) ?_
   intro fr H
   have e1 := Option.some.inj hm
   subst e1
   exact at_nil ⟨H.less _ (fun fr => by kernel_rfl), A⟩
 ·clear A
  intro t fr h4 hK
  obtain ⟨H, A⟩ := hK
  refine at_seg [(12, [])] [(2, .ptr (some (h.size, 0))), (3, .ptr (some (h1.size, 0))), (17, .bool x2)] H (noU_all rfl) (fun fr => by kernel_rfl) ?_
  intro fr H
  obtain ⟨x4, ho, hm⟩ := bind_some hm
  refine at_cut [(13, []), (14, []), (15, []), (16, []), (17, []), (18, [])] (fun fr' h' => Has fr' 94 [(2, .ptr (some (h.size, 0))), (3, .ptr (some (h1.size, 0))), (23, .bool x4)] ∧ HH g h' [.obj h1.size (.cells none 2 (e_S_option_Config p1)), .obj h.size (.cells none 2 (e_S_option_Config p0))] F) ?_ ?_
  ·rcases iteB_some ho with ⟨hb, hm⟩ | ⟨hb, hm⟩
   ·replace H := H.know 17 hb (by kernel_rfl)
    refine at_seg [(13, [])] [(2, .ptr (some (h.size, 0))), (3, .ptr (some (h1.size, 0))), (17, .bool true), (18, .ptr (some (h.size, 2)))] H (noU_all rfl) (fun fr => by kernel_rfl) ?_
    intro fr H
    refine at_step (v := vs e_S_rewrite_Expr p0.Exprs) (h1 := h4) [(2, .ptr (some (h.size, 0))), (3, .ptr (some (h1.size, 0))), (17, .bool true), (19, vs e_S_rewrite_Expr p0.Exprs)] H (fun fr => by kernel_rfl) (fun fr => .of (s_ld (by kernel_rfl) (A.ld1 1 rfl (o := 2) rfl))) ?_
    intro fr t H
    refine at_seg [(15, [])] [(2, .ptr (some (h.size, 0))), (3, .ptr (some (h1.size, 0))), (17, .bool true), (19, vs e_S_rewrite_Expr p0.Exprs), (20, .ptr (some (h1.size, 2)))] H (noU_all rfl) (fun fr => by kernel_rfl) ?_
    intro fr H
    refine at_step (v := vs e_S_rewrite_Expr p1.Exprs) (h1 := h4) [(2, .ptr (some (h.size, 0))), (3, .ptr (some (h1.size, 0))), (17, .bool true), (19, vs e_S_rewrite_Expr p0.Exprs), (21, vs e_S_rewrite_Expr p1.Exprs)] H (fun fr => by kernel_rfl) (fun fr => .of (s_ld (by kernel_rfl) (A.ld1 0 rfl (o := 2) rfl))) ?_
    intro fr t H
    have A1 := A.cut 0
    obtain ⟨x5, hx, hm⟩ := bind_some hm
    obtain ⟨v1, h7, hr, rfl, A1⟩ := ok_slices_Equal_boulter_rewrite_Expr_boulter_rewrite_Expr (av := [vs e_S_rewrite_Expr p0.Exprs, vs e_S_rewrite_Expr p1.Exprs]) hx (by kernel_rfl) A1
    replace A : HH g h7 [.obj h1.size (.cells none 2 (e_S_option_Config p1)), .obj h.size (.cells none 2 (e_S_option_Config p0))] F := A.glue0 (n := 0) A1
    refine at_step (v := .bool x5) (h1 := h7) [(2, .ptr (some (h.size, 0))), (3, .ptr (some (h1.size, 0))), (17, .bool true), (22, .bool x5)] H (fun fr => by kernel_rfl) (fun fr => Steps.call (by kernel_rfl) hr) ?_
    intro fr t H
    refine at_seg [(18, [])] [(2, .ptr (some (h.size, 0))), (3, .ptr (some (h1.size, 0))), (23, .bool x5)] H (noU_all rfl) (fun fr => by kernel_rfl) ?_
    intro fr H
    have e1 := Option.some.inj hm
    subst e1
    exact at_nil ⟨H.less _ (fun fr => by kernel_rfl), A⟩
   ·replace H := H.know 17 hb (by kernel_rfl)
    refine at_seg [(13, []), (14, []), (15, []), (16, []), (17, []), (18, [])] [(2, .ptr (some (h.size, 0))), (3, .ptr (some (h1.size, 0))), (23, .bool false)] H (noU_all rfl) (fun fr => by kernel_rfl) ?_
    intro fr H
    have e1 := Option.some.inj hm
    subst e1
    exact at_nil ⟨H.less _ (fun fr => by kernel_rfl), A⟩
  ·clear A
   intro t fr h6 hK
   obtain ⟨H, A⟩ := hK
   refine at_seg [(19, [])] [(2, .ptr (some (h.size, 0))), (3, .ptr (some (h1.size, 0))), (24, .bool x4)] H (noU_all rfl) (fun fr => by kernel_rfl) ?_
   intro fr H
   refine at_cut [(20, []), (21, []), (22, []), (23, []), (24, []), (25, [])] (fun fr' h' => h6 = h' ∧ Has fr' 94 [(2, .ptr (some (h.size, 0))), (3, .ptr (some (h1.size, 0))), (30, .bool (x4 && (p0.Vcs == p1.Vcs)))]) ?_ ?_
   ·cases hb : (x4 : Bool) with
    | true =>
     replace H := H.know 24 hb (by kernel_rfl)
     refine at_seg [(20, [])] [(2, .ptr (some (h.size, 0))), (3, .ptr (some (h1.size, 0))), (24, .bool true), (25, .ptr (some (h.size, 3)))] H (noU_all rfl) (fun fr => by kernel_rfl) ?_
     intro fr H
     refine at_step (v := .bool p0.Vcs) (h1 := h6) [(2, .ptr (some (h.size, 0))), (3, .ptr (some (h1.size, 0))), (24, .bool true), (26, .bool p0.Vcs)] H (fun fr => by kernel_rfl) (fun fr => .of (s_ld (by kernel_rfl) (A.ld1 1 rfl (o := 3) rfl))) ?_
     intro fr t H
     refine at_seg [(22, [])] [(2, .ptr (some (h.size, 0))), (3, .ptr (some (h1.size, 0))), (24, .bool true), (26, .bool p0.Vcs), (27, .ptr (some (h1.size, 3)))] H (noU_all rfl) (fun fr => by kernel_rfl) ?_
     intro fr H
     refine at_step (v := .bool p1.Vcs) (h1 := h6) [(2, .ptr (some (h.size, 0))), (3, .ptr (some (h1.size, 0))), (24, .bool true), (26, .bool p0.Vcs), (28, .bool p1.Vcs)] H (fun fr => by kernel_rfl) (fun fr => .of (s_ld (by kernel_rfl) (A.ld1 0 rfl (o := 3) rfl))) ?_
     intro fr t H
     refine at_seg [(24, []), (25, [])] [(2, .ptr (some (h.size, 0))), (3, .ptr (some (h1.size, 0))), (30, .bool (p0.Vcs == p1.Vcs))] H (noU_all rfl) (fun fr => by kernel_rfl) ?_
     intro fr H
     exact at_nil ⟨rfl, by first | exact H.less _ (fun fr => by rfl) | exact H.less _ (fun fr => by rw [hb]; rfl)⟩
    | false =>
     replace H := H.know 24 hb (by kernel_rfl)
     refine at_seg [(20, []), (21, []), (22, []), (23, []), (24, []), (25, [])] [(2, .ptr (some (h.size, 0))), (3, .ptr (some (h1.size, 0))), (30, .bool false)] H (noU_all rfl) (fun fr => by kernel_rfl) ?_
     intro fr H
     exact at_nil ⟨rfl, by first | exact H.less _ (fun fr => by rfl) | exact H.less _ (fun fr => by rw [hb]; rfl)⟩
   ·intro t fr h' hK
    obtain ⟨e, H⟩ := hK
    subst e
    refine at_seg [(26, [])] [(2, .ptr (some (h.size, 0))), (3, .ptr (some (h1.size, 0))), (31, .bool (x4 && (p0.Vcs == p1.Vcs)))] H (noU_all rfl) (fun fr => by kernel_rfl) ?_
    intro fr H
    refine at_cut [(27, []), (28, []), (29, []), (30, []), (31, []), (32, [])] (fun fr' h' => h6 = h' ∧ Has fr' 94 [(2, .ptr (some (h.size, 0))), (3, .ptr (some (h1.size, 0))), (37, .bool ((x4 && (p0.Vcs == p1.Vcs)) && (p0.Backups == p1.Backups)))]) ?_ ?_
    ·cases hb : (x4 && (p0.Vcs == p1.Vcs) : Bool) with
     | true =>
      replace H := H.know 31 hb (by kernel_rfl)
      refine at_seg [(27, [])] [(2, .ptr (some (h.size, 0))), (3, .ptr (some (h1.size, 0))), (31, .bool true), (32, .ptr (some (h.size, 4)))] H (noU_all rfl) (fun fr => by kernel_rfl) ?_
      intro fr H
      refine at_step (v := .bool p0.Backups) (h1 := h6) [(2, .ptr (some (h.size, 0))), (3, .ptr (some (h1.size, 0))), (31, .bool true), (33, .bool p0.Backups)] H (fun fr => by kernel_rfl) (fun fr => .of (s_ld (by kernel_rfl) (A.ld1 1 rfl (o := 4) rfl))) ?_
      intro fr t H
      refine at_seg [(29, [])] [(2, .ptr (some (h.size, 0))), (3, .ptr (some (h1.size, 0))), (31, .bool true), (33, .bool p0.Backups), (34, .ptr (some (h1.size, 4)))] H (noU_all rfl) (fun fr => by kernel_rfl) ?_
      intro fr H
      refine at_step (v := .bool p1.Backups) (h1 := h6) [(2, .ptr (some (h.size, 0))), (3, .ptr (some (h1.size, 0))), (31, .bool true), (33, .bool p0.Backups), (35, .bool p1.Backups)] H (fun fr => by kernel_rfl) (fun fr => .of (s_ld (by kernel_rfl) (A.ld1 0 rfl (o := 4) rfl))) ?_
      intro fr t H
      refine at_seg [(31, []), (32, [])] [(2, .ptr (some (h.size, 0))), (3, .ptr (some (h1.size, 0))), (37, .bool (p0.Backups == p1.Backups))] H (noU_all rfl) (fun fr => by kernel_rfl) ?_
      intro fr H
      exact at_nil ⟨rfl, by first | exact H.less _ (fun fr => by rfl) | exact H.less _ (fun fr => by rw [hb]; rfl)⟩
     | false =>
      replace H := H.know 31 hb (by kernel_rfl)
      refine at_seg [(27, []), (28, []), (29, []), (30, []), (31, []), (32, [])] [(2, .ptr (some (h.size, 0))), (3, .ptr (some (h1.size, 0))), (37, .bool false)] H (noU_all rfl) (fun fr => by kernel_rfl) ?_
      intro fr H
      exact at_nil ⟨rfl, by first | exact H.less _ (fun fr => by rfl) | exact H.less _ (fun fr => by rw [hb]; rfl)⟩
    ·intro t fr h' hK
     obtain ⟨e, H⟩ := hK
     subst e
     refine at_seg [(33, [])] [(2, .ptr (some (h.size, 0))), (3, .ptr (some (h1.size, 0))), (38, .bool ((x4 && (p0.Vcs == p1.Vcs)) && (p0.Backups == p1.Backups)))] H (noU_all rfl) (fun fr => by kernel_rfl) ?_
     intro fr H
     refine at_cut [(34, []), (35, []), (36, []), (37, []), (38, []), (39, [])] (fun fr' h' => h6 = h' ∧ Has fr' 94 [(2, .ptr (some (h.size, 0))), (3, .ptr (some (h1.size, 0))), (44, .bool (((x4 && (p0.Vcs == p1.Vcs)) && (p0.Backups == p1.Backups)) && (p0.Caches == p1.Caches)))]) ?_ ?_
     ·cases hb : ((x4 && (p0.Vcs == p1.Vcs)) && (p0.Backups == p1.Backups) : Bool) with
      | true =>
       replace H := H.know 38 hb (by kernel_rfl)
       refine at_seg [(34, [])] [(2, .ptr (some (h.size, 0))), (3, .ptr (some (h1.size, 0))), (38, .bool true), (39, .ptr (some (h.size, 5)))] H (noU_all rfl) (fun fr => by kernel_rfl) ?_
       intro fr H
       refine at_step (v := .int .i64 p0.Caches) (h1 := h6) [(2, .ptr (some (h.size, 0))), (3, .ptr (some (h1.size, 0))), (38, .bool true), (40, .int .i64 p0.Caches)] H (fun fr => by kernel_rfl) (fun fr => .of (s_ld (by kernel_rfl) (A.ld1 1 rfl (o := 5) rfl))) ?_
       intro fr t H
       refine at_seg [(36, [])] [(2, .ptr (some (h.size, 0))), (3, .ptr (some (h1.size, 0))), (38, .bool true), (40, .int .i64 p0.Caches), (41, .ptr (some (h1.size, 5)))] H (noU_all rfl) (fun fr => by kernel_rfl) ?_
       intro fr H
       refine at_step (v := .int .i64 p1.Caches) (h1 := h6) [(2, .ptr (some (h.size, 0))), (3, .ptr (some (h1.size, 0))), (38, .bool true), (40, .int .i64 p0.Caches), (42, .int .i64 p1.Caches)] H (fun fr => by kernel_rfl) (fun fr => .of (s_ld (by kernel_rfl) (A.ld1 0 rfl (o := 5) rfl))) ?_
       intro fr t H
       refine at_seg [(38, []), (39, [])] [(2, .ptr (some (h.size, 0))), (3, .ptr (some (h1.size, 0))), (44, .bool (p0.Caches == p1.Caches))] H (noU_all rfl) (fun fr => by kernel_rfl) ?_
       intro fr H
       exact at_nil ⟨rfl, by first | exact H.less _ (fun fr => by rfl) | exact H.less _ (fun fr => by rw [hb]; rfl)⟩
      | false =>
       replace H := H.know 38 hb (by kernel_rfl)
       refine at_seg [(34, []), (35, []), (36, []), (37, []), (38, []), (39, [])] [(2, .ptr (some (h.size, 0))), (3, .ptr (some (h1.size, 0))), (44, .bool false)] H (noU_all rfl) (fun fr => by kernel_rfl) ?_
       intro fr H
       exact at_nil ⟨rfl, by first | exact H.less _ (fun fr => by rfl) | exact H.less _ (fun fr => by rw [hb]; rfl)⟩
     ·intro t fr h' hK
      obtain ⟨e, H⟩ := hK
      subst e
      refine at_seg [(40, [])] [(2, .ptr (some (h.size, 0))), (3, .ptr (some (h1.size, 0))), (45, .bool (((x4 && (p0.Vcs == p1.Vcs)) && (p0.Backups == p1.Backups)) && (p0.Caches == p1.Caches)))] H (noU_all rfl) (fun fr => by kernel_rfl) ?_
      intro fr H
      refine at_cut [(41, []), (42, []), (43, []), (44, []), (45, []), (46, [])] (fun fr' h' => h6 = h' ∧ Has fr' 94 [(2, .ptr (some (h.size, 0))), (3, .ptr (some (h1.size, 0))), (51, .bool ((((x4 && (p0.Vcs == p1.Vcs)) && (p0.Backups == p1.Backups)) && (p0.Caches == p1.Caches)) && (p0.Dated == p1.Dated)))]) ?_ ?_
      ·cases hb : (((x4 && (p0.Vcs == p1.Vcs)) && (p0.Backups == p1.Backups)) && (p0.Caches == p1.Caches) : Bool) with
       | true =>
        replace H := H.know 45 hb (by kernel_rfl)
        refine at_seg [(41, [])] [(2, .ptr (some (h.size, 0))), (3, .ptr (some (h1.size, 0))), (45, .bool true), (46, .ptr (some (h.size, 6)))] H (noU_all rfl) (fun fr => by kernel_rfl) ?_
        intro fr H
        refine at_step (v := .bool p0.Dated) (h1 := h6) [(2, .ptr (some (h.size, 0))), (3, .ptr (some (h1.size, 0))), (45, .bool true), (47, .bool p0.Dated)] H (fun fr => by kernel_rfl) (fun fr => .of (s_ld (by kernel_rfl) (A.ld1 1 rfl (o := 6) rfl))) ?_
        intro fr t H
        refine at_seg [(43, [])] [(2, .ptr (some (h.size, 0))), (3, .ptr (some (h1.size, 0))), (45, .bool true), (47, .bool p0.Dated), (48, .ptr (some (h1.size, 6)))] H (noU_all rfl) (fun fr => by kernel_rfl) ?_
        intro fr H
        refine at_step (v := .bool p1.Dated) (h1 := h6) [(2, .ptr (some (h.size, 0))), (3, .ptr (some (h1.size, 0))), (45, .bool true), (47, .bool p0.Dated), (49, .bool p1.Dated)] H (fun fr => by kernel_rfl) (fun fr => .of (s_ld (by kernel_rfl) (A.ld1 0 rfl (o := 6) rfl))) ?_
        intro fr t H
        refine at_seg [(45, []), (46, [])] [(2, .ptr (some (h.size, 0))), (3, .ptr (some (h1.size, 0))), (51, .bool (p0.Dated == p1.Dated))] H (noU_all rfl) (fun fr => by kernel_rfl) ?_
        intro fr H
        exact at_nil ⟨rfl, by first | exact H.less _ (fun fr => by rfl) | exact H.less _ (fun fr => by rw [hb]; rfl)⟩
       | false =>
        replace H := H.know 45 hb (by kernel_rfl)
        refine at_seg [(41, []), (42, []), (43, []), (44, []), (45, []), (46, [])] [(2, .ptr (some (h.size, 0))), (3, .ptr (some (h1.size, 0))), (51, .bool false)] H (noU_all rfl) (fun fr => by kernel_rfl) ?_
        intro fr H
        exact at_nil ⟨rfl, by first | exact H.less _ (fun fr => by rfl) | exact H.less _ (fun fr => by rw [hb]; rfl)⟩
      ·intro t fr h' hK
       obtain ⟨e, H⟩ := hK
       subst e
       refine at_seg [(47, [])] [(2, .ptr (some (h.size, 0))), (3, .ptr (some (h1.size, 0))), (52, .bool ((((x4 && (p0.Vcs == p1.Vcs)) && (p0.Backups == p1.Backups)) && (p0.Caches == p1.Caches)) && (p0.Dated == p1.Dated)))] H (noU_all rfl) (fun fr => by kernel_rfl) ?_
       intro fr H
       obtain ⟨x6, ho, hm⟩ := bind_some hm
       refine at_cut [(48, []), (49, []), (50, []), (51, []), (52, []), (53, [])] (fun fr' h' => Has fr' 94 [(2, .ptr (some (h.size, 0))), (3, .ptr (some (h1.size, 0))), (58, .bool x6)] ∧ HH g h' [.obj h1.size (.cells none 2 (e_S_option_Config p1)), .obj h.size (.cells none 2 (e_S_option_Config p0))] F) ?_ ?_
       ·rcases iteB_some ho with ⟨hb, hm⟩ | ⟨hb, hm⟩
        ·replace H := H.know 52 hb (by kernel_rfl)
         refine at_seg [(48, [])] [(2, .ptr (some (h.size, 0))), (3, .ptr (some (h1.size, 0))), (52, .bool true), (53, .ptr (some (h.size, 7)))] H (noU_all rfl) (fun fr => by kernel_rfl) ?_
         intro fr H
         refine at_step (v := .agg [.int .i64 p0.Newer.Sec, .int .i64 p0.Newer.Nsec]) (h1 := h6) [(2, .ptr (some (h.size, 0))), (3, .ptr (some (h1.size, 0))), (52, .bool true), (54, .agg [.int .i64 p0.Newer.Sec, .int .i64 p0.Newer.Nsec])] H (fun fr => by kernel_rfl) (fun fr => .of (s_ldA (by kernel_rfl) (A.ldA 1 rfl (o := 7) (n := 2) ⟨Nat.le_of_ble_eq_true rfl, rfl⟩))) ?_
         intro fr t H
         refine at_seg [(50, [])] [(2, .ptr (some (h.size, 0))), (3, .ptr (some (h1.size, 0))), (52, .bool true), (54, .agg [.int .i64 p0.Newer.Sec, .int .i64 p0.Newer.Nsec]), (55, .ptr (some (h1.size, 7)))] H (noU_all rfl) (fun fr => by kernel_rfl) ?_
         intro fr H
         refine at_step (v := .agg [.int .i64 p1.Newer.Sec, .int .i64 p1.Newer.Nsec]) (h1 := h6) [(2, .ptr (some (h.size, 0))), (3, .ptr (some (h1.size, 0))), (52, .bool true), (54, .agg [.int .i64 p0.Newer.Sec, .int .i64 p0.Newer.Nsec]), (56, .agg [.int .i64 p1.Newer.Sec, .int .i64 p1.Newer.Nsec])] H (fun fr => by kernel_rfl) (fun fr => .of (s_ldA (by kernel_rfl) (A.ldA 0 rfl (o := 7) (n := 2) ⟨Nat.le_of_ble_eq_true rfl, rfl⟩))) ?_
         intro fr t H
         obtain ⟨x7, hx, hm⟩ := bind_some hm
         refine at_step (v := .bool x7) (h1 := h6) [(2, .ptr (some (h.size, 0))), (3, .ptr (some (h1.size, 0))), (52, .bool true), (57, .bool x7)] H (fun fr => by kernel_rfl) (fun fr => .of (s_eqG (by kernel_rfl) hx)) ?_
         intro fr t H
         refine at_seg [(53, [])] [(2, .ptr (some (h.size, 0))), (3, .ptr (some (h1.size, 0))), (58, .bool x7)] H (noU_all rfl) (fun fr => by kernel_rfl) ?_
         intro fr H
         have e1 := Option.some.inj hm
         subst e1
         exact at_nil ⟨H.less _ (fun fr => by kernel_rfl), A⟩
        ·replace H := H.know 52 hb (by kernel_rfl)
         refine at_seg [(48, []), (49, []), (50, []), (51, []), (52, []), (53, [])] [(2, .ptr (some (h.size, 0))), (3, .ptr (some (h1.size, 0))), (58, .bool false)] H (noU_all rfl) (fun fr => by kernel_rfl) ?_
         intro fr H
         have e1 := Option.some.inj hm
         subst e1
         exact at_nil ⟨H.less _ (fun fr => by kernel_rfl), A⟩
       ·clear A
        intro t fr h8 hK
        obtain ⟨H, A⟩ := hK
        refine at_seg [(54, [])] [(2, .ptr (some (h.size, 0))), (3, .ptr (some (h1.size, 0))), (59, .bool x6)] H (noU_all rfl) (fun fr => by kernel_rfl) ?_
        intro fr H
        refine at_cut [(55, []), (56, []), (57, []), (58, []), (59, []), (60, [])] (fun fr' h' => h8 = h' ∧ Has fr' 94 [(2, .ptr (some (h.size, 0))), (3, .ptr (some (h1.size, 0))), (65, .bool (x6 && (p0.Nth == p1.Nth)))]) ?_ ?_
        ·cases hb : (x6 : Bool) with
         | true =>
          replace H := H.know 59 hb (by kernel_rfl)
          refine at_seg [(55, [])] [(2, .ptr (some (h.size, 0))), (3, .ptr (some (h1.size, 0))), (59, .bool true), (60, .ptr (some (h.size, 9)))] H (noU_all rfl) (fun fr => by kernel_rfl) ?_
          intro fr H
          refine at_step (v := .int .i64 p0.Nth) (h1 := h8) [(2, .ptr (some (h.size, 0))), (3, .ptr (some (h1.size, 0))), (59, .bool true), (61, .int .i64 p0.Nth)] H (fun fr => by kernel_rfl) (fun fr => .of (s_ld (by kernel_rfl) (A.ld1 1 rfl (o := 9) rfl))) ?_
          intro fr t H
          refine at_seg [(57, [])] [(2, .ptr (some (h.size, 0))), (3, .ptr (some (h1.size, 0))), (59, .bool true), (61, .int .i64 p0.Nth), (62, .ptr (some (h1.size, 9)))] H (noU_all rfl) (fun fr => by kernel_rfl) ?_
          intro fr H
          refine at_step (v := .int .i64 p1.Nth) (h1 := h8) [(2, .ptr (some (h.size, 0))), (3, .ptr (some (h1.size, 0))), (59, .bool true), (61, .int .i64 p0.Nth), (63, .int .i64 p1.Nth)] H (fun fr => by kernel_rfl) (fun fr => .of (s_ld (by kernel_rfl) (A.ld1 0 rfl (o := 9) rfl))) ?_
          intro fr t H
          refine at_seg [(59, []), (60, [])] [(2, .ptr (some (h.size, 0))), (3, .ptr (some (h1.size, 0))), (65, .bool (p0.Nth == p1.Nth))] H (noU_all rfl) (fun fr => by kernel_rfl) ?_
          intro fr H
          exact at_nil ⟨rfl, by first | exact H.less _ (fun fr => by rfl) | exact H.less _ (fun fr => by rw [hb]; rfl)⟩
         | false =>
          replace H := H.know 59 hb (by kernel_rfl)
          refine at_seg [(55, []), (56, []), (57, []), (58, []), (59, []), (60, [])] [(2, .ptr (some (h.size, 0))), (3, .ptr (some (h1.size, 0))), (65, .bool false)] H (noU_all rfl) (fun fr => by kernel_rfl) ?_
          intro fr H
          exact at_nil ⟨rfl, by first | exact H.less _ (fun fr => by rfl) | exact H.less _ (fun fr => by rw [hb]; rfl)⟩
        ·intro t fr h' hK
         obtain ⟨e, H⟩ := hK
         subst e
         refine at_seg [(61, [])] [(2, .ptr (some (h.size, 0))), (3, .ptr (some (h1.size, 0))), (66, .bool (x6 && (p0.Nth == p1.Nth)))] H (noU_all rfl) (fun fr => by kernel_rfl) ?_
         intro fr H
         refine at_cut [(62, []), (63, []), (64, []), (65, []), (66, []), (67, [])] (fun fr' h' => h8 = h' ∧ Has fr' 94 [(2, .ptr (some (h.size, 0))), (3, .ptr (some (h1.size, 0))), (72, .bool ((x6 && (p0.Nth == p1.Nth)) && (p0.Strip == p1.Strip)))]) ?_ ?_
         ·cases hb : (x6 && (p0.Nth == p1.Nth) : Bool) with
          | true =>
           replace H := H.know 66 hb (by kernel_rfl)
           refine at_seg [(62, [])] [(2, .ptr (some (h.size, 0))), (3, .ptr (some (h1.size, 0))), (66, .bool true), (67, .ptr (some (h.size, 10)))] H (noU_all rfl) (fun fr => by kernel_rfl) ?_
           intro fr H
           refine at_step (v := .int .i64 p0.Strip) (h1 := h8) [(2, .ptr (some (h.size, 0))), (3, .ptr (some (h1.size, 0))), (66, .bool true), (68, .int .i64 p0.Strip)] H (fun fr => by kernel_rfl) (fun fr => .of (s_ld (by kernel_rfl) (A.ld1 1 rfl (o := 10) rfl))) ?_
           intro fr t H
           refine at_seg [(64, [])] [(2, .ptr (some (h.size, 0))), (3, .ptr (some (h1.size, 0))), (66, .bool true), (68, .int .i64 p0.Strip), (69, .ptr (some (h1.size, 10)))] H (noU_all rfl) (fun fr => by kernel_rfl) ?_
           intro fr H
           refine at_step (v := .int .i64 p1.Strip) (h1 := h8) [(2, .ptr (some (h.size, 0))), (3, .ptr (some (h1.size, 0))), (66, .bool true), (68, .int .i64 p0.Strip), (70, .int .i64 p1.Strip)] H (fun fr => by kernel_rfl) (fun fr => .of (s_ld (by kernel_rfl) (A.ld1 0 rfl (o := 10) rfl))) ?_
           intro fr t H
           refine at_seg [(66, []), (67, [])] [(2, .ptr (some (h.size, 0))), (3, .ptr (some (h1.size, 0))), (72, .bool (p0.Strip == p1.Strip))] H (noU_all rfl) (fun fr => by kernel_rfl) ?_
           intro fr H
           exact at_nil ⟨rfl, by first | exact H.less _ (fun fr => by rfl) | exact H.less _ (fun fr => by rw [hb]; rfl)⟩
          | false =>
           replace H := H.know 66 hb (by kernel_rfl)
           refine at_seg [(62, []), (63, []), (64, []), (65, []), (66, []), (67, [])] [(2, .ptr (some (h.size, 0))), (3, .ptr (some (h1.size, 0))), (72, .bool false)] H (noU_all rfl) (fun fr => by kernel_rfl) ?_
           intro fr H
           exact at_nil ⟨rfl, by first | exact H.less _ (fun fr => by rfl) | exact H.less _ (fun fr => by rw [hb]; rfl)⟩
         ·intro t fr h' hK
          obtain ⟨e, H⟩ := hK
          subst e
          refine at_seg [(68, [])] [(2, .ptr (some (h.size, 0))), (3, .ptr (some (h1.size, 0))), (73, .bool ((x6 && (p0.Nth == p1.Nth)) && (p0.Strip == p1.Strip)))] H (noU_all rfl) (fun fr => by kernel_rfl) ?_
          intro fr H
          refine at_cut [(69, []), (70, []), (71, []), (72, []), (73, []), (74, [])] (fun fr' h' => h8 = h' ∧ Has fr' 94 [(2, .ptr (some (h.size, 0))), (3, .ptr (some (h1.size, 0))), (79, .bool (((x6 && (p0.Nth == p1.Nth)) && (p0.Strip == p1.Strip)) && (p0.Name == p1.Name)))]) ?_ ?_
          ·cases hb : ((x6 && (p0.Nth == p1.Nth)) && (p0.Strip == p1.Strip) : Bool) with
           | true =>
            replace H := H.know 73 hb (by kernel_rfl)
            refine at_seg [(69, [])] [(2, .ptr (some (h.size, 0))), (3, .ptr (some (h1.size, 0))), (73, .bool true), (74, .ptr (some (h.size, 11)))] H (noU_all rfl) (fun fr => by kernel_rfl) ?_
            intro fr H
            refine at_step (v := .int .i64 p0.Name) (h1 := h8) [(2, .ptr (some (h.size, 0))), (3, .ptr (some (h1.size, 0))), (73, .bool true), (75, .int .i64 p0.Name)] H (fun fr => by kernel_rfl) (fun fr => .of (s_ld (by kernel_rfl) (A.ld1 1 rfl (o := 11) rfl))) ?_
            intro fr t H
            refine at_seg [(71, [])] [(2, .ptr (some (h.size, 0))), (3, .ptr (some (h1.size, 0))), (73, .bool true), (75, .int .i64 p0.Name), (76, .ptr (some (h1.size, 11)))] H (noU_all rfl) (fun fr => by kernel_rfl) ?_
            intro fr H
            refine at_step (v := .int .i64 p1.Name) (h1 := h8) [(2, .ptr (some (h.size, 0))), (3, .ptr (some (h1.size, 0))), (73, .bool true), (75, .int .i64 p0.Name), (77, .int .i64 p1.Name)] H (fun fr => by kernel_rfl) (fun fr => .of (s_ld (by kernel_rfl) (A.ld1 0 rfl (o := 11) rfl))) ?_
            intro fr t H
            refine at_seg [(73, []), (74, [])] [(2, .ptr (some (h.size, 0))), (3, .ptr (some (h1.size, 0))), (79, .bool (p0.Name == p1.Name))] H (noU_all rfl) (fun fr => by kernel_rfl) ?_
            intro fr H
            exact at_nil ⟨rfl, by first | exact H.less _ (fun fr => by rfl) | exact H.less _ (fun fr => by rw [hb]; rfl)⟩
           | false =>
            replace H := H.know 73 hb (by kernel_rfl)
            refine at_seg [(69, []), (70, []), (71, []), (72, []), (73, []), (74, [])] [(2, .ptr (some (h.size, 0))), (3, .ptr (some (h1.size, 0))), (79, .bool false)] H (noU_all rfl) (fun fr => by kernel_rfl) ?_
            intro fr H
            exact at_nil ⟨rfl, by first | exact H.less _ (fun fr => by rfl) | exact H.less _ (fun fr => by rw [hb]; rfl)⟩
          ·intro t fr h' hK
           obtain ⟨e, H⟩ := hK
           subst e
           refine at_seg [(75, [])] [(2, .ptr (some (h.size, 0))), (3, .ptr (some (h1.size, 0))), (80, .bool (((x6 && (p0.Nth == p1.Nth)) && (p0.Strip == p1.Strip)) && (p0.Name == p1.Name)))] H (noU_all rfl) (fun fr => by kernel_rfl) ?_
           intro fr H
           refine at_cut [(76, []), (77, []), (78, []), (79, []), (80, []), (81, [])] (fun fr' h' => h8 = h' ∧ Has fr' 94 [(2, .ptr (some (h.size, 0))), (3, .ptr (some (h1.size, 0))), (86, .bool ((((x6 && (p0.Nth == p1.Nth)) && (p0.Strip == p1.Strip)) && (p0.Name == p1.Name)) && (p0.Head == p1.Head)))]) ?_ ?_
           ·cases hb : (((x6 && (p0.Nth == p1.Nth)) && (p0.Strip == p1.Strip)) && (p0.Name == p1.Name) : Bool) with
            | true =>
             replace H := H.know 80 hb (by kernel_rfl)
             refine at_seg [(76, [])] [(2, .ptr (some (h.size, 0))), (3, .ptr (some (h1.size, 0))), (80, .bool true), (81, .ptr (some (h.size, 12)))] H (noU_all rfl) (fun fr => by kernel_rfl) ?_
             intro fr H
             refine at_step (v := .int .i64 p0.Head) (h1 := h8) [(2, .ptr (some (h.size, 0))), (3, .ptr (some (h1.size, 0))), (80, .bool true), (82, .int .i64 p0.Head)] H (fun fr => by kernel_rfl) (fun fr => .of (s_ld (by kernel_rfl) (A.ld1 1 rfl (o := 12) rfl))) ?_
             intro fr t H
             refine at_seg [(78, [])] [(2, .ptr (some (h.size, 0))), (3, .ptr (some (h1.size, 0))), (80, .bool true), (82, .int .i64 p0.Head), (83, .ptr (some (h1.size, 12)))] H (noU_all rfl) (fun fr => by kernel_rfl) ?_
             intro fr H
             refine at_step (v := .int .i64 p1.Head) (h1 := h8) [(2, .ptr (some (h.size, 0))), (3, .ptr (some (h1.size, 0))), (80, .bool true), (82, .int .i64 p0.Head), (84, .int .i64 p1.Head)] H (fun fr => by kernel_rfl) (fun fr => .of (s_ld (by kernel_rfl) (A.ld1 0 rfl (o := 12) rfl))) ?_
             intro fr t H
             refine at_seg [(80, []), (81, [])] [(2, .ptr (some (h.size, 0))), (3, .ptr (some (h1.size, 0))), (86, .bool (p0.Head == p1.Head))] H (noU_all rfl) (fun fr => by kernel_rfl) ?_
             intro fr H
             exact at_nil ⟨rfl, by first | exact H.less _ (fun fr => by rfl) | exact H.less _ (fun fr => by rw [hb]; rfl)⟩
            | false =>
             replace H := H.know 80 hb (by kernel_rfl)
             refine at_seg [(76, []), (77, []), (78, []), (79, []), (80, []), (81, [])] [(2, .ptr (some (h.size, 0))), (3, .ptr (some (h1.size, 0))), (86, .bool false)] H (noU_all rfl) (fun fr => by kernel_rfl) ?_
             intro fr H
             exact at_nil ⟨rfl, by first | exact H.less _ (fun fr => by rfl) | exact H.less _ (fun fr => by rw [hb]; rfl)⟩
           ·intro t fr h' hK
            obtain ⟨e, H⟩ := hK
            subst e
            refine at_seg [(82, [])] [(2, .ptr (some (h.size, 0))), (3, .ptr (some (h1.size, 0))), (87, .bool ((((x6 && (p0.Nth == p1.Nth)) && (p0.Strip == p1.Strip)) && (p0.Name == p1.Name)) && (p0.Head == p1.Head)))] H (noU_all rfl) (fun fr => by kernel_rfl) ?_
            intro fr H
            refine at_cut [(83, []), (84, []), (85, []), (86, []), (87, []), (88, [])] (fun fr' h' => h8 = h' ∧ Has fr' 94 [(93, .bool (((((x6 && (p0.Nth == p1.Nth)) && (p0.Strip == p1.Strip)) && (p0.Name == p1.Name)) && (p0.Head == p1.Head)) && (p0.States == p1.States)))]) ?_ ?_
            ·cases hb : ((((x6 && (p0.Nth == p1.Nth)) && (p0.Strip == p1.Strip)) && (p0.Name == p1.Name)) && (p0.Head == p1.Head) : Bool) with
             | true =>
              replace H := H.know 87 hb (by kernel_rfl)
              refine at_seg [(83, [])] [(3, .ptr (some (h1.size, 0))), (87, .bool true), (88, .ptr (some (h.size, 13)))] H (noU_all rfl) (fun fr => by kernel_rfl) ?_
              intro fr H
              refine at_step (v := .int .i64 p0.States) (h1 := h8) [(3, .ptr (some (h1.size, 0))), (87, .bool true), (89, .int .i64 p0.States)] H (fun fr => by kernel_rfl) (fun fr => .of (s_ld (by kernel_rfl) (A.ld1 1 rfl (o := 13) rfl))) ?_
              intro fr t H
              refine at_seg [(85, [])] [(87, .bool true), (89, .int .i64 p0.States), (90, .ptr (some (h1.size, 13)))] H (noU_all rfl) (fun fr => by kernel_rfl) ?_
              intro fr H
              refine at_step (v := .int .i64 p1.States) (h1 := h8) [(87, .bool true), (89, .int .i64 p0.States), (91, .int .i64 p1.States)] H (fun fr => by kernel_rfl) (fun fr => .of (s_ld (by kernel_rfl) (A.ld1 0 rfl (o := 13) rfl))) ?_
              intro fr t H
              refine at_seg [(87, []), (88, [])] [(93, .bool (p0.States == p1.States))] H (noU_all rfl) (fun fr => by kernel_rfl) ?_
              intro fr H
              exact at_nil ⟨rfl, by first | exact H.less _ (fun fr => by rfl) | exact H.less _ (fun fr => by rw [hb]; rfl)⟩
             | false =>
              replace H := H.know 87 hb (by kernel_rfl)
              refine at_seg [(83, []), (84, []), (85, []), (86, []), (87, []), (88, [])] [(93, .bool false)] H (noU_all rfl) (fun fr => by kernel_rfl) ?_
              intro fr H
              exact at_nil ⟨rfl, by first | exact H.less _ (fun fr => by rfl) | exact H.less _ (fun fr => by rw [hb]; rfl)⟩
            ·intro t fr h' hK
             obtain ⟨e, H⟩ := hK
             subst e
             refine at_seg [(89, [])] [(4, .bool (((((x6 && (p0.Nth == p1.Nth)) && (p0.Strip == p1.Strip)) && (p0.Name == p1.Name)) && (p0.Head == p1.Head)) && (p0.States == p1.States)))] H (noU_all rfl) (fun fr => by kernel_rfl) ?_
             intro fr H
             refine at_nil ?_
             show AW cfg 16 g (right (right (bodyC cfg.P 16))) fr h8 _
             refine aw_ret (by kernel_rfl) ?_
             have e1 := Option.some.inj hm
             subst e1
             refine ⟨.inl rfl, .bool (((((x6 && (p0.Nth == p1.Nth)) && (p0.Strip == p1.Strip)) && (p0.Name == p1.Name)) && (p0.Head == p1.Head)) && (p0.States == p1.States)), resH H (fun fr => by kernel_rfl), ?_⟩
             replace A : HH g h8 [] F := (HH.dropF A 0)
             exact ⟨rfl, A⟩
/-! ### boulter/boulterlaw32.OptionLimits -/
noncomputable def M_boulterlaw32_OptionLimits_L0 (p0 : Int) (p1 : Bool) (s : (List UInt8) × Int) : Option (((List UInt8) × Int) ⊕ (((List UInt8)))) :=
 match s with
 | (x2, x3) => iteB (decide (x3 < (256 : Int))) ((iteB (p1 && (decide (x3 < (IntKind.i64.wrap ((IntKind.i64.wrap ((254 : Int) + (Int.tmod (IntKind.i64.wrap p0) (5 : Int)))) - (1 : Int)))))) (need (decide (x2.length + ([98, 10] : List UInt8).length ≤ 9223372036854775807)) <| some (x2 ++ ([98, 10] : List UInt8))) (iteB p1 (need (decide (x2.length + ([35, 10] : List UInt8).length ≤ 9223372036854775807)) <| some (x2 ++ ([35, 10] : List UInt8))) (iteB (decide (x3 < (IntKind.i64.wrap ((254 : Int) + (Int.tmod (IntKind.i64.wrap p0) (5 : Int)))))) (need (decide (x2.length + ([105, 110, 99, 108, 117, 100, 101, 32, 97, 10] : List UInt8).length ≤ 9223372036854775807)) <| some (x2 ++ ([105, 110, 99, 108, 117, 100, 101, 32, 97, 10] : List UInt8))) (some x2))) : Option (((List UInt8)))).bind fun x5 => some (.inl (x5, IntKind.i64.wrap (x3 + (1 : Int))))) (some (.inr x2))
noncomputable def M_boulterlaw32_OptionLimits (p0 : Int) (p1 : Bool) : Option (Bool) :=
 (iteB p1 (some ([101, 120, 99, 108, 117, 100, 101, 32, 97, 10, 101, 120, 99, 108, 117, 100, 101, 45, 108, 105, 110, 101, 115, 32, 50, 53, 54, 10] : List UInt8)) (some ([] : List UInt8)) : Option (((List UInt8)))).bind fun x1 => (loop (M_boulterlaw32_OptionLimits_L0 p0 p1) (x1, (0 : Int))).bind fun x4 => (iteB ((!p1) && (decide ((IntKind.i64.wrap ((254 : Int) + (Int.tmod (IntKind.i64.wrap p0) (5 : Int)))) > (256 : Int)))) (need (decide (x4.length + ([101, 120, 99, 108, 117, 100, 101, 32, 97, 10, 101, 120, 99, 108, 117, 100, 101, 32, 97, 10] : List UInt8).length ≤ 9223372036854775807)) <| some (x4 ++ ([101, 120, 99, 108, 117, 100, 101, 32, 97, 10, 101, 120, 99, 108, 117, 100, 101, 32, 97, 10] : List UInt8))) (some x4) : Option (((List UInt8)))).bind fun x6 => (M_option_Parse x6).bind fun (x7, x8, x9) => need (mkN 1 (65537 : Int)) <| (M_option_Parse (List.replicate (65537 : Int).toNat (0 : UInt8))).bind fun (x10, x11, x12) => iteB ((x12 != (12 : Int)) || (x11 != (0 : Int))) (some false) (iteB (decide ((IntKind.i64.wrap ((254 : Int) + (Int.tmod (IntKind.i64.wrap p0) (5 : Int)))) > (256 : Int))) ((iteB p1 (some (538 : Int)) (some (2560 : Int)) : Option ((Int))).bind fun x13 => (iteB ((x9 == (8 : Int)) && (x8 == x13)) ((M_option_Equal x7 (⟨([] : List S_pattern_Rule), ([] : List S_pattern_Rule), ([] : List S_rewrite_Expr), false, false, (0 : Int), false, (⟨(0 : Int), (0 : Int)⟩ : S_api_Stamp), (0 : Int), (0 : Int), (0 : Int), (0 : Int), (0 : Int)⟩ : S_option_Config)).bind fun x15 => some x15) (some false) : Option (Bool)).bind fun x14 => some (x14 || false)) (some (((x9 == (0 : Int)) && ((IntKind.i64.wrap ((x7.Includes.length : Int) + (x7.Excludes.length : Int))) == (IntKind.i64.wrap ((254 : Int) + (Int.tmod (IntKind.i64.wrap p0) (5 : Int)))))) || false)))
theorem ok_boulterlaw32_OptionLimits {g : Gd} {h : AHeap} {F : List Ck} {p0 : Int} {p1 : Bool} {q0 : Bool} {av : List AVal} (hm : M_boulterlaw32_OptionLimits p0 p1 = some q0) (hc : canL (cfg.still 6) av = [.int .u8 p0, .bool p1]) (A : HH g h [] F) : ∃ v h', Runs cfg g h 6 av v h' ∧ v = .bool q0 ∧ HH g h' [] F := by
 refine runsQ1 (n := 105) (rs := [.tmp 4]) (by kernel_rfl) hc (by kernel_rfl) ?_
 clear hc
 unfold M_boulterlaw32_OptionLimits at hm
 refine start (n := 105) [(0, .int .u8 p0), (1, .bool p1)] (by kernel_rfl) (by kernel_rfl) ?_
 intro fr H
 refine aw_seq (by kernel_rfl) ?_
 refine aw_reg (id := 0) (n := 1) [(0, [])] (by kernel_rfl) (by kernel_rfl) ?_
 refine at_seg [(0, [])] [(0, .int .u8 p0), (1, .bool p1)] H (noU_all rfl) (fun fr => by kernel_rfl) ?_
 intro fr H
 refine at_nil ?_
 show AW cfg 6 g (right (bodyC cfg.P 6)) fr h _
 refine aw_seq (by kernel_rfl) ?_
 refine aw_reg (id := 1) (n := 5) [(0, []), (1, []), (2, []), (3, []), (4, [])] (by kernel_rfl) (by kernel_rfl) ?_
 refine at_seg [(0, []), (1, []), (2, []), (3, []), (4, [])] [(1, .bool p1), (5, .int .i64 (IntKind.i64.wrap ((254 : Int) + (Int.tmod (IntKind.i64.wrap p0) (5 : Int)))))] H (noU_all rfl) (fun fr => by kernel_rfl) ?_
 intro fr H
 refine at_nil ?_
 show AW cfg 6 g (right (right (bodyC cfg.P 6))) fr h _
 refine aw_seq (by kernel_rfl) ?_
 refine aw_reg (id := 2) (n := 1) [(0, [])] (by kernel_rfl) (by kernel_rfl) ?_
 refine at_seg [(0, [])] [(1, .bool p1), (5, .int .i64 (IntKind.i64.wrap ((254 : Int) + (Int.tmod (IntKind.i64.wrap p0) (5 : Int))))), (6, .str ([] : List UInt8))] H (noU_all rfl) (fun fr => by kernel_rfl) ?_
 intro fr H
 refine at_nil ?_
 show AW cfg 6 g (right (right (right (bodyC cfg.P 6)))) fr h _
 refine aw_seq (by kernel_rfl) ?_
 obtain ⟨o1, ho, hm⟩ := bind_some hm
 refine aw_mono (Q' := fun e fr' h' => (∃ (x1 : List UInt8), e = .normal ∧ x1 = o1 ∧ Has fr' 105 [(1, .bool p1), (5, .int .i64 (IntKind.i64.wrap ((254 : Int) + (Int.tmod (IntKind.i64.wrap p0) (5 : Int))))), (6, .str x1)] ∧ HH g h' [] F) ∨ False) ?_ ?_
 ·replace hm := ho
  clear ho
  refine aw_seq (by kernel_rfl) ?_
  refine aw_reg (id := 3) (n := 1) [(0, [])] (by kernel_rfl) (by kernel_rfl) ?_
  refine at_seg [(0, [])] [(1, .bool p1), (5, .int .i64 (IntKind.i64.wrap ((254 : Int) + (Int.tmod (IntKind.i64.wrap p0) (5 : Int))))), (6, .str ([] : List UInt8)), (19, .bool p1)] H (noU_all rfl) (fun fr => by kernel_rfl) ?_
  intro fr H
  refine at_nil ?_
  show AW cfg 6 g (right (left (right (right (right (bodyC cfg.P 6)))))) fr h _
  rcases iteB_some hm with ⟨hb, hm⟩ | ⟨hb, hm⟩
  ·replace H := H.know 19 hb (by kernel_rfl)
   refine aw_true (x := .tmp 19) (by kernel_rfl) H (fun fr => by kernel_rfl) ?_
   refine aw_reg (id := 4) (n := 1) [(0, [])] (by kernel_rfl) (by kernel_rfl) ?_
   refine at_seg [(0, [])] [(1, .bool p1), (5, .int .i64 (IntKind.i64.wrap ((254 : Int) + (Int.tmod (IntKind.i64.wrap p0) (5 : Int))))), (6, .str ([101, 120, 99, 108, 117, 100, 101, 32, 97, 10, 101, 120, 99, 108, 117, 100, 101, 45, 108, 105, 110, 101, 115, 32, 50, 53, 54, 10] : List UInt8))] H (noU_all rfl) (fun fr => by kernel_rfl) ?_
   intro fr H
   refine at_nil ?_
   exact Or.inl ⟨([101, 120, 99, 108, 117, 100, 101, 32, 97, 10, 101, 120, 99, 108, 117, 100, 101, 45, 108, 105, 110, 101, 115, 32, 50, 53, 54, 10] : List UInt8), rfl, Option.some.inj hm, H.less _ (fun fr => by kernel_rfl), A⟩
  ·replace H := H.know 19 hb (by kernel_rfl)
   refine aw_false (x := .tmp 19) (by kernel_rfl) H (fun fr => by kernel_rfl) ?_
   refine aw_skip (by kernel_rfl) ?_
   exact Or.inl ⟨([] : List UInt8), rfl, Option.some.inj hm, H.less _ (fun fr => by kernel_rfl), A⟩
 ·clear ho
  clear A
  intro e fr h1 hQ
  rcases hQ with ⟨x1, rfl, rfl, H, A⟩ | hF
  ·skip
   show AW cfg 6 g (right (right (right (right (bodyC cfg.P 6))))) fr h1 _
   refine aw_seq (by kernel_rfl) ?_
   refine aw_seq (by kernel_rfl) ?_
   refine aw_reg (id := 5) (n := 1) [(0, [])] (by kernel_rfl) (by kernel_rfl) ?_
   refine at_seg [(0, [])] [(1, .bool p1), (5, .int .i64 (IntKind.i64.wrap ((254 : Int) + (Int.tmod (IntKind.i64.wrap p0) (5 : Int))))), (6, .str x1), (20, .int .i64 (0 : Int))] H (noU_all rfl) (fun fr => by kernel_rfl) ?_
   intro fr H
   refine at_nil ?_
   show AW cfg 6 g (right (left (right (right (right (right (bodyC cfg.P 6))))))) fr h1 _
   refine aw_block (id := 0) (by kernel_rfl) ?_
   obtain ⟨o2, ho, hm⟩ := bind_some hm
   refine aw_mono (Q' := fun e fr' h' => (∃ (x4 : List UInt8), e = .exit 0 ∧ x4 = o2 ∧ Has fr' 105 [(1, .bool p1), (5, .int .i64 (IntKind.i64.wrap ((254 : Int) + (Int.tmod (IntKind.i64.wrap p0) (5 : Int))))), (6, .str x4)] ∧ HH g h' [] F) ∨ False) ?_ ?_
   ·refine aw_loop (by kernel_rfl) (fun (s : (List UInt8) × Int) fr' h' => ∃ (x2 : List UInt8) (x3 : Int), (x2, x3) = s ∧ Has fr' 105 [(1, .bool p1), (5, .int .i64 (IntKind.i64.wrap ((254 : Int) + (Int.tmod (IntKind.i64.wrap p0) (5 : Int))))), (6, .str x2), (20, .int .i64 x3)] ∧ HH g h' [] F) ho ⟨x1, (0 : Int), rfl, H.less _ (fun fr => by kernel_rfl), A⟩ ?_
    clear ho hm H A
    intro s q fr h2 hI hm
    obtain ⟨x2, x3, rfl, H, A⟩ := hI
    unfold M_boulterlaw32_OptionLimits_L0 at hm
    refine aw_seq (by kernel_rfl) ?_
    refine aw_reg (id := 6) (n := 1) [(0, [])] (by kernel_rfl) (by kernel_rfl) ?_
    refine at_seg [(0, [])] [(1, .bool p1), (5, .int .i64 (IntKind.i64.wrap ((254 : Int) + (Int.tmod (IntKind.i64.wrap p0) (5 : Int))))), (6, .str x2), (20, .int .i64 x3), (21, .bool (decide (x3 < (256 : Int))))] H (noU_all rfl) (fun fr => by kernel_rfl) ?_
    intro fr H
    refine at_nil ?_
    show AW cfg 6 g (right (left (left (right (left (right (right (right (right (bodyC cfg.P 6)))))))))) fr h2 _
    refine aw_seq (by kernel_rfl) ?_
    rcases iteB_some hm with ⟨hb, hm⟩ | ⟨hb, hm⟩
    ·replace H := H.know 21 hb (by kernel_rfl)
     refine aw_true (x := .tmp 21) (by kernel_rfl) H (fun fr => by kernel_rfl) ?_
     refine aw_skip (by kernel_rfl) ?_
     show AW cfg 6 g (right (right (left (left (right (left (right (right (right (right (bodyC cfg.P 6))))))))))) fr h2 _
     refine aw_seq (by kernel_rfl) ?_
     obtain ⟨o3, ho, hm⟩ := bind_some hm
     refine aw_mono (Q' := fun e fr' h' => (∃ (x5 : List UInt8), e = .normal ∧ x5 = o3 ∧ Has fr' 105 [(1, .bool p1), (5, .int .i64 (IntKind.i64.wrap ((254 : Int) + (Int.tmod (IntKind.i64.wrap p0) (5 : Int))))), (6, .str x5), (20, .int .i64 x3)] ∧ HH g h' [] F) ∨ False) ?_ ?_
     ·replace hm := ho
      clear ho
      refine aw_block (id := 1) (by kernel_rfl) ?_
      refine aw_seq (by kernel_rfl) ?_
      refine aw_reg (id := 7) (n := 2) [(0, []), (1, [])] (by kernel_rfl) (by kernel_rfl) ?_
      refine at_seg [(0, []), (1, [])] [(1, .bool p1), (5, .int .i64 (IntKind.i64.wrap ((254 : Int) + (Int.tmod (IntKind.i64.wrap p0) (5 : Int))))), (6, .str x2), (7, .int .i64 x3), (20, .int .i64 x3)] H (noU_all rfl) (fun fr => by kernel_rfl) ?_
      intro fr H
      refine at_nil ?_
      show AW cfg 6 g (right (left (left (right (right (left (left (right (left (right (right (right (right (bodyC cfg.P 6)))))))))))))) fr h2 _
      refine aw_block (id := 2) (by kernel_rfl) ?_
      refine aw_seq (by kernel_rfl) ?_
      refine aw_reg (id := 8) (n := 8) [(0, []), (1, []), (2, []), (3, []), (4, []), (5, []), (6, []), (7, [])] (by kernel_rfl) (by kernel_rfl) ?_
      refine at_seg [(0, []), (1, [])] [(1, .bool p1), (5, .int .i64 (IntKind.i64.wrap ((254 : Int) + (Int.tmod (IntKind.i64.wrap p0) (5 : Int))))), (6, .str x2), (7, .int .i64 x3), (20, .int .i64 x3), (25, .bool p1)] H (noU_all rfl) (fun fr => by kernel_rfl) ?_
      intro fr H
      refine at_cut [(2, []), (3, []), (4, []), (5, []), (6, [])] (fun fr' h' => h2 = h' ∧ Has fr' 105 [(1, .bool p1), (5, .int .i64 (IntKind.i64.wrap ((254 : Int) + (Int.tmod (IntKind.i64.wrap p0) (5 : Int))))), (6, .str x2), (7, .int .i64 x3), (20, .int .i64 x3), (30, .bool (p1 && (decide (x3 < (IntKind.i64.wrap ((IntKind.i64.wrap ((254 : Int) + (Int.tmod (IntKind.i64.wrap p0) (5 : Int)))) - (1 : Int)))))))]) ?_ ?_
      ·cases hb : (p1 : Bool) with
       | true =>
        replace H := H.know 25 hb (by kernel_rfl)
        refine at_seg [(2, []), (3, []), (4, []), (5, []), (6, [])] [(1, .bool p1), (5, .int .i64 (IntKind.i64.wrap ((254 : Int) + (Int.tmod (IntKind.i64.wrap p0) (5 : Int))))), (6, .str x2), (7, .int .i64 x3), (20, .int .i64 x3), (30, .bool (decide (x3 < (IntKind.i64.wrap ((IntKind.i64.wrap ((254 : Int) + (Int.tmod (IntKind.i64.wrap p0) (5 : Int)))) - (1 : Int))))))] H (noU_all rfl) (fun fr => by kernel_rfl) ?_
        intro fr H
        exact at_nil ⟨rfl, by first | exact H.less _ (fun fr => by rfl) | exact H.less _ (fun fr => by rw [hb]; rfl)⟩
       | false =>
        replace H := H.know 25 hb (by kernel_rfl)
        refine at_seg [(2, []), (3, []), (4, []), (5, []), (6, [])] [(1, .bool p1), (5, .int .i64 (IntKind.i64.wrap ((254 : Int) + (Int.tmod (IntKind.i64.wrap p0) (5 : Int))))), (6, .str x2), (7, .int .i64 x3), (20, .int .i64 x3), (30, .bool false)] H (noU_all rfl) (fun fr => by kernel_rfl) ?_
        intro fr H
        exact at_nil ⟨rfl, by first | exact H.less _ (fun fr => by rfl) | exact H.less _ (fun fr => by rw [hb]; rfl)⟩
      ·intro t fr h' hK
       obtain ⟨e, H⟩ := hK
       subst e
       refine at_seg [(7, [])] [(1, .bool p1), (5, .int .i64 (IntKind.i64.wrap ((254 : Int) + (Int.tmod (IntKind.i64.wrap p0) (5 : Int))))), (6, .str x2), (7, .int .i64 x3), (20, .int .i64 x3), (23, .bool (p1 && (decide (x3 < (IntKind.i64.wrap ((IntKind.i64.wrap ((254 : Int) + (Int.tmod (IntKind.i64.wrap p0) (5 : Int)))) - (1 : Int)))))))] H (noU_all rfl) (fun fr => by kernel_rfl) ?_
       intro fr H
       refine at_nil ?_
       show AW cfg 6 g (right (left (right (left (left (right (right (left (left (right (left (right (right (right (right (bodyC cfg.P 6)))))))))))))))) fr h2 _
       rcases iteB_some hm with ⟨hb, hm⟩ | ⟨hb, hm⟩
       ·replace H := H.know 23 hb (by kernel_rfl)
        refine aw_true (x := .tmp 23) (by kernel_rfl) H (fun fr => by kernel_rfl) ?_
        refine aw_reg (id := 9) (n := 3) [(0, []), (1, []), (2, [])] (by kernel_rfl) (by kernel_rfl) ?_
        refine at_seg [(0, [])] [(1, .bool p1), (5, .int .i64 (IntKind.i64.wrap ((254 : Int) + (Int.tmod (IntKind.i64.wrap p0) (5 : Int))))), (20, .int .i64 x3), (31, .str x2)] H (noU_all rfl) (fun fr => by kernel_rfl) ?_
        intro fr H
        obtain ⟨hb, hm⟩ := need_some hm
        refine at_step (v := .str (x2 ++ ([98, 10] : List UInt8))) (h1 := h2) [(1, .bool p1), (5, .int .i64 (IntKind.i64.wrap ((254 : Int) + (Int.tmod (IntKind.i64.wrap p0) (5 : Int))))), (20, .int .i64 x3), (32, .str (x2 ++ ([98, 10] : List UInt8)))] H (fun fr => by kernel_rfl) (fun fr => .of (s_cat (by kernel_rfl) hb)) ?_
        intro fr t H
        refine at_seg [(2, [])] [(1, .bool p1), (5, .int .i64 (IntKind.i64.wrap ((254 : Int) + (Int.tmod (IntKind.i64.wrap p0) (5 : Int))))), (6, .str (x2 ++ ([98, 10] : List UInt8))), (20, .int .i64 x3)] H (noU_all rfl) (fun fr => by kernel_rfl) ?_
        intro fr H
        refine at_nil ?_
        exact Or.inl ⟨x2 ++ ([98, 10] : List UInt8), rfl, Option.some.inj hm, H.less _ (fun fr => by kernel_rfl), A⟩
       ·replace H := H.know 23 hb (by kernel_rfl)
        refine aw_false (x := .tmp 23) (by kernel_rfl) H (fun fr => by kernel_rfl) ?_
        refine aw_seq (by kernel_rfl) ?_
        refine aw_reg (id := 10) (n := 2) [(0, []), (1, [])] (by kernel_rfl) (by kernel_rfl) ?_
        refine at_seg [(0, []), (1, [])] [(1, .bool p1), (5, .int .i64 (IntKind.i64.wrap ((254 : Int) + (Int.tmod (IntKind.i64.wrap p0) (5 : Int))))), (6, .str x2), (7, .int .i64 x3), (20, .int .i64 x3), (33, .bool p1)] H (noU_all rfl) (fun fr => by kernel_rfl) ?_
        intro fr H
        refine at_nil ?_
        show AW cfg 6 g (right (right (right (left (right (left (left (right (right (left (left (right (left (right (right (right (right (bodyC cfg.P 6)))))))))))))))))) fr h2 _
        rcases iteB_some hm with ⟨hb, hm⟩ | ⟨hb, hm⟩
        ·replace H := H.know 33 hb (by kernel_rfl)
         refine aw_true (x := .tmp 33) (by kernel_rfl) H (fun fr => by kernel_rfl) ?_
         refine aw_reg (id := 11) (n := 3) [(0, []), (1, []), (2, [])] (by kernel_rfl) (by kernel_rfl) ?_
         refine at_seg [(0, [])] [(1, .bool p1), (5, .int .i64 (IntKind.i64.wrap ((254 : Int) + (Int.tmod (IntKind.i64.wrap p0) (5 : Int))))), (20, .int .i64 x3), (35, .str x2)] H (noU_all rfl) (fun fr => by kernel_rfl) ?_
         intro fr H
         obtain ⟨hb, hm⟩ := need_some hm
         refine at_step (v := .str (x2 ++ ([35, 10] : List UInt8))) (h1 := h2) [(1, .bool p1), (5, .int .i64 (IntKind.i64.wrap ((254 : Int) + (Int.tmod (IntKind.i64.wrap p0) (5 : Int))))), (20, .int .i64 x3), (36, .str (x2 ++ ([35, 10] : List UInt8)))] H (fun fr => by kernel_rfl) (fun fr => .of (s_cat (by kernel_rfl) hb)) ?_
         intro fr t H
         refine at_seg [(2, [])] [(1, .bool p1), (5, .int .i64 (IntKind.i64.wrap ((254 : Int) + (Int.tmod (IntKind.i64.wrap p0) (5 : Int))))), (6, .str (x2 ++ ([35, 10] : List UInt8))), (20, .int .i64 x3)] H (noU_all rfl) (fun fr => by kernel_rfl) ?_
         intro fr H
         refine at_nil ?_
         exact Or.inl ⟨x2 ++ ([35, 10] : List UInt8), rfl, Option.some.inj hm, H.less _ (fun fr => by kernel_rfl), A⟩
        ·replace H := H.know 33 hb (by kernel_rfl)
         refine aw_false (x := .tmp 33) (by kernel_rfl) H (fun fr => by kernel_rfl) ?_
         refine aw_seq (by kernel_rfl) ?_
         refine aw_reg (id := 12) (n := 4) [(0, []), (1, []), (2, []), (3, [])] (by kernel_rfl) (by kernel_rfl) ?_
         refine at_seg [(0, []), (1, []), (2, []), (3, [])] [(1, .bool p1), (5, .int .i64 (IntKind.i64.wrap ((254 : Int) + (Int.tmod (IntKind.i64.wrap p0) (5 : Int))))), (6, .str x2), (20, .int .i64 x3), (37, .bool (decide (x3 < (IntKind.i64.wrap ((254 : Int) + (Int.tmod (IntKind.i64.wrap p0) (5 : Int)))))))] H (noU_all rfl) (fun fr => by kernel_rfl) ?_
         intro fr H
         refine at_nil ?_
         show AW cfg 6 g (right (right (right (right (right (left (right (left (left (right (right (left (left (right (left (right (right (right (right (bodyC cfg.P 6)))))))))))))))))))) fr h2 _
         rcases iteB_some hm with ⟨hb, hm⟩ | ⟨hb, hm⟩
         ·replace H := H.know 37 hb (by kernel_rfl)
          refine aw_true (x := .tmp 37) (by kernel_rfl) H (fun fr => by kernel_rfl) ?_
          refine aw_reg (id := 13) (n := 3) [(0, []), (1, []), (2, [])] (by kernel_rfl) (by kernel_rfl) ?_
          refine at_seg [(0, [])] [(1, .bool p1), (5, .int .i64 (IntKind.i64.wrap ((254 : Int) + (Int.tmod (IntKind.i64.wrap p0) (5 : Int))))), (20, .int .i64 x3), (41, .str x2)] H (noU_all rfl) (fun fr => by kernel_rfl) ?_
          intro fr H
          obtain ⟨hb, hm⟩ := need_some hm
          refine at_step (v := .str (x2 ++ ([105, 110, 99, 108, 117, 100, 101, 32, 97, 10] : List UInt8))) (h1 := h2) [(1, .bool p1), (5, .int .i64 (IntKind.i64.wrap ((254 : Int) + (Int.tmod (IntKind.i64.wrap p0) (5 : Int))))), (20, .int .i64 x3), (42, .str (x2 ++ ([105, 110, 99, 108, 117, 100, 101, 32, 97, 10] : List UInt8)))] H (fun fr => by kernel_rfl) (fun fr => .of (s_cat (by kernel_rfl) hb)) ?_
          intro fr t H
          refine at_seg [(2, [])] [(1, .bool p1), (5, .int .i64 (IntKind.i64.wrap ((254 : Int) + (Int.tmod (IntKind.i64.wrap p0) (5 : Int))))), (6, .str (x2 ++ ([105, 110, 99, 108, 117, 100, 101, 32, 97, 10] : List UInt8))), (20, .int .i64 x3)] H (noU_all rfl) (fun fr => by kernel_rfl) ?_
          intro fr H
          refine at_nil ?_
          exact Or.inl ⟨x2 ++ ([105, 110, 99, 108, 117, 100, 101, 32, 97, 10] : List UInt8), rfl, Option.some.inj hm, H.less _ (fun fr => by kernel_rfl), A⟩
         ·replace H := H.know 37 hb (by kernel_rfl)
          refine aw_false (x := .tmp 37) (by kernel_rfl) H (fun fr => by kernel_rfl) ?_
          refine aw_skip (by kernel_rfl) ?_
          exact Or.inl ⟨x2, rfl, Option.some.inj hm, H.less _ (fun fr => by kernel_rfl), A⟩
     ·clear ho
      clear A
      intro e fr h3 hQ
      rcases hQ with ⟨x5, rfl, rfl, H, A⟩ | hF
      ·skip
       show AW cfg 6 g (right (right (right (left (left (right (left (right (right (right (right (bodyC cfg.P 6)))))))))))) fr h3 _
       refine aw_reg (id := 14) (n := 2) [(0, []), (1, [])] (by kernel_rfl) (by kernel_rfl) ?_
       refine at_seg [(0, []), (1, [])] [(1, .bool p1), (5, .int .i64 (IntKind.i64.wrap ((254 : Int) + (Int.tmod (IntKind.i64.wrap p0) (5 : Int))))), (6, .str x5), (20, .int .i64 (IntKind.i64.wrap (x3 + (1 : Int))))] H (noU_all rfl) (fun fr => by kernel_rfl) ?_
       intro fr H
       refine at_nil ?_
       exact Exists.intro (x5, IntKind.i64.wrap (x3 + (1 : Int))) (And.intro (Option.some.inj hm).symm ⟨x5, IntKind.i64.wrap (x3 + (1 : Int)), rfl, H.less _ (fun fr => by kernel_rfl), A⟩)
      ·exact hF.elim
    ·replace H := H.know 21 hb (by kernel_rfl)
     refine aw_false (x := .tmp 21) (by kernel_rfl) H (fun fr => by kernel_rfl) ?_
     refine aw_exit (i := 0) (by kernel_rfl) ?_
     exact Exists.intro _ (And.intro (Option.some.inj hm).symm (fun e => Or.inl ⟨x2, rfl, e, H.less _ (fun fr => by kernel_rfl), A⟩))
   ·clear ho
    clear A
    intro e fr h4 hQ
    rcases hQ with ⟨x4, rfl, rfl, H, A⟩ | hF
    ·skip
     show AW cfg 6 g (right (right (right (right (right (bodyC cfg.P 6)))))) fr h4 _
     refine aw_seq (by kernel_rfl) ?_
     obtain ⟨o4, ho, hm⟩ := bind_some hm
     refine aw_mono (Q' := fun e fr' h' => (∃ (x6 : List UInt8), e = .normal ∧ x6 = o4 ∧ Has fr' 105 [(1, .bool p1), (5, .int .i64 (IntKind.i64.wrap ((254 : Int) + (Int.tmod (IntKind.i64.wrap p0) (5 : Int))))), (6, .str x6)] ∧ HH g h' [] F) ∨ False) ?_ ?_
     ·replace hm := ho
      clear ho
      refine aw_seq (by kernel_rfl) ?_
      refine aw_reg (id := 15) (n := 6) [(0, []), (1, []), (2, []), (3, []), (4, []), (5, [])] (by kernel_rfl) (by kernel_rfl) ?_
      refine at_seg [(0, []), (1, []), (2, [])] [(1, .bool p1), (5, .int .i64 (IntKind.i64.wrap ((254 : Int) + (Int.tmod (IntKind.i64.wrap p0) (5 : Int))))), (6, .str x4), (46, .bool (!p1))] H (noU_all rfl) (fun fr => by kernel_rfl) ?_
      intro fr H
      refine at_cut [(3, []), (4, []), (5, [])] (fun fr' h' => h4 = h' ∧ Has fr' 105 [(1, .bool p1), (5, .int .i64 (IntKind.i64.wrap ((254 : Int) + (Int.tmod (IntKind.i64.wrap p0) (5 : Int))))), (6, .str x4), (49, .bool ((!p1) && (decide ((IntKind.i64.wrap ((254 : Int) + (Int.tmod (IntKind.i64.wrap p0) (5 : Int)))) > (256 : Int)))))]) ?_ ?_
      ·cases hb : (!p1 : Bool) with
       | true =>
        replace H := H.know 46 hb (by kernel_rfl)
        refine at_seg [(3, []), (4, []), (5, [])] [(1, .bool p1), (5, .int .i64 (IntKind.i64.wrap ((254 : Int) + (Int.tmod (IntKind.i64.wrap p0) (5 : Int))))), (6, .str x4), (49, .bool (decide ((IntKind.i64.wrap ((254 : Int) + (Int.tmod (IntKind.i64.wrap p0) (5 : Int)))) > (256 : Int))))] H (noU_all rfl) (fun fr => by kernel_rfl) ?_
        intro fr H
        exact at_nil ⟨rfl, by first | exact H.less _ (fun fr => by rfl) | exact H.less _ (fun fr => by rw [hb]; rfl)⟩
       | false =>
        replace H := H.know 46 hb (by kernel_rfl)
        refine at_seg [(3, []), (4, []), (5, [])] [(1, .bool p1), (5, .int .i64 (IntKind.i64.wrap ((254 : Int) + (Int.tmod (IntKind.i64.wrap p0) (5 : Int))))), (6, .str x4), (49, .bool false)] H (noU_all rfl) (fun fr => by kernel_rfl) ?_
        intro fr H
        exact at_nil ⟨rfl, by first | exact H.less _ (fun fr => by rfl) | exact H.less _ (fun fr => by rw [hb]; rfl)⟩
      ·intro t fr h' hK
       obtain ⟨e, H⟩ := hK
       subst e
       refine at_nil ?_
       show AW cfg 6 g (right (left (right (right (right (right (right (bodyC cfg.P 6)))))))) fr h4 _
       rcases iteB_some hm with ⟨hb, hm⟩ | ⟨hb, hm⟩
       ·replace H := H.know 49 hb (by kernel_rfl)
        refine aw_true (x := .tmp 49) (by kernel_rfl) H (fun fr => by kernel_rfl) ?_
        refine aw_reg (id := 16) (n := 3) [(0, []), (1, []), (2, [])] (by kernel_rfl) (by kernel_rfl) ?_
        refine at_seg [(0, [])] [(1, .bool p1), (5, .int .i64 (IntKind.i64.wrap ((254 : Int) + (Int.tmod (IntKind.i64.wrap p0) (5 : Int))))), (50, .str x4)] H (noU_all rfl) (fun fr => by kernel_rfl) ?_
        intro fr H
        obtain ⟨hb, hm⟩ := need_some hm
        refine at_step (v := .str (x4 ++ ([101, 120, 99, 108, 117, 100, 101, 32, 97, 10, 101, 120, 99, 108, 117, 100, 101, 32, 97, 10] : List UInt8))) (h1 := h4) [(1, .bool p1), (5, .int .i64 (IntKind.i64.wrap ((254 : Int) + (Int.tmod (IntKind.i64.wrap p0) (5 : Int))))), (51, .str (x4 ++ ([101, 120, 99, 108, 117, 100, 101, 32, 97, 10, 101, 120, 99, 108, 117, 100, 101, 32, 97, 10] : List UInt8)))] H (fun fr => by kernel_rfl) (fun fr => .of (s_cat (by kernel_rfl) hb)) ?_
        intro fr t H
        refine at_seg [(2, [])] [(1, .bool p1), (5, .int .i64 (IntKind.i64.wrap ((254 : Int) + (Int.tmod (IntKind.i64.wrap p0) (5 : Int))))), (6, .str (x4 ++ ([101, 120, 99, 108, 117, 100, 101, 32, 97, 10, 101, 120, 99, 108, 117, 100, 101, 32, 97, 10] : List UInt8)))] H (noU_all rfl) (fun fr => by kernel_rfl) ?_
        intro fr H
        refine at_nil ?_
        exact Or.inl ⟨x4 ++ ([101, 120, 99, 108, 117, 100, 101, 32, 97, 10, 101, 120, 99, 108, 117, 100, 101, 32, 97, 10] : List UInt8), rfl, Option.some.inj hm, H.less _ (fun fr => by kernel_rfl), A⟩
       ·replace H := H.know 49 hb (by kernel_rfl)
        refine aw_false (x := .tmp 49) (by kernel_rfl) H (fun fr => by kernel_rfl) ?_
        refine aw_skip (by kernel_rfl) ?_
        exact Or.inl ⟨x4, rfl, Option.some.inj hm, H.less _ (fun fr => by kernel_rfl), A⟩
     ·clear ho
      clear A
      intro e fr h5 hQ
      rcases hQ with ⟨x6, rfl, rfl, H, A⟩ | hF
      ·skip
       show AW cfg 6 g (right (right (right (right (right (right (bodyC cfg.P 6))))))) fr h5 _
       refine aw_seq (by kernel_rfl) ?_
       refine aw_reg (id := 17) (n := 10) [(0, []), (1, []), (2, []), (3, []), (4, []), (5, []), (6, []), (7, []), (8, []), (9, [])] (by kernel_rfl) (by kernel_rfl) ?_
       refine at_seg [(0, [])] [(1, .bool p1), (5, .int .i64 (IntKind.i64.wrap ((254 : Int) + (Int.tmod (IntKind.i64.wrap p0) (5 : Int))))), (53, .str x6)] H (noU_all rfl) (fun fr => by kernel_rfl) ?_
       intro fr H
       have A1 := A.cut 0
       obtain ⟨⟨x7, x8, x9⟩, hx, hm⟩ := bind_some hm
       obtain ⟨v1, h6, hr, rfl, A1⟩ := ok_option_Parse (av := [.str x6]) hx (by kernel_rfl) A1
       replace A : HH g h6 [] F := A.glue0 (n := 0) A1
       refine at_step (v := .tuple [.agg (e_S_option_Config x7), .int .i64 x8, .int .i64 x9]) (h1 := h6) [(1, .bool p1), (5, .int .i64 (IntKind.i64.wrap ((254 : Int) + (Int.tmod (IntKind.i64.wrap p0) (5 : Int))))), (54, .tuple [.agg (e_S_option_Config x7), .int .i64 x8, .int .i64 x9])] H (fun fr => by kernel_rfl) (fun fr => Steps.call (by kernel_rfl) hr) ?_
       intro fr t H
       refine at_seg [(2, []), (3, []), (4, []), (5, [])] [(1, .bool p1), (5, .int .i64 (IntKind.i64.wrap ((254 : Int) + (Int.tmod (IntKind.i64.wrap p0) (5 : Int))))), (55, .agg (e_S_option_Config x7)), (56, .int .i64 x8), (57, .int .i64 x9)] H (noU_all rfl) (fun fr => by kernel_rfl) ?_
       intro fr H
       obtain ⟨h7, e1⟩ : ∃ x, x = h6.push (.cells none 2 [.slice none 0, .slice none 0, .slice none 0, .bool false, .bool false, .int .i64 (0 : Int), .bool false, .int .i64 (0 : Int), .int .i64 (0 : Int), .int .i64 (0 : Int), .int .i64 (0 : Int), .int .i64 (0 : Int), .int .i64 (0 : Int), .int .i64 (0 : Int)]) := ⟨_, rfl⟩
       replace A := (A.push _).to e1
       refine at_step (v := .ptr (some (h6.size, 0))) (h1 := h7) [(1, .bool p1), (5, .int .i64 (IntKind.i64.wrap ((254 : Int) + (Int.tmod (IntKind.i64.wrap p0) (5 : Int))))), (8, .ptr (some (h6.size, 0))), (55, .agg (e_S_option_Config x7)), (56, .int .i64 x8), (57, .int .i64 x9)] H (fun fr => by kernel_rfl) (fun fr => .of (s_n' (by kernel_rfl) (congrArg some e1.symm))) ?_
       intro fr t H
       obtain ⟨h8, hx, A1⟩ := A.st 0 rfl (o := 0) (new := [vs e_S_pattern_Rule x7.Includes, vs e_S_pattern_Rule x7.Excludes, vs e_S_rewrite_Expr x7.Exprs, .bool x7.Vcs, .bool x7.Backups, .int .i64 x7.Caches, .bool x7.Dated, .int .i64 x7.Newer.Sec, .int .i64 x7.Newer.Nsec, .int .i64 x7.Nth, .int .i64 x7.Strip, .int .i64 x7.Name, .int .i64 x7.Head, .int .i64 x7.States]) (ds := [vs e_S_pattern_Rule x7.Includes, vs e_S_pattern_Rule x7.Excludes, vs e_S_rewrite_Expr x7.Exprs, .bool x7.Vcs, .bool x7.Backups, .int .i64 x7.Caches, .bool x7.Dated, .int .i64 x7.Newer.Sec, .int .i64 x7.Newer.Nsec, .int .i64 x7.Nth, .int .i64 x7.Strip, .int .i64 x7.Name, .int .i64 x7.Head, .int .i64 x7.States]) (Nat.le_of_ble_eq_true rfl) rfl rfl
       replace A : HH g h8 [.obj h6.size (.cells none 2 (e_S_option_Config x7))] F := A1
       refine at_step (v := .tuple []) (h1 := h8) [(1, .bool p1), (5, .int .i64 (IntKind.i64.wrap ((254 : Int) + (Int.tmod (IntKind.i64.wrap p0) (5 : Int))))), (8, .ptr (some (h6.size, 0))), (56, .int .i64 x8), (57, .int .i64 x9)] H (fun fr => by kernel_rfl) (fun fr => .of (s_stG (by kernel_rfl) (stG_st hx rfl))) ?_
       intro fr t H
       refine at_seg [(8, []), (9, [])] [(1, .bool p1), (5, .int .i64 (IntKind.i64.wrap ((254 : Int) + (Int.tmod (IntKind.i64.wrap p0) (5 : Int))))), (8, .ptr (some (h6.size, 0))), (9, .int .i64 x8), (10, .int .i64 x9)] H (noU_all rfl) (fun fr => by kernel_rfl) ?_
       intro fr H
       refine at_nil ?_
       show AW cfg 6 g (right (right (right (right (right (right (right (bodyC cfg.P 6)))))))) fr h8 _
       refine aw_seq (by kernel_rfl) ?_
       refine aw_reg (id := 18) (n := 11) [(0, []), (1, []), (2, []), (3, []), (4, []), (5, []), (6, []), (7, []), (8, []), (9, []), (10, [])] (by kernel_rfl) (by kernel_rfl) ?_
       obtain ⟨hb, hm⟩ := need_some hm
       obtain ⟨h9, e2⟩ : ∃ x, x = h8.push (.cells (some 5) 2 (lst eY (List.replicate (65537 : Int).toNat (0 : UInt8)))) := ⟨_, rfl⟩
       replace A := (A.pushL _ _).to e2
       refine at_step (v := rowV (some h8.size) (List.replicate (65537 : Int).toNat (0 : UInt8)).length) (h1 := h9) [(1, .bool p1), (5, .int .i64 (IntKind.i64.wrap ((254 : Int) + (Int.tmod (IntKind.i64.wrap p0) (5 : Int))))), (8, .ptr (some (h6.size, 0))), (9, .int .i64 x8), (10, .int .i64 x9), (59, rowV (some h8.size) ((List.replicate (65537 : Int).toNat (0 : UInt8)).length))] H (fun fr => by kernel_rfl) (fun fr => .of (s_mkO (e := eY) encY (x := (0 : UInt8)) (by kernel_rfl) hb (congrArg some e2.symm))) ?_
       intro fr t H
       refine at_step (v := .str (List.replicate (65537 : Int).toNat (0 : UInt8))) (h1 := h9) [(1, .bool p1), (5, .int .i64 (IntKind.i64.wrap ((254 : Int) + (Int.tmod (IntKind.i64.wrap p0) (5 : Int))))), (8, .ptr (some (h6.size, 0))), (9, .int .i64 x8), (10, .int .i64 x9), (60, .str (List.replicate (65537 : Int).toNat (0 : UInt8)))] H (fun fr => by kernel_rfl) (fun fr => .of (s_byO (xs := (List.replicate (65537 : Int).toNat (0 : UInt8))) A 0 rfl (by kernel_rfl))) ?_
       intro fr t H
       have A1 := A.cut 0
       obtain ⟨⟨x10, x11, x12⟩, hx, hm⟩ := bind_some hm
       obtain ⟨v1, h10, hr, rfl, A1⟩ := ok_option_Parse (av := [.str (List.replicate (65537 : Int).toNat (0 : UInt8))]) hx (by kernel_rfl) A1
       replace A : HH g h10 [.lst (some h8.size) 5 (lst eY (List.replicate (65537 : Int).toNat (0 : UInt8))), .obj h6.size (.cells none 2 (e_S_option_Config x7))] F := A.glue0 (n := 0) A1
       refine at_step (v := .tuple [.agg (e_S_option_Config x10), .int .i64 x11, .int .i64 x12]) (h1 := h10) [(1, .bool p1), (5, .int .i64 (IntKind.i64.wrap ((254 : Int) + (Int.tmod (IntKind.i64.wrap p0) (5 : Int))))), (8, .ptr (some (h6.size, 0))), (9, .int .i64 x8), (10, .int .i64 x9), (61, .tuple [.agg (e_S_option_Config x10), .int .i64 x11, .int .i64 x12])] H (fun fr => by kernel_rfl) (fun fr => Steps.call (by kernel_rfl) hr) ?_
       intro fr t H
       refine at_seg [(3, []), (4, []), (5, []), (6, [])] [(1, .bool p1), (5, .int .i64 (IntKind.i64.wrap ((254 : Int) + (Int.tmod (IntKind.i64.wrap p0) (5 : Int))))), (8, .ptr (some (h6.size, 0))), (9, .int .i64 x8), (10, .int .i64 x9), (62, .agg (e_S_option_Config x10)), (63, .int .i64 x11), (64, .int .i64 x12)] H (noU_all rfl) (fun fr => by kernel_rfl) ?_
       intro fr H
       obtain ⟨h11, e3⟩ : ∃ x, x = h10.push (.cells none 2 [.slice none 0, .slice none 0, .slice none 0, .bool false, .bool false, .int .i64 (0 : Int), .bool false, .int .i64 (0 : Int), .int .i64 (0 : Int), .int .i64 (0 : Int), .int .i64 (0 : Int), .int .i64 (0 : Int), .int .i64 (0 : Int), .int .i64 (0 : Int)]) := ⟨_, rfl⟩
       replace A := (A.push _).to e3
       refine at_step (v := .ptr (some (h10.size, 0))) (h1 := h11) [(1, .bool p1), (5, .int .i64 (IntKind.i64.wrap ((254 : Int) + (Int.tmod (IntKind.i64.wrap p0) (5 : Int))))), (8, .ptr (some (h6.size, 0))), (9, .int .i64 x8), (10, .int .i64 x9), (11, .ptr (some (h10.size, 0))), (62, .agg (e_S_option_Config x10)), (63, .int .i64 x11), (64, .int .i64 x12)] H (fun fr => by kernel_rfl) (fun fr => .of (s_n' (by kernel_rfl) (congrArg some e3.symm))) ?_
       intro fr t H
       obtain ⟨h12, hx, A1⟩ := A.st 0 rfl (o := 0) (new := [vs e_S_pattern_Rule x10.Includes, vs e_S_pattern_Rule x10.Excludes, vs e_S_rewrite_Expr x10.Exprs, .bool x10.Vcs, .bool x10.Backups, .int .i64 x10.Caches, .bool x10.Dated, .int .i64 x10.Newer.Sec, .int .i64 x10.Newer.Nsec, .int .i64 x10.Nth, .int .i64 x10.Strip, .int .i64 x10.Name, .int .i64 x10.Head, .int .i64 x10.States]) (ds := [vs e_S_pattern_Rule x10.Includes, vs e_S_pattern_Rule x10.Excludes, vs e_S_rewrite_Expr x10.Exprs, .bool x10.Vcs, .bool x10.Backups, .int .i64 x10.Caches, .bool x10.Dated, .int .i64 x10.Newer.Sec, .int .i64 x10.Newer.Nsec, .int .i64 x10.Nth, .int .i64 x10.Strip, .int .i64 x10.Name, .int .i64 x10.Head, .int .i64 x10.States]) (Nat.le_of_ble_eq_true rfl) rfl rfl
       replace A : HH g h12 [.obj h10.size (.cells none 2 (e_S_option_Config x10)), .lst (some h8.size) 5 (lst eY (List.replicate (65537 : Int).toNat (0 : UInt8))), .obj h6.size (.cells none 2 (e_S_option_Config x7))] F := A1
       refine at_step (v := .tuple []) (h1 := h12) [(1, .bool p1), (5, .int .i64 (IntKind.i64.wrap ((254 : Int) + (Int.tmod (IntKind.i64.wrap p0) (5 : Int))))), (8, .ptr (some (h6.size, 0))), (9, .int .i64 x8), (10, .int .i64 x9), (63, .int .i64 x11), (64, .int .i64 x12)] H (fun fr => by kernel_rfl) (fun fr => .of (s_stG (by kernel_rfl) (stG_st hx rfl))) ?_
       intro fr t H
       refine at_seg [(9, []), (10, [])] [(1, .bool p1), (5, .int .i64 (IntKind.i64.wrap ((254 : Int) + (Int.tmod (IntKind.i64.wrap p0) (5 : Int))))), (8, .ptr (some (h6.size, 0))), (9, .int .i64 x8), (10, .int .i64 x9), (12, .int .i64 x11), (13, .int .i64 x12)] H (noU_all rfl) (fun fr => by kernel_rfl) ?_
       intro fr H
       refine at_nil ?_
       show AW cfg 6 g (right (right (right (right (right (right (right (right (bodyC cfg.P 6))))))))) fr h12 _
       refine aw_seq (by kernel_rfl) ?_
       refine aw_seq (by kernel_rfl) ?_
       refine aw_reg (id := 19) (n := 6) [(0, []), (1, []), (2, []), (3, []), (4, []), (5, [])] (by kernel_rfl) (by kernel_rfl) ?_
       refine at_seg [(0, []), (1, []), (2, [])] [(1, .bool p1), (5, .int .i64 (IntKind.i64.wrap ((254 : Int) + (Int.tmod (IntKind.i64.wrap p0) (5 : Int))))), (8, .ptr (some (h6.size, 0))), (9, .int .i64 x8), (10, .int .i64 x9), (12, .int .i64 x11), (67, .bool (x12 != (12 : Int)))] H (noU_all rfl) (fun fr => by kernel_rfl) ?_
       intro fr H
       refine at_cut [(3, []), (4, []), (5, [])] (fun fr' h' => h12 = h' ∧ Has fr' 105 [(1, .bool p1), (5, .int .i64 (IntKind.i64.wrap ((254 : Int) + (Int.tmod (IntKind.i64.wrap p0) (5 : Int))))), (8, .ptr (some (h6.size, 0))), (9, .int .i64 x8), (10, .int .i64 x9), (70, .bool ((x12 != (12 : Int)) || (x11 != (0 : Int))))]) ?_ ?_
       ·cases hb : (x12 != (12 : Int) : Bool) with
        | true =>
         replace H := H.know 67 hb (by kernel_rfl)
         refine at_seg [(3, []), (4, []), (5, [])] [(1, .bool p1), (5, .int .i64 (IntKind.i64.wrap ((254 : Int) + (Int.tmod (IntKind.i64.wrap p0) (5 : Int))))), (8, .ptr (some (h6.size, 0))), (9, .int .i64 x8), (10, .int .i64 x9), (70, .bool true)] H (noU_all rfl) (fun fr => by kernel_rfl) ?_
         intro fr H
         exact at_nil ⟨rfl, by first | exact H.less _ (fun fr => by rfl) | exact H.less _ (fun fr => by rw [hb]; rfl)⟩
        | false =>
         replace H := H.know 67 hb (by kernel_rfl)
         refine at_seg [(3, []), (4, []), (5, [])] [(1, .bool p1), (5, .int .i64 (IntKind.i64.wrap ((254 : Int) + (Int.tmod (IntKind.i64.wrap p0) (5 : Int))))), (8, .ptr (some (h6.size, 0))), (9, .int .i64 x8), (10, .int .i64 x9), (70, .bool (x11 != (0 : Int)))] H (noU_all rfl) (fun fr => by kernel_rfl) ?_
         intro fr H
         exact at_nil ⟨rfl, by first | exact H.less _ (fun fr => by rfl) | exact H.less _ (fun fr => by rw [hb]; rfl)⟩
       ·intro t fr h' hK
        obtain ⟨e, H⟩ := hK
        subst e
        refine at_nil ?_
        show AW cfg 6 g (right (left (right (right (right (right (right (right (right (right (bodyC cfg.P 6))))))))))) fr h12 _
        rcases iteB_some hm with ⟨hb, hm⟩ | ⟨hb, hm⟩
        ·replace H := H.know 70 hb (by kernel_rfl)
         refine aw_true (x := .tmp 70) (by kernel_rfl) H (fun fr => by kernel_rfl) ?_
         refine aw_seq (by kernel_rfl) ?_
         refine aw_reg (id := 20) (n := 1) [(0, [])] (by kernel_rfl) (by kernel_rfl) ?_
         refine at_seg [(0, [])] [(4, .bool false)] H (noU_all rfl) (fun fr => by kernel_rfl) ?_
         intro fr H
         refine at_nil ?_
         show AW cfg 6 g (right (left (right (left (right (right (right (right (right (right (right (right (bodyC cfg.P 6))))))))))))) fr h12 _
         refine aw_ret (by kernel_rfl) ?_
         have e1 := Option.some.inj hm
         subst e1
         refine ⟨.inl rfl, .bool false, resH H (fun fr => by kernel_rfl), ?_⟩
         replace A : HH g h12 [] F := (HH.dropF A 0)
         exact ⟨rfl, A⟩
        ·replace H := H.know 70 hb (by kernel_rfl)
         refine aw_false (x := .tmp 70) (by kernel_rfl) H (fun fr => by kernel_rfl) ?_
         refine aw_skip (by kernel_rfl) ?_
         show AW cfg 6 g (right (right (right (right (right (right (right (right (right (bodyC cfg.P 6)))))))))) fr h12 _
         refine aw_seq (by kernel_rfl) ?_
         refine aw_seq (by kernel_rfl) ?_
         refine aw_reg (id := 21) (n := 2) [(0, []), (1, [])] (by kernel_rfl) (by kernel_rfl) ?_
         refine at_seg [(0, []), (1, [])] [(1, .bool p1), (5, .int .i64 (IntKind.i64.wrap ((254 : Int) + (Int.tmod (IntKind.i64.wrap p0) (5 : Int))))), (8, .ptr (some (h6.size, 0))), (9, .int .i64 x8), (10, .int .i64 x9), (72, .bool (decide ((IntKind.i64.wrap ((254 : Int) + (Int.tmod (IntKind.i64.wrap p0) (5 : Int)))) > (256 : Int))))] H (noU_all rfl) (fun fr => by kernel_rfl) ?_
         intro fr H
         refine at_nil ?_
         show AW cfg 6 g (right (left (right (right (right (right (right (right (right (right (right (bodyC cfg.P 6)))))))))))) fr h12 _
         rcases iteB_some hm with ⟨hb, hm⟩ | ⟨hb, hm⟩
         ·replace H := H.know 72 hb (by kernel_rfl)
          refine aw_true (x := .tmp 72) (by kernel_rfl) H (fun fr => by kernel_rfl) ?_
          refine aw_seq (by kernel_rfl) ?_
          refine aw_reg (id := 22) (n := 1) [(0, [])] (by kernel_rfl) (by kernel_rfl) ?_
          refine at_seg [(0, [])] [(1, .bool p1), (8, .ptr (some (h6.size, 0))), (9, .int .i64 x8), (10, .int .i64 x9), (14, .int .i64 (2560 : Int))] H (noU_all rfl) (fun fr => by kernel_rfl) ?_
          intro fr H
          refine at_nil ?_
          show AW cfg 6 g (right (left (right (left (right (right (right (right (right (right (right (right (right (bodyC cfg.P 6)))))))))))))) fr h12 _
          refine aw_seq (by kernel_rfl) ?_
          obtain ⟨o5, ho, hm⟩ := bind_some hm
          refine aw_mono (Q' := fun e fr' h' => (∃ (x13 : Int), e = .normal ∧ x13 = o5 ∧ Has fr' 105 [(8, .ptr (some (h6.size, 0))), (9, .int .i64 x8), (10, .int .i64 x9), (14, .int .i64 x13)] ∧ HH g h' [.obj h10.size (.cells none 2 (e_S_option_Config x10)), .obj h6.size (.cells none 2 (e_S_option_Config x7))] F) ∨ False) ?_ ?_
          ·replace hm := ho
           clear ho
           refine aw_seq (by kernel_rfl) ?_
           refine aw_reg (id := 23) (n := 1) [(0, [])] (by kernel_rfl) (by kernel_rfl) ?_
           refine at_seg [(0, [])] [(8, .ptr (some (h6.size, 0))), (9, .int .i64 x8), (10, .int .i64 x9), (14, .int .i64 (2560 : Int)), (73, .bool p1)] H (noU_all rfl) (fun fr => by kernel_rfl) ?_
           intro fr H
           refine at_nil ?_
           show AW cfg 6 g (right (left (right (left (right (left (right (right (right (right (right (right (right (right (right (bodyC cfg.P 6)))))))))))))))) fr h12 _
           rcases iteB_some hm with ⟨hb, hm⟩ | ⟨hb, hm⟩
           ·replace H := H.know 73 hb (by kernel_rfl)
            refine aw_true (x := .tmp 73) (by kernel_rfl) H (fun fr => by kernel_rfl) ?_
            refine aw_reg (id := 24) (n := 1) [(0, [])] (by kernel_rfl) (by kernel_rfl) ?_
            refine at_seg [(0, [])] [(8, .ptr (some (h6.size, 0))), (9, .int .i64 x8), (10, .int .i64 x9), (14, .int .i64 (538 : Int))] H (noU_all rfl) (fun fr => by kernel_rfl) ?_
            intro fr H
            refine at_nil ?_
            replace A : HH g h12 [.obj h10.size (.cells none 2 (e_S_option_Config x10)), .obj h6.size (.cells none 2 (e_S_option_Config x7))] F := (HH.dropF ((A.front 2 rfl).front 1 rfl) 2)
            exact Or.inl ⟨(538 : Int), rfl, Option.some.inj hm, H.less _ (fun fr => by kernel_rfl), A⟩
           ·replace H := H.know 73 hb (by kernel_rfl)
            refine aw_false (x := .tmp 73) (by kernel_rfl) H (fun fr => by kernel_rfl) ?_
            refine aw_skip (by kernel_rfl) ?_
            replace A : HH g h12 [.obj h10.size (.cells none 2 (e_S_option_Config x10)), .obj h6.size (.cells none 2 (e_S_option_Config x7))] F := (HH.dropF ((A.front 2 rfl).front 1 rfl) 2)
            exact Or.inl ⟨(2560 : Int), rfl, Option.some.inj hm, H.less _ (fun fr => by kernel_rfl), A⟩
          ·clear ho
           clear A
           intro e fr h13 hQ
           rcases hQ with ⟨x13, rfl, rfl, H, A⟩ | hF
           ·skip
            show AW cfg 6 g (right (right (left (right (left (right (right (right (right (right (right (right (right (right (bodyC cfg.P 6))))))))))))))) fr h13 _
            refine aw_seq (by kernel_rfl) ?_
            refine aw_reg (id := 25) (n := 16) [(0, []), (1, []), (2, []), (3, []), (4, []), (5, []), (6, []), (7, []), (8, []), (9, []), (10, []), (11, []), (12, []), (13, []), (14, []), (15, [])] (by kernel_rfl) (by kernel_rfl) ?_
            refine at_seg [(0, []), (1, []), (2, [])] [(8, .ptr (some (h6.size, 0))), (9, .int .i64 x8), (14, .int .i64 x13), (76, .bool (x9 == (8 : Int)))] H (noU_all rfl) (fun fr => by kernel_rfl) ?_
            intro fr H
            refine at_cut [(3, []), (4, []), (5, []), (6, [])] (fun fr' h' => h13 = h' ∧ Has fr' 105 [(8, .ptr (some (h6.size, 0))), (80, .bool ((x9 == (8 : Int)) && (x8 == x13)))]) ?_ ?_
            ·cases hb : (x9 == (8 : Int) : Bool) with
             | true =>
              replace H := H.know 76 hb (by kernel_rfl)
              refine at_seg [(3, []), (4, []), (5, []), (6, [])] [(8, .ptr (some (h6.size, 0))), (80, .bool (x8 == x13))] H (noU_all rfl) (fun fr => by kernel_rfl) ?_
              intro fr H
              exact at_nil ⟨rfl, by first | exact H.less _ (fun fr => by rfl) | exact H.less _ (fun fr => by rw [hb]; rfl)⟩
             | false =>
              replace H := H.know 76 hb (by kernel_rfl)
              refine at_seg [(3, []), (4, []), (5, []), (6, [])] [(8, .ptr (some (h6.size, 0))), (80, .bool false)] H (noU_all rfl) (fun fr => by kernel_rfl) ?_
              intro fr H
              exact at_nil ⟨rfl, by first | exact H.less _ (fun fr => by rfl) | exact H.less _ (fun fr => by rw [hb]; rfl)⟩
            ·intro t fr h' hK
             obtain ⟨e, H⟩ := hK
             subst e
             refine at_seg [(7, [])] [(8, .ptr (some (h6.size, 0))), (81, .bool ((x9 == (8 : Int)) && (x8 == x13)))] H (noU_all rfl) (fun fr => by kernel_rfl) ?_
             intro fr H
             obtain ⟨x14, ho, hm⟩ := bind_some hm
             refine at_cut [(8, []), (9, []), (10, []), (11, [])] (fun fr' h' => Has fr' 105 [(85, .bool x14)] ∧ HH g h' [.obj h10.size (.cells none 2 (e_S_option_Config x10)), .obj h6.size (.cells none 2 (e_S_option_Config x7))] F) ?_ ?_
             ·rcases iteB_some ho with ⟨hb, hm⟩ | ⟨hb, hm⟩
              ·replace H := H.know 81 hb (by kernel_rfl)
               refine at_step (v := .agg (e_S_option_Config x7)) (h1 := h13) [(81, .bool true), (82, .agg (e_S_option_Config x7))] H (fun fr => by kernel_rfl) (fun fr => .of (s_ldA (by kernel_rfl) (A.ldA 1 rfl (o := 0) (n := 14) ⟨Nat.le_of_ble_eq_true rfl, rfl⟩))) ?_
               intro fr t H
               refine at_seg [(9, [])] [(81, .bool true), (82, .agg (e_S_option_Config x7)), (83, .agg [.slice none 0, .slice none 0, .slice none 0, .bool false, .bool false, .int .i64 (0 : Int), .bool false, .int .i64 (0 : Int), .int .i64 (0 : Int), .int .i64 (0 : Int), .int .i64 (0 : Int), .int .i64 (0 : Int), .int .i64 (0 : Int), .int .i64 (0 : Int)])] H (noU_all rfl) (fun fr => by kernel_rfl) ?_
               intro fr H
               have A1 := A.cut 0
               obtain ⟨x15, hx, hm⟩ := bind_some hm
               obtain ⟨v1, h15, hr, rfl, A1⟩ := ok_option_Equal (av := [.agg (e_S_option_Config x7), .agg [.slice none 0, .slice none 0, .slice none 0, .bool false, .bool false, .int .i64 (0 : Int), .bool false, .int .i64 (0 : Int), .int .i64 (0 : Int), .int .i64 (0 : Int), .int .i64 (0 : Int), .int .i64 (0 : Int), .int .i64 (0 : Int), .int .i64 (0 : Int)]]) hx (by kernel_rfl) A1
               replace A : HH g h15 [.obj h10.size (.cells none 2 (e_S_option_Config x10)), .obj h6.size (.cells none 2 (e_S_option_Config x7))] F := A.glue0 (n := 0) A1
               refine at_step (v := .bool x15) (h1 := h15) [(81, .bool true), (84, .bool x15)] H (fun fr => by kernel_rfl) (fun fr => Steps.call (by kernel_rfl) hr) ?_
               intro fr t H
               refine at_seg [(11, [])] [(85, .bool x15)] H (noU_all rfl) (fun fr => by kernel_rfl) ?_
               intro fr H
               have e1 := Option.some.inj hm
               subst e1
               exact at_nil ⟨H.less _ (fun fr => by kernel_rfl), A⟩
              ·replace H := H.know 81 hb (by kernel_rfl)
               refine at_seg [(8, []), (9, []), (10, []), (11, [])] [(85, .bool false)] H (noU_all rfl) (fun fr => by kernel_rfl) ?_
               intro fr H
               have e1 := Option.some.inj hm
               subst e1
               exact at_nil ⟨H.less _ (fun fr => by kernel_rfl), A⟩
             ·clear A
              intro t fr h14 hK
              obtain ⟨H, A⟩ := hK
              refine at_seg [(12, [])] [(86, .bool x14)] H (noU_all rfl) (fun fr => by kernel_rfl) ?_
              intro fr H
              refine at_cut [(13, []), (14, [])] (fun fr' h' => h14 = h' ∧ Has fr' 105 [(88, .bool (x14 || false))]) ?_ ?_
              ·cases hb : (x14 : Bool) with
               | true =>
                replace H := H.know 86 hb (by kernel_rfl)
                refine at_step (v := .bool true) (h1 := h14) [(86, .bool true), (87, .bool true)] H (fun fr => by kernel_rfl) (fun fr => Steps.call (by kernel_rfl) (runsTrue (C := cfg) (f := 17) (by kernel_rfl) (l := exts) rfl (by kernel_rfl))) ?_
                intro fr t H
                refine at_seg [(14, [])] [(88, .bool true)] H (noU_all rfl) (fun fr => by kernel_rfl) ?_
                intro fr H
                exact at_nil ⟨rfl, by first | exact H.less _ (fun fr => by rfl) | exact H.less _ (fun fr => by rw [hb]; rfl)⟩
               | false =>
                replace H := H.know 86 hb (by kernel_rfl)
                refine at_seg [(13, []), (14, [])] [(88, .bool false)] H (noU_all rfl) (fun fr => by kernel_rfl) ?_
                intro fr H
                exact at_nil ⟨rfl, by first | exact H.less _ (fun fr => by rfl) | exact H.less _ (fun fr => by rw [hb]; rfl)⟩
              ·intro t fr h' hK
               obtain ⟨e, H⟩ := hK
               subst e
               refine at_seg [(15, [])] [(4, .bool (x14 || false))] H (noU_all rfl) (fun fr => by kernel_rfl) ?_
               intro fr H
               refine at_nil ?_
               show AW cfg 6 g (right (right (right (left (right (left (right (right (right (right (right (right (right (right (right (bodyC cfg.P 6)))))))))))))))) fr h14 _
               refine aw_ret (by kernel_rfl) ?_
               have e1 := Option.some.inj hm
               subst e1
               refine ⟨.inl rfl, .bool (x14 || false), resH H (fun fr => by kernel_rfl), ?_⟩
               replace A : HH g h14 [] F := (HH.dropF A 0)
               exact ⟨rfl, A⟩
           ·exact hF.elim
         ·replace H := H.know 72 hb (by kernel_rfl)
          refine aw_false (x := .tmp 72) (by kernel_rfl) H (fun fr => by kernel_rfl) ?_
          refine aw_skip (by kernel_rfl) ?_
          show AW cfg 6 g (right (right (right (right (right (right (right (right (right (right (bodyC cfg.P 6))))))))))) fr h12 _
          refine aw_seq (by kernel_rfl) ?_
          refine aw_reg (id := 26) (n := 17) [(0, []), (1, []), (2, []), (3, []), (4, []), (5, []), (6, []), (7, []), (8, []), (9, []), (10, []), (11, []), (12, []), (13, []), (14, []), (15, []), (16, [])] (by kernel_rfl) (by kernel_rfl) ?_
          refine at_seg [(0, []), (1, []), (2, [])] [(5, .int .i64 (IntKind.i64.wrap ((254 : Int) + (Int.tmod (IntKind.i64.wrap p0) (5 : Int))))), (8, .ptr (some (h6.size, 0))), (91, .bool (x9 == (0 : Int)))] H (noU_all rfl) (fun fr => by kernel_rfl) ?_
          intro fr H
          refine at_cut [(3, []), (4, []), (5, []), (6, []), (7, []), (8, []), (9, []), (10, []), (11, []), (12, [])] (fun fr' h' => h12 = h' ∧ Has fr' 105 [(101, .bool ((x9 == (0 : Int)) && ((IntKind.i64.wrap ((x7.Includes.length : Int) + (x7.Excludes.length : Int))) == (IntKind.i64.wrap ((254 : Int) + (Int.tmod (IntKind.i64.wrap p0) (5 : Int)))))))]) ?_ ?_
          ·cases hb : (x9 == (0 : Int) : Bool) with
           | true =>
            replace H := H.know 91 hb (by kernel_rfl)
            refine at_seg [(3, [])] [(5, .int .i64 (IntKind.i64.wrap ((254 : Int) + (Int.tmod (IntKind.i64.wrap p0) (5 : Int))))), (8, .ptr (some (h6.size, 0))), (91, .bool true), (92, .ptr (some (h6.size, 0)))] H (noU_all rfl) (fun fr => by kernel_rfl) ?_
            intro fr H
            refine at_step (v := vs e_S_pattern_Rule x7.Includes) (h1 := h12) [(5, .int .i64 (IntKind.i64.wrap ((254 : Int) + (Int.tmod (IntKind.i64.wrap p0) (5 : Int))))), (8, .ptr (some (h6.size, 0))), (91, .bool true), (93, vs e_S_pattern_Rule x7.Includes)] H (fun fr => by kernel_rfl) (fun fr => .of (s_ld (by kernel_rfl) (A.ld1 2 rfl (o := 0) rfl))) ?_
            intro fr t H
            refine at_seg [(5, []), (6, [])] [(5, .int .i64 (IntKind.i64.wrap ((254 : Int) + (Int.tmod (IntKind.i64.wrap p0) (5 : Int))))), (91, .bool true), (94, .int .i64 (x7.Includes.length : Int)), (95, .ptr (some (h6.size, 1)))] H (noU_all rfl) (fun fr => by kernel_rfl) ?_
            intro fr H
            refine at_step (v := vs e_S_pattern_Rule x7.Excludes) (h1 := h12) [(5, .int .i64 (IntKind.i64.wrap ((254 : Int) + (Int.tmod (IntKind.i64.wrap p0) (5 : Int))))), (91, .bool true), (94, .int .i64 (x7.Includes.length : Int)), (96, vs e_S_pattern_Rule x7.Excludes)] H (fun fr => by kernel_rfl) (fun fr => .of (s_ld (by kernel_rfl) (A.ld1 2 rfl (o := 1) rfl))) ?_
            intro fr t H
            refine at_seg [(8, []), (9, []), (10, []), (11, []), (12, [])] [(101, .bool ((IntKind.i64.wrap ((x7.Includes.length : Int) + (x7.Excludes.length : Int))) == (IntKind.i64.wrap ((254 : Int) + (Int.tmod (IntKind.i64.wrap p0) (5 : Int))))))] H (noU_all rfl) (fun fr => by kernel_rfl) ?_
            intro fr H
            exact at_nil ⟨rfl, by first | exact H.less _ (fun fr => by rfl) | exact H.less _ (fun fr => by rw [hb]; rfl)⟩
           | false =>
            replace H := H.know 91 hb (by kernel_rfl)
            refine at_seg [(3, []), (4, []), (5, []), (6, []), (7, []), (8, []), (9, []), (10, []), (11, []), (12, [])] [(101, .bool false)] H (noU_all rfl) (fun fr => by kernel_rfl) ?_
            intro fr H
            exact at_nil ⟨rfl, by first | exact H.less _ (fun fr => by rfl) | exact H.less _ (fun fr => by rw [hb]; rfl)⟩
          ·intro t fr h' hK
           obtain ⟨e, H⟩ := hK
           subst e
           refine at_seg [(13, [])] [(102, .bool ((x9 == (0 : Int)) && ((IntKind.i64.wrap ((x7.Includes.length : Int) + (x7.Excludes.length : Int))) == (IntKind.i64.wrap ((254 : Int) + (Int.tmod (IntKind.i64.wrap p0) (5 : Int)))))))] H (noU_all rfl) (fun fr => by kernel_rfl) ?_
           intro fr H
           refine at_cut [(14, []), (15, [])] (fun fr' h' => h12 = h' ∧ Has fr' 105 [(104, .bool (((x9 == (0 : Int)) && ((IntKind.i64.wrap ((x7.Includes.length : Int) + (x7.Excludes.length : Int))) == (IntKind.i64.wrap ((254 : Int) + (Int.tmod (IntKind.i64.wrap p0) (5 : Int)))))) || false))]) ?_ ?_
           ·cases hb : ((x9 == (0 : Int)) && ((IntKind.i64.wrap ((x7.Includes.length : Int) + (x7.Excludes.length : Int))) == (IntKind.i64.wrap ((254 : Int) + (Int.tmod (IntKind.i64.wrap p0) (5 : Int))))) : Bool) with
            | true =>
             replace H := H.know 102 hb (by kernel_rfl)
             refine at_step (v := .bool true) (h1 := h12) [(102, .bool true), (103, .bool true)] H (fun fr => by kernel_rfl) (fun fr => Steps.call (by kernel_rfl) (runsTrue (C := cfg) (f := 17) (by kernel_rfl) (l := exts) rfl (by kernel_rfl))) ?_
             intro fr t H
             refine at_seg [(15, [])] [(104, .bool true)] H (noU_all rfl) (fun fr => by kernel_rfl) ?_
             intro fr H
             exact at_nil ⟨rfl, by first | exact H.less _ (fun fr => by rfl) | exact H.less _ (fun fr => by rw [hb]; rfl)⟩
            | false =>
             replace H := H.know 102 hb (by kernel_rfl)
             refine at_seg [(14, []), (15, [])] [(104, .bool false)] H (noU_all rfl) (fun fr => by kernel_rfl) ?_
             intro fr H
             exact at_nil ⟨rfl, by first | exact H.less _ (fun fr => by rfl) | exact H.less _ (fun fr => by rw [hb]; rfl)⟩
           ·intro t fr h' hK
            obtain ⟨e, H⟩ := hK
            subst e
            refine at_seg [(16, [])] [(4, .bool (((x9 == (0 : Int)) && ((IntKind.i64.wrap ((x7.Includes.length : Int) + (x7.Excludes.length : Int))) == (IntKind.i64.wrap ((254 : Int) + (Int.tmod (IntKind.i64.wrap p0) (5 : Int)))))) || false))] H (noU_all rfl) (fun fr => by kernel_rfl) ?_
            intro fr H
            refine at_nil ?_
            show AW cfg 6 g (right (right (right (right (right (right (right (right (right (right (right (bodyC cfg.P 6)))))))))))) fr h12 _
            refine aw_ret (by kernel_rfl) ?_
            have e1 := Option.some.inj hm
            subst e1
            refine ⟨.inl rfl, .bool (((x9 == (0 : Int)) && ((IntKind.i64.wrap ((x7.Includes.length : Int) + (x7.Excludes.length : Int))) == (IntKind.i64.wrap ((254 : Int) + (Int.tmod (IntKind.i64.wrap p0) (5 : Int)))))) || false), resH H (fun fr => by kernel_rfl), ?_⟩
            replace A : HH g h12 [] F := (HH.dropF A 0)
            exact ⟨rfl, A⟩
      ·exact hF.elim
    ·exact hF.elim
  ·exact hF.elim
end Go.Av.L
