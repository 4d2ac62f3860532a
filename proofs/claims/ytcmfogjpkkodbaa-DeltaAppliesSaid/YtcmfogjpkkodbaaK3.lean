/-
  Models of functions, and that the abstract run tells them. Written by lift2.py.
-/
import Derived.Test.YtcmfogjpkkodbaaKCfg
import Derived.Test.YtcmfogjpkkodbaaK0
import Derived.Test.YtcmfogjpkkodbaaK1
import Derived.Test.YtcmfogjpkkodbaaK2
namespace Go.Av.L
open Go.Av Go.Lib
set_option maxRecDepth 10000
set_option linter.unusedVariables false
set_option linter.unusedSimpArgs false
/-! ### boulter/boulterref07.Same -/
noncomputable def M_boulterref07_Same (p0 : S_api_Member) (p1 : S_api_Member) : Option (Bool) :=
 (iteB ((((((((((p0.Name == p1.Name) && (p0.Link == p1.Link)) && (p0.Kind == p1.Kind)) && (p0.Mode == p1.Mode)) && (p0.Uid == p1.Uid)) && (p0.Gid == p1.Gid)) && (p0.Uname == p1.Uname)) && (p0.Gname == p1.Gname)) && (p0.Major == p1.Major)) && (p0.Minor == p1.Minor)) ((eqG cfg.P 60 [.int .i64 p0.Time.Sec, .int .i64 p0.Time.Nsec] [.int .i64 p1.Time.Sec, .int .i64 p1.Time.Nsec]).bind fun x2 => some x2) (some false) : Option (Bool)).bind fun x1 => (iteB x1 ((M_boulterref06_Same p0.Extra p1.Extra).bind fun x4 => some x4) (some false) : Option (Bool)).bind fun x3 => some (x3 && (p0.Data == p1.Data))
theorem ok_boulterref07_Same {g : Gd} {h : AHeap} {F : List Ck} {p0 : S_api_Member} {p1 : S_api_Member} {q0 : Bool} {av : List AVal} (hm : M_boulterref07_Same p0 p1 = some q0) (hc : canL (cfg.still 43) av = [.agg (e_S_api_Member p0), .agg (e_S_api_Member p1)]) (A : HH g h [] F) : ∃ v h', Runs cfg g h 43 av v h' ∧ v = .bool q0 ∧ HH g h' [] F := by
  refine runsQ1 (n := 94) (rs := [.tmp 4]) (by kernel_rfl) hc (by kernel_rfl) ?_
  clear hc
  unfold M_boulterref07_Same at hm
  refine start (n := 94) [(0, .agg (e_S_api_Member p0)), (1, .agg (e_S_api_Member p1))] (by kernel_rfl) (by kernel_rfl) ?_
  intro fr H
  refine aw_seq (by kernel_rfl) ?_
  refine aw_reg (id := 0) (n := 3) [(0, []), (1, []), (2, [])] (by kernel_rfl) (by kernel_rfl) ?_
  obtain ⟨h1, e1⟩ : ∃ x, x = h.push (.cells none 2 (e_S_api_Member p0)) := ⟨_, rfl⟩
  replace A := (A.push _).to e1
  refine at_step (v := .ptr (some (h.size, 0))) (h1 := h1) [(1, .agg (e_S_api_Member p1)), (2, .ptr (some (h.size, 0)))] H (fun fr => by kernel_rfl) (fun fr => .of (s_n' (by kernel_rfl) (congrArg some e1.symm))) ?_
  intro fr t H
  obtain ⟨h2, e2⟩ : ∃ x, x = h1.push (.cells none 2 (e_S_api_Member p1)) := ⟨_, rfl⟩
  replace A := (A.push _).to e2
  refine at_step (v := .ptr (some (h1.size, 0))) (h1 := h2) [(2, .ptr (some (h.size, 0))), (3, .ptr (some (h1.size, 0)))] H (fun fr => by kernel_rfl) (fun fr => .of (s_n' (by kernel_rfl) (congrArg some e2.symm))) ?_
  intro fr t H
  refine at_seg [(2, [])] [(2, .ptr (some (h.size, 0))), (3, .ptr (some (h1.size, 0)))] H (noU_all rfl) (fun fr => by kernel_rfl) ?_
  intro fr H
  refine at_nil ?_
  show AW cfg 43 g (right (bodyC cfg.P 43)) fr h2 _
  refine aw_seq (by kernel_rfl) ?_
  refine aw_reg (id := 1) (n := 90) [(0, []), (1, []), (2, []), (3, []), (4, []), (5, []), (6, []), (7, []), (8, []), (9, []), (10, []), (11, []), (12, []), (13, []), (14, []), (15, []), (16, []), (17, []), (18, []), (19, []), (20, []), (21, []), (22, []), (23, []), (24, []), (25, []), (26, []), (27, []), (28, []), (29, []), (30, []), (31, []), (32, []), (33, []), (34, []), (35, []), (36, []), (37, []), (38, []), (39, []), (40, []), (41, []), (42, []), (43, []), (44, []), (45, []), (46, []), (47, []), (48, []), (49, []), (50, []), (51, []), (52, []), (53, []), (54, []), (55, []), (56, []), (57, []), (58, []), (59, []), (60, []), (61, []), (62, []), (63, []), (64, []), (65, []), (66, []), (67, []), (68, []), (69, []), (70, []), (71, []), (72, []), (73, []), (74, []), (75, []), (76, []), (77, []), (78, []), (79, []), (80, []), (81, []), (82, []), (83, []), (84, []), (85, []), (86, []), (87, []), (88, []), (89, [])] (by kernel_rfl) (by kernel_rfl) ?_
  refine at_seg [(0, [])] [(2, .ptr (some (h.size, 0))), (3, .ptr (some (h1.size, 0))), (5, .ptr (some (h.size, 0)))] H (noU_all rfl) (fun fr => by kernel_rfl) ?_
  intro fr H
  refine at_step (v := .str p0.Name) (h1 := h2) [(2, .ptr (some (h.size, 0))), (3, .ptr (some (h1.size, 0))), (6, .str p0.Name)] H (fun fr => by kernel_rfl) (fun fr => .of (s_ld (by kernel_rfl) (A.ld1 1 rfl (o := 0) rfl))) ?_
  intro fr t H
  refine at_seg [(2, [])] [(2, .ptr (some (h.size, 0))), (3, .ptr (some (h1.size, 0))), (6, .str p0.Name), (7, .ptr (some (h1.size, 0)))] H (noU_all rfl) (fun fr => by kernel_rfl) ?_
  intro fr H
  refine at_step (v := .str p1.Name) (h1 := h2) [(2, .ptr (some (h.size, 0))), (3, .ptr (some (h1.size, 0))), (6, .str p0.Name), (8, .str p1.Name)] H (fun fr => by kernel_rfl) (fun fr => .of (s_ld (by kernel_rfl) (A.ld1 0 rfl (o := 0) rfl))) ?_
  intro fr t H
  refine at_seg [(4, []), (5, [])] [(2, .ptr (some (h.size, 0))), (3, .ptr (some (h1.size, 0))), (10, .bool (p0.Name == p1.Name))] H (noU_all rfl) (fun fr => by kernel_rfl) ?_
  intro fr H
  refine at_cut [(6, []), (7, []), (8, []), (9, []), (10, []), (11, [])] (fun fr' h' => h2 = h' ∧ Has fr' 94 [(2, .ptr (some (h.size, 0))), (3, .ptr (some (h1.size, 0))), (16, .bool ((p0.Name == p1.Name) && (p0.Link == p1.Link)))]) ?_ ?_
  · cases hb : (p0.Name == p1.Name : Bool) with
    | true =>
      replace H := H.know 10 hb (by kernel_rfl)
      refine at_seg [(6, [])] [(2, .ptr (some (h.size, 0))), (3, .ptr (some (h1.size, 0))), (10, .bool true), (11, .ptr (some (h.size, 1)))] H (noU_all rfl) (fun fr => by kernel_rfl) ?_
      intro fr H
      refine at_step (v := .str p0.Link) (h1 := h2) [(2, .ptr (some (h.size, 0))), (3, .ptr (some (h1.size, 0))), (10, .bool true), (12, .str p0.Link)] H (fun fr => by kernel_rfl) (fun fr => .of (s_ld (by kernel_rfl) (A.ld1 1 rfl (o := 1) rfl))) ?_
      intro fr t H
      refine at_seg [(8, [])] [(2, .ptr (some (h.size, 0))), (3, .ptr (some (h1.size, 0))), (10, .bool true), (12, .str p0.Link), (13, .ptr (some (h1.size, 1)))] H (noU_all rfl) (fun fr => by kernel_rfl) ?_
      intro fr H
      refine at_step (v := .str p1.Link) (h1 := h2) [(2, .ptr (some (h.size, 0))), (3, .ptr (some (h1.size, 0))), (10, .bool true), (12, .str p0.Link), (14, .str p1.Link)] H (fun fr => by kernel_rfl) (fun fr => .of (s_ld (by kernel_rfl) (A.ld1 0 rfl (o := 1) rfl))) ?_
      intro fr t H
      refine at_seg [(10, []), (11, [])] [(2, .ptr (some (h.size, 0))), (3, .ptr (some (h1.size, 0))), (16, .bool (p0.Link == p1.Link))] H (noU_all rfl) (fun fr => by kernel_rfl) ?_
      intro fr H
      exact at_nil ⟨rfl, by first | exact H.less _ (fun fr => by rfl) | exact H.less _ (fun fr => by rw [hb]; rfl)⟩
    | false =>
      replace H := H.know 10 hb (by kernel_rfl)
      refine at_seg [(6, []), (7, []), (8, []), (9, []), (10, []), (11, [])] [(2, .ptr (some (h.size, 0))), (3, .ptr (some (h1.size, 0))), (16, .bool false)] H (noU_all rfl) (fun fr => by kernel_rfl) ?_
      intro fr H
      exact at_nil ⟨rfl, by first | exact H.less _ (fun fr => by rfl) | exact H.less _ (fun fr => by rw [hb]; rfl)⟩
  · intro t fr h' hK
    obtain ⟨e, H⟩ := hK
    subst e
    refine at_seg [(12, [])] [(2, .ptr (some (h.size, 0))), (3, .ptr (some (h1.size, 0))), (17, .bool ((p0.Name == p1.Name) && (p0.Link == p1.Link)))] H (noU_all rfl) (fun fr => by kernel_rfl) ?_
    intro fr H
    refine at_cut [(13, []), (14, []), (15, []), (16, []), (17, []), (18, [])] (fun fr' h' => h2 = h' ∧ Has fr' 94 [(2, .ptr (some (h.size, 0))), (3, .ptr (some (h1.size, 0))), (23, .bool (((p0.Name == p1.Name) && (p0.Link == p1.Link)) && (p0.Kind == p1.Kind)))]) ?_ ?_
    · cases hb : ((p0.Name == p1.Name) && (p0.Link == p1.Link) : Bool) with
      | true =>
        replace H := H.know 17 hb (by kernel_rfl)
        refine at_seg [(13, [])] [(2, .ptr (some (h.size, 0))), (3, .ptr (some (h1.size, 0))), (17, .bool true), (18, .ptr (some (h.size, 2)))] H (noU_all rfl) (fun fr => by kernel_rfl) ?_
        intro fr H
        refine at_step (v := .int .u8 p0.Kind) (h1 := h2) [(2, .ptr (some (h.size, 0))), (3, .ptr (some (h1.size, 0))), (17, .bool true), (19, .int .u8 p0.Kind)] H (fun fr => by kernel_rfl) (fun fr => .of (s_ld (by kernel_rfl) (A.ld1 1 rfl (o := 2) rfl))) ?_
        intro fr t H
        refine at_seg [(15, [])] [(2, .ptr (some (h.size, 0))), (3, .ptr (some (h1.size, 0))), (17, .bool true), (19, .int .u8 p0.Kind), (20, .ptr (some (h1.size, 2)))] H (noU_all rfl) (fun fr => by kernel_rfl) ?_
        intro fr H
        refine at_step (v := .int .u8 p1.Kind) (h1 := h2) [(2, .ptr (some (h.size, 0))), (3, .ptr (some (h1.size, 0))), (17, .bool true), (19, .int .u8 p0.Kind), (21, .int .u8 p1.Kind)] H (fun fr => by kernel_rfl) (fun fr => .of (s_ld (by kernel_rfl) (A.ld1 0 rfl (o := 2) rfl))) ?_
        intro fr t H
        refine at_seg [(17, []), (18, [])] [(2, .ptr (some (h.size, 0))), (3, .ptr (some (h1.size, 0))), (23, .bool (p0.Kind == p1.Kind))] H (noU_all rfl) (fun fr => by kernel_rfl) ?_
        intro fr H
        exact at_nil ⟨rfl, by first | exact H.less _ (fun fr => by rfl) | exact H.less _ (fun fr => by rw [hb]; rfl)⟩
      | false =>
        replace H := H.know 17 hb (by kernel_rfl)
        refine at_seg [(13, []), (14, []), (15, []), (16, []), (17, []), (18, [])] [(2, .ptr (some (h.size, 0))), (3, .ptr (some (h1.size, 0))), (23, .bool false)] H (noU_all rfl) (fun fr => by kernel_rfl) ?_
        intro fr H
        exact at_nil ⟨rfl, by first | exact H.less _ (fun fr => by rfl) | exact H.less _ (fun fr => by rw [hb]; rfl)⟩
    · intro t fr h' hK
      obtain ⟨e, H⟩ := hK
      subst e
      refine at_seg [(19, [])] [(2, .ptr (some (h.size, 0))), (3, .ptr (some (h1.size, 0))), (24, .bool (((p0.Name == p1.Name) && (p0.Link == p1.Link)) && (p0.Kind == p1.Kind)))] H (noU_all rfl) (fun fr => by kernel_rfl) ?_
      intro fr H
      refine at_cut [(20, []), (21, []), (22, []), (23, []), (24, []), (25, [])] (fun fr' h' => h2 = h' ∧ Has fr' 94 [(2, .ptr (some (h.size, 0))), (3, .ptr (some (h1.size, 0))), (30, .bool ((((p0.Name == p1.Name) && (p0.Link == p1.Link)) && (p0.Kind == p1.Kind)) && (p0.Mode == p1.Mode)))]) ?_ ?_
      · cases hb : (((p0.Name == p1.Name) && (p0.Link == p1.Link)) && (p0.Kind == p1.Kind) : Bool) with
        | true =>
          replace H := H.know 24 hb (by kernel_rfl)
          refine at_seg [(20, [])] [(2, .ptr (some (h.size, 0))), (3, .ptr (some (h1.size, 0))), (24, .bool true), (25, .ptr (some (h.size, 3)))] H (noU_all rfl) (fun fr => by kernel_rfl) ?_
          intro fr H
          refine at_step (v := .int .i64 p0.Mode) (h1 := h2) [(2, .ptr (some (h.size, 0))), (3, .ptr (some (h1.size, 0))), (24, .bool true), (26, .int .i64 p0.Mode)] H (fun fr => by kernel_rfl) (fun fr => .of (s_ld (by kernel_rfl) (A.ld1 1 rfl (o := 3) rfl))) ?_
          intro fr t H
          refine at_seg [(22, [])] [(2, .ptr (some (h.size, 0))), (3, .ptr (some (h1.size, 0))), (24, .bool true), (26, .int .i64 p0.Mode), (27, .ptr (some (h1.size, 3)))] H (noU_all rfl) (fun fr => by kernel_rfl) ?_
          intro fr H
          refine at_step (v := .int .i64 p1.Mode) (h1 := h2) [(2, .ptr (some (h.size, 0))), (3, .ptr (some (h1.size, 0))), (24, .bool true), (26, .int .i64 p0.Mode), (28, .int .i64 p1.Mode)] H (fun fr => by kernel_rfl) (fun fr => .of (s_ld (by kernel_rfl) (A.ld1 0 rfl (o := 3) rfl))) ?_
          intro fr t H
          refine at_seg [(24, []), (25, [])] [(2, .ptr (some (h.size, 0))), (3, .ptr (some (h1.size, 0))), (30, .bool (p0.Mode == p1.Mode))] H (noU_all rfl) (fun fr => by kernel_rfl) ?_
          intro fr H
          exact at_nil ⟨rfl, by first | exact H.less _ (fun fr => by rfl) | exact H.less _ (fun fr => by rw [hb]; rfl)⟩
        | false =>
          replace H := H.know 24 hb (by kernel_rfl)
          refine at_seg [(20, []), (21, []), (22, []), (23, []), (24, []), (25, [])] [(2, .ptr (some (h.size, 0))), (3, .ptr (some (h1.size, 0))), (30, .bool false)] H (noU_all rfl) (fun fr => by kernel_rfl) ?_
          intro fr H
          exact at_nil ⟨rfl, by first | exact H.less _ (fun fr => by rfl) | exact H.less _ (fun fr => by rw [hb]; rfl)⟩
      · intro t fr h' hK
        obtain ⟨e, H⟩ := hK
        subst e
        refine at_seg [(26, [])] [(2, .ptr (some (h.size, 0))), (3, .ptr (some (h1.size, 0))), (31, .bool ((((p0.Name == p1.Name) && (p0.Link == p1.Link)) && (p0.Kind == p1.Kind)) && (p0.Mode == p1.Mode)))] H (noU_all rfl) (fun fr => by kernel_rfl) ?_
        intro fr H
        refine at_cut [(27, []), (28, []), (29, []), (30, []), (31, []), (32, [])] (fun fr' h' => h2 = h' ∧ Has fr' 94 [(2, .ptr (some (h.size, 0))), (3, .ptr (some (h1.size, 0))), (37, .bool (((((p0.Name == p1.Name) && (p0.Link == p1.Link)) && (p0.Kind == p1.Kind)) && (p0.Mode == p1.Mode)) && (p0.Uid == p1.Uid)))]) ?_ ?_
        · cases hb : ((((p0.Name == p1.Name) && (p0.Link == p1.Link)) && (p0.Kind == p1.Kind)) && (p0.Mode == p1.Mode) : Bool) with
          | true =>
            replace H := H.know 31 hb (by kernel_rfl)
            refine at_seg [(27, [])] [(2, .ptr (some (h.size, 0))), (3, .ptr (some (h1.size, 0))), (31, .bool true), (32, .ptr (some (h.size, 4)))] H (noU_all rfl) (fun fr => by kernel_rfl) ?_
            intro fr H
            refine at_step (v := .int .i64 p0.Uid) (h1 := h2) [(2, .ptr (some (h.size, 0))), (3, .ptr (some (h1.size, 0))), (31, .bool true), (33, .int .i64 p0.Uid)] H (fun fr => by kernel_rfl) (fun fr => .of (s_ld (by kernel_rfl) (A.ld1 1 rfl (o := 4) rfl))) ?_
            intro fr t H
            refine at_seg [(29, [])] [(2, .ptr (some (h.size, 0))), (3, .ptr (some (h1.size, 0))), (31, .bool true), (33, .int .i64 p0.Uid), (34, .ptr (some (h1.size, 4)))] H (noU_all rfl) (fun fr => by kernel_rfl) ?_
            intro fr H
            refine at_step (v := .int .i64 p1.Uid) (h1 := h2) [(2, .ptr (some (h.size, 0))), (3, .ptr (some (h1.size, 0))), (31, .bool true), (33, .int .i64 p0.Uid), (35, .int .i64 p1.Uid)] H (fun fr => by kernel_rfl) (fun fr => .of (s_ld (by kernel_rfl) (A.ld1 0 rfl (o := 4) rfl))) ?_
            intro fr t H
            refine at_seg [(31, []), (32, [])] [(2, .ptr (some (h.size, 0))), (3, .ptr (some (h1.size, 0))), (37, .bool (p0.Uid == p1.Uid))] H (noU_all rfl) (fun fr => by kernel_rfl) ?_
            intro fr H
            exact at_nil ⟨rfl, by first | exact H.less _ (fun fr => by rfl) | exact H.less _ (fun fr => by rw [hb]; rfl)⟩
          | false =>
            replace H := H.know 31 hb (by kernel_rfl)
            refine at_seg [(27, []), (28, []), (29, []), (30, []), (31, []), (32, [])] [(2, .ptr (some (h.size, 0))), (3, .ptr (some (h1.size, 0))), (37, .bool false)] H (noU_all rfl) (fun fr => by kernel_rfl) ?_
            intro fr H
            exact at_nil ⟨rfl, by first | exact H.less _ (fun fr => by rfl) | exact H.less _ (fun fr => by rw [hb]; rfl)⟩
        · intro t fr h' hK
          obtain ⟨e, H⟩ := hK
          subst e
          refine at_seg [(33, [])] [(2, .ptr (some (h.size, 0))), (3, .ptr (some (h1.size, 0))), (38, .bool (((((p0.Name == p1.Name) && (p0.Link == p1.Link)) && (p0.Kind == p1.Kind)) && (p0.Mode == p1.Mode)) && (p0.Uid == p1.Uid)))] H (noU_all rfl) (fun fr => by kernel_rfl) ?_
          intro fr H
          refine at_cut [(34, []), (35, []), (36, []), (37, []), (38, []), (39, [])] (fun fr' h' => h2 = h' ∧ Has fr' 94 [(2, .ptr (some (h.size, 0))), (3, .ptr (some (h1.size, 0))), (44, .bool ((((((p0.Name == p1.Name) && (p0.Link == p1.Link)) && (p0.Kind == p1.Kind)) && (p0.Mode == p1.Mode)) && (p0.Uid == p1.Uid)) && (p0.Gid == p1.Gid)))]) ?_ ?_
          · cases hb : (((((p0.Name == p1.Name) && (p0.Link == p1.Link)) && (p0.Kind == p1.Kind)) && (p0.Mode == p1.Mode)) && (p0.Uid == p1.Uid) : Bool) with
            | true =>
              replace H := H.know 38 hb (by kernel_rfl)
              refine at_seg [(34, [])] [(2, .ptr (some (h.size, 0))), (3, .ptr (some (h1.size, 0))), (38, .bool true), (39, .ptr (some (h.size, 5)))] H (noU_all rfl) (fun fr => by kernel_rfl) ?_
              intro fr H
              refine at_step (v := .int .i64 p0.Gid) (h1 := h2) [(2, .ptr (some (h.size, 0))), (3, .ptr (some (h1.size, 0))), (38, .bool true), (40, .int .i64 p0.Gid)] H (fun fr => by kernel_rfl) (fun fr => .of (s_ld (by kernel_rfl) (A.ld1 1 rfl (o := 5) rfl))) ?_
              intro fr t H
              refine at_seg [(36, [])] [(2, .ptr (some (h.size, 0))), (3, .ptr (some (h1.size, 0))), (38, .bool true), (40, .int .i64 p0.Gid), (41, .ptr (some (h1.size, 5)))] H (noU_all rfl) (fun fr => by kernel_rfl) ?_
              intro fr H
              refine at_step (v := .int .i64 p1.Gid) (h1 := h2) [(2, .ptr (some (h.size, 0))), (3, .ptr (some (h1.size, 0))), (38, .bool true), (40, .int .i64 p0.Gid), (42, .int .i64 p1.Gid)] H (fun fr => by kernel_rfl) (fun fr => .of (s_ld (by kernel_rfl) (A.ld1 0 rfl (o := 5) rfl))) ?_
              intro fr t H
              refine at_seg [(38, []), (39, [])] [(2, .ptr (some (h.size, 0))), (3, .ptr (some (h1.size, 0))), (44, .bool (p0.Gid == p1.Gid))] H (noU_all rfl) (fun fr => by kernel_rfl) ?_
              intro fr H
              exact at_nil ⟨rfl, by first | exact H.less _ (fun fr => by rfl) | exact H.less _ (fun fr => by rw [hb]; rfl)⟩
            | false =>
              replace H := H.know 38 hb (by kernel_rfl)
              refine at_seg [(34, []), (35, []), (36, []), (37, []), (38, []), (39, [])] [(2, .ptr (some (h.size, 0))), (3, .ptr (some (h1.size, 0))), (44, .bool false)] H (noU_all rfl) (fun fr => by kernel_rfl) ?_
              intro fr H
              exact at_nil ⟨rfl, by first | exact H.less _ (fun fr => by rfl) | exact H.less _ (fun fr => by rw [hb]; rfl)⟩
          · intro t fr h' hK
            obtain ⟨e, H⟩ := hK
            subst e
            refine at_seg [(40, [])] [(2, .ptr (some (h.size, 0))), (3, .ptr (some (h1.size, 0))), (45, .bool ((((((p0.Name == p1.Name) && (p0.Link == p1.Link)) && (p0.Kind == p1.Kind)) && (p0.Mode == p1.Mode)) && (p0.Uid == p1.Uid)) && (p0.Gid == p1.Gid)))] H (noU_all rfl) (fun fr => by kernel_rfl) ?_
            intro fr H
            refine at_cut [(41, []), (42, []), (43, []), (44, []), (45, []), (46, [])] (fun fr' h' => h2 = h' ∧ Has fr' 94 [(2, .ptr (some (h.size, 0))), (3, .ptr (some (h1.size, 0))), (51, .bool (((((((p0.Name == p1.Name) && (p0.Link == p1.Link)) && (p0.Kind == p1.Kind)) && (p0.Mode == p1.Mode)) && (p0.Uid == p1.Uid)) && (p0.Gid == p1.Gid)) && (p0.Uname == p1.Uname)))]) ?_ ?_
            · cases hb : ((((((p0.Name == p1.Name) && (p0.Link == p1.Link)) && (p0.Kind == p1.Kind)) && (p0.Mode == p1.Mode)) && (p0.Uid == p1.Uid)) && (p0.Gid == p1.Gid) : Bool) with
              | true =>
                replace H := H.know 45 hb (by kernel_rfl)
                refine at_seg [(41, [])] [(2, .ptr (some (h.size, 0))), (3, .ptr (some (h1.size, 0))), (45, .bool true), (46, .ptr (some (h.size, 6)))] H (noU_all rfl) (fun fr => by kernel_rfl) ?_
                intro fr H
                refine at_step (v := .str p0.Uname) (h1 := h2) [(2, .ptr (some (h.size, 0))), (3, .ptr (some (h1.size, 0))), (45, .bool true), (47, .str p0.Uname)] H (fun fr => by kernel_rfl) (fun fr => .of (s_ld (by kernel_rfl) (A.ld1 1 rfl (o := 6) rfl))) ?_
                intro fr t H
                refine at_seg [(43, [])] [(2, .ptr (some (h.size, 0))), (3, .ptr (some (h1.size, 0))), (45, .bool true), (47, .str p0.Uname), (48, .ptr (some (h1.size, 6)))] H (noU_all rfl) (fun fr => by kernel_rfl) ?_
                intro fr H
                refine at_step (v := .str p1.Uname) (h1 := h2) [(2, .ptr (some (h.size, 0))), (3, .ptr (some (h1.size, 0))), (45, .bool true), (47, .str p0.Uname), (49, .str p1.Uname)] H (fun fr => by kernel_rfl) (fun fr => .of (s_ld (by kernel_rfl) (A.ld1 0 rfl (o := 6) rfl))) ?_
                intro fr t H
                refine at_seg [(45, []), (46, [])] [(2, .ptr (some (h.size, 0))), (3, .ptr (some (h1.size, 0))), (51, .bool (p0.Uname == p1.Uname))] H (noU_all rfl) (fun fr => by kernel_rfl) ?_
                intro fr H
                exact at_nil ⟨rfl, by first | exact H.less _ (fun fr => by rfl) | exact H.less _ (fun fr => by rw [hb]; rfl)⟩
              | false =>
                replace H := H.know 45 hb (by kernel_rfl)
                refine at_seg [(41, []), (42, []), (43, []), (44, []), (45, []), (46, [])] [(2, .ptr (some (h.size, 0))), (3, .ptr (some (h1.size, 0))), (51, .bool false)] H (noU_all rfl) (fun fr => by kernel_rfl) ?_
                intro fr H
                exact at_nil ⟨rfl, by first | exact H.less _ (fun fr => by rfl) | exact H.less _ (fun fr => by rw [hb]; rfl)⟩
            · intro t fr h' hK
              obtain ⟨e, H⟩ := hK
              subst e
              refine at_seg [(47, [])] [(2, .ptr (some (h.size, 0))), (3, .ptr (some (h1.size, 0))), (52, .bool (((((((p0.Name == p1.Name) && (p0.Link == p1.Link)) && (p0.Kind == p1.Kind)) && (p0.Mode == p1.Mode)) && (p0.Uid == p1.Uid)) && (p0.Gid == p1.Gid)) && (p0.Uname == p1.Uname)))] H (noU_all rfl) (fun fr => by kernel_rfl) ?_
              intro fr H
              refine at_cut [(48, []), (49, []), (50, []), (51, []), (52, []), (53, [])] (fun fr' h' => h2 = h' ∧ Has fr' 94 [(2, .ptr (some (h.size, 0))), (3, .ptr (some (h1.size, 0))), (58, .bool ((((((((p0.Name == p1.Name) && (p0.Link == p1.Link)) && (p0.Kind == p1.Kind)) && (p0.Mode == p1.Mode)) && (p0.Uid == p1.Uid)) && (p0.Gid == p1.Gid)) && (p0.Uname == p1.Uname)) && (p0.Gname == p1.Gname)))]) ?_ ?_
              · cases hb : (((((((p0.Name == p1.Name) && (p0.Link == p1.Link)) && (p0.Kind == p1.Kind)) && (p0.Mode == p1.Mode)) && (p0.Uid == p1.Uid)) && (p0.Gid == p1.Gid)) && (p0.Uname == p1.Uname) : Bool) with
                | true =>
                  replace H := H.know 52 hb (by kernel_rfl)
                  refine at_seg [(48, [])] [(2, .ptr (some (h.size, 0))), (3, .ptr (some (h1.size, 0))), (52, .bool true), (53, .ptr (some (h.size, 7)))] H (noU_all rfl) (fun fr => by kernel_rfl) ?_
                  intro fr H
                  refine at_step (v := .str p0.Gname) (h1 := h2) [(2, .ptr (some (h.size, 0))), (3, .ptr (some (h1.size, 0))), (52, .bool true), (54, .str p0.Gname)] H (fun fr => by kernel_rfl) (fun fr => .of (s_ld (by kernel_rfl) (A.ld1 1 rfl (o := 7) rfl))) ?_
                  intro fr t H
                  refine at_seg [(50, [])] [(2, .ptr (some (h.size, 0))), (3, .ptr (some (h1.size, 0))), (52, .bool true), (54, .str p0.Gname), (55, .ptr (some (h1.size, 7)))] H (noU_all rfl) (fun fr => by kernel_rfl) ?_
                  intro fr H
                  refine at_step (v := .str p1.Gname) (h1 := h2) [(2, .ptr (some (h.size, 0))), (3, .ptr (some (h1.size, 0))), (52, .bool true), (54, .str p0.Gname), (56, .str p1.Gname)] H (fun fr => by kernel_rfl) (fun fr => .of (s_ld (by kernel_rfl) (A.ld1 0 rfl (o := 7) rfl))) ?_
                  intro fr t H
                  refine at_seg [(52, []), (53, [])] [(2, .ptr (some (h.size, 0))), (3, .ptr (some (h1.size, 0))), (58, .bool (p0.Gname == p1.Gname))] H (noU_all rfl) (fun fr => by kernel_rfl) ?_
                  intro fr H
                  exact at_nil ⟨rfl, by first | exact H.less _ (fun fr => by rfl) | exact H.less _ (fun fr => by rw [hb]; rfl)⟩
                | false =>
                  replace H := H.know 52 hb (by kernel_rfl)
                  refine at_seg [(48, []), (49, []), (50, []), (51, []), (52, []), (53, [])] [(2, .ptr (some (h.size, 0))), (3, .ptr (some (h1.size, 0))), (58, .bool false)] H (noU_all rfl) (fun fr => by kernel_rfl) ?_
                  intro fr H
                  exact at_nil ⟨rfl, by first | exact H.less _ (fun fr => by rfl) | exact H.less _ (fun fr => by rw [hb]; rfl)⟩
              · intro t fr h' hK
                obtain ⟨e, H⟩ := hK
                subst e
                refine at_seg [(54, [])] [(2, .ptr (some (h.size, 0))), (3, .ptr (some (h1.size, 0))), (59, .bool ((((((((p0.Name == p1.Name) && (p0.Link == p1.Link)) && (p0.Kind == p1.Kind)) && (p0.Mode == p1.Mode)) && (p0.Uid == p1.Uid)) && (p0.Gid == p1.Gid)) && (p0.Uname == p1.Uname)) && (p0.Gname == p1.Gname)))] H (noU_all rfl) (fun fr => by kernel_rfl) ?_
                intro fr H
                refine at_cut [(55, []), (56, []), (57, []), (58, []), (59, []), (60, [])] (fun fr' h' => h2 = h' ∧ Has fr' 94 [(2, .ptr (some (h.size, 0))), (3, .ptr (some (h1.size, 0))), (65, .bool (((((((((p0.Name == p1.Name) && (p0.Link == p1.Link)) && (p0.Kind == p1.Kind)) && (p0.Mode == p1.Mode)) && (p0.Uid == p1.Uid)) && (p0.Gid == p1.Gid)) && (p0.Uname == p1.Uname)) && (p0.Gname == p1.Gname)) && (p0.Major == p1.Major)))]) ?_ ?_
                · cases hb : ((((((((p0.Name == p1.Name) && (p0.Link == p1.Link)) && (p0.Kind == p1.Kind)) && (p0.Mode == p1.Mode)) && (p0.Uid == p1.Uid)) && (p0.Gid == p1.Gid)) && (p0.Uname == p1.Uname)) && (p0.Gname == p1.Gname) : Bool) with
                  | true =>
                    replace H := H.know 59 hb (by kernel_rfl)
                    refine at_seg [(55, [])] [(2, .ptr (some (h.size, 0))), (3, .ptr (some (h1.size, 0))), (59, .bool true), (60, .ptr (some (h.size, 8)))] H (noU_all rfl) (fun fr => by kernel_rfl) ?_
                    intro fr H
                    refine at_step (v := .int .i64 p0.Major) (h1 := h2) [(2, .ptr (some (h.size, 0))), (3, .ptr (some (h1.size, 0))), (59, .bool true), (61, .int .i64 p0.Major)] H (fun fr => by kernel_rfl) (fun fr => .of (s_ld (by kernel_rfl) (A.ld1 1 rfl (o := 8) rfl))) ?_
                    intro fr t H
                    refine at_seg [(57, [])] [(2, .ptr (some (h.size, 0))), (3, .ptr (some (h1.size, 0))), (59, .bool true), (61, .int .i64 p0.Major), (62, .ptr (some (h1.size, 8)))] H (noU_all rfl) (fun fr => by kernel_rfl) ?_
                    intro fr H
                    refine at_step (v := .int .i64 p1.Major) (h1 := h2) [(2, .ptr (some (h.size, 0))), (3, .ptr (some (h1.size, 0))), (59, .bool true), (61, .int .i64 p0.Major), (63, .int .i64 p1.Major)] H (fun fr => by kernel_rfl) (fun fr => .of (s_ld (by kernel_rfl) (A.ld1 0 rfl (o := 8) rfl))) ?_
                    intro fr t H
                    refine at_seg [(59, []), (60, [])] [(2, .ptr (some (h.size, 0))), (3, .ptr (some (h1.size, 0))), (65, .bool (p0.Major == p1.Major))] H (noU_all rfl) (fun fr => by kernel_rfl) ?_
                    intro fr H
                    exact at_nil ⟨rfl, by first | exact H.less _ (fun fr => by rfl) | exact H.less _ (fun fr => by rw [hb]; rfl)⟩
                  | false =>
                    replace H := H.know 59 hb (by kernel_rfl)
                    refine at_seg [(55, []), (56, []), (57, []), (58, []), (59, []), (60, [])] [(2, .ptr (some (h.size, 0))), (3, .ptr (some (h1.size, 0))), (65, .bool false)] H (noU_all rfl) (fun fr => by kernel_rfl) ?_
                    intro fr H
                    exact at_nil ⟨rfl, by first | exact H.less _ (fun fr => by rfl) | exact H.less _ (fun fr => by rw [hb]; rfl)⟩
                · intro t fr h' hK
                  obtain ⟨e, H⟩ := hK
                  subst e
                  refine at_seg [(61, [])] [(2, .ptr (some (h.size, 0))), (3, .ptr (some (h1.size, 0))), (66, .bool (((((((((p0.Name == p1.Name) && (p0.Link == p1.Link)) && (p0.Kind == p1.Kind)) && (p0.Mode == p1.Mode)) && (p0.Uid == p1.Uid)) && (p0.Gid == p1.Gid)) && (p0.Uname == p1.Uname)) && (p0.Gname == p1.Gname)) && (p0.Major == p1.Major)))] H (noU_all rfl) (fun fr => by kernel_rfl) ?_
                  intro fr H
                  refine at_cut [(62, []), (63, []), (64, []), (65, []), (66, []), (67, [])] (fun fr' h' => h2 = h' ∧ Has fr' 94 [(2, .ptr (some (h.size, 0))), (3, .ptr (some (h1.size, 0))), (72, .bool ((((((((((p0.Name == p1.Name) && (p0.Link == p1.Link)) && (p0.Kind == p1.Kind)) && (p0.Mode == p1.Mode)) && (p0.Uid == p1.Uid)) && (p0.Gid == p1.Gid)) && (p0.Uname == p1.Uname)) && (p0.Gname == p1.Gname)) && (p0.Major == p1.Major)) && (p0.Minor == p1.Minor)))]) ?_ ?_
                  · cases hb : (((((((((p0.Name == p1.Name) && (p0.Link == p1.Link)) && (p0.Kind == p1.Kind)) && (p0.Mode == p1.Mode)) && (p0.Uid == p1.Uid)) && (p0.Gid == p1.Gid)) && (p0.Uname == p1.Uname)) && (p0.Gname == p1.Gname)) && (p0.Major == p1.Major) : Bool) with
                    | true =>
                      replace H := H.know 66 hb (by kernel_rfl)
                      refine at_seg [(62, [])] [(2, .ptr (some (h.size, 0))), (3, .ptr (some (h1.size, 0))), (66, .bool true), (67, .ptr (some (h.size, 9)))] H (noU_all rfl) (fun fr => by kernel_rfl) ?_
                      intro fr H
                      refine at_step (v := .int .i64 p0.Minor) (h1 := h2) [(2, .ptr (some (h.size, 0))), (3, .ptr (some (h1.size, 0))), (66, .bool true), (68, .int .i64 p0.Minor)] H (fun fr => by kernel_rfl) (fun fr => .of (s_ld (by kernel_rfl) (A.ld1 1 rfl (o := 9) rfl))) ?_
                      intro fr t H
                      refine at_seg [(64, [])] [(2, .ptr (some (h.size, 0))), (3, .ptr (some (h1.size, 0))), (66, .bool true), (68, .int .i64 p0.Minor), (69, .ptr (some (h1.size, 9)))] H (noU_all rfl) (fun fr => by kernel_rfl) ?_
                      intro fr H
                      refine at_step (v := .int .i64 p1.Minor) (h1 := h2) [(2, .ptr (some (h.size, 0))), (3, .ptr (some (h1.size, 0))), (66, .bool true), (68, .int .i64 p0.Minor), (70, .int .i64 p1.Minor)] H (fun fr => by kernel_rfl) (fun fr => .of (s_ld (by kernel_rfl) (A.ld1 0 rfl (o := 9) rfl))) ?_
                      intro fr t H
                      refine at_seg [(66, []), (67, [])] [(2, .ptr (some (h.size, 0))), (3, .ptr (some (h1.size, 0))), (72, .bool (p0.Minor == p1.Minor))] H (noU_all rfl) (fun fr => by kernel_rfl) ?_
                      intro fr H
                      exact at_nil ⟨rfl, by first | exact H.less _ (fun fr => by rfl) | exact H.less _ (fun fr => by rw [hb]; rfl)⟩
                    | false =>
                      replace H := H.know 66 hb (by kernel_rfl)
                      refine at_seg [(62, []), (63, []), (64, []), (65, []), (66, []), (67, [])] [(2, .ptr (some (h.size, 0))), (3, .ptr (some (h1.size, 0))), (72, .bool false)] H (noU_all rfl) (fun fr => by kernel_rfl) ?_
                      intro fr H
                      exact at_nil ⟨rfl, by first | exact H.less _ (fun fr => by rfl) | exact H.less _ (fun fr => by rw [hb]; rfl)⟩
                  · intro t fr h' hK
                    obtain ⟨e, H⟩ := hK
                    subst e
                    refine at_seg [(68, [])] [(2, .ptr (some (h.size, 0))), (3, .ptr (some (h1.size, 0))), (73, .bool ((((((((((p0.Name == p1.Name) && (p0.Link == p1.Link)) && (p0.Kind == p1.Kind)) && (p0.Mode == p1.Mode)) && (p0.Uid == p1.Uid)) && (p0.Gid == p1.Gid)) && (p0.Uname == p1.Uname)) && (p0.Gname == p1.Gname)) && (p0.Major == p1.Major)) && (p0.Minor == p1.Minor)))] H (noU_all rfl) (fun fr => by kernel_rfl) ?_
                    intro fr H
                    obtain ⟨x1, ho, hm⟩ := bind_some hm
                    refine at_cut [(69, []), (70, []), (71, []), (72, []), (73, []), (74, [])] (fun fr' h' => Has fr' 94 [(2, .ptr (some (h.size, 0))), (3, .ptr (some (h1.size, 0))), (79, .bool x1)] ∧ HH g h' [.obj h1.size (.cells none 2 (e_S_api_Member p1)), .obj h.size (.cells none 2 (e_S_api_Member p0))] F) ?_ ?_
                    · rcases iteB_some ho with ⟨hb, hm⟩ | ⟨hb, hm⟩
                      · replace H := H.know 73 hb (by kernel_rfl)
                        refine at_seg [(69, [])] [(2, .ptr (some (h.size, 0))), (3, .ptr (some (h1.size, 0))), (73, .bool true), (74, .ptr (some (h.size, 10)))] H (noU_all rfl) (fun fr => by kernel_rfl) ?_
                        intro fr H
                        refine at_step (v := .agg [.int .i64 p0.Time.Sec, .int .i64 p0.Time.Nsec]) (h1 := h2) [(2, .ptr (some (h.size, 0))), (3, .ptr (some (h1.size, 0))), (73, .bool true), (75, .agg [.int .i64 p0.Time.Sec, .int .i64 p0.Time.Nsec])] H (fun fr => by kernel_rfl) (fun fr => .of (s_ldA (by kernel_rfl) (A.ldA 1 rfl (o := 10) (n := 2) ⟨Nat.le_of_ble_eq_true rfl, rfl⟩))) ?_
                        intro fr t H
                        refine at_seg [(71, [])] [(2, .ptr (some (h.size, 0))), (3, .ptr (some (h1.size, 0))), (73, .bool true), (75, .agg [.int .i64 p0.Time.Sec, .int .i64 p0.Time.Nsec]), (76, .ptr (some (h1.size, 10)))] H (noU_all rfl) (fun fr => by kernel_rfl) ?_
                        intro fr H
                        refine at_step (v := .agg [.int .i64 p1.Time.Sec, .int .i64 p1.Time.Nsec]) (h1 := h2) [(2, .ptr (some (h.size, 0))), (3, .ptr (some (h1.size, 0))), (73, .bool true), (75, .agg [.int .i64 p0.Time.Sec, .int .i64 p0.Time.Nsec]), (77, .agg [.int .i64 p1.Time.Sec, .int .i64 p1.Time.Nsec])] H (fun fr => by kernel_rfl) (fun fr => .of (s_ldA (by kernel_rfl) (A.ldA 0 rfl (o := 10) (n := 2) ⟨Nat.le_of_ble_eq_true rfl, rfl⟩))) ?_
                        intro fr t H
                        obtain ⟨x2, hx, hm⟩ := bind_some hm
                        refine at_step (v := .bool x2) (h1 := h2) [(2, .ptr (some (h.size, 0))), (3, .ptr (some (h1.size, 0))), (73, .bool true), (78, .bool x2)] H (fun fr => by kernel_rfl) (fun fr => .of (s_eqG (by kernel_rfl) hx)) ?_
                        intro fr t H
                        refine at_seg [(74, [])] [(2, .ptr (some (h.size, 0))), (3, .ptr (some (h1.size, 0))), (79, .bool x2)] H (noU_all rfl) (fun fr => by kernel_rfl) ?_
                        intro fr H
                        have e1 := Option.some.inj hm
                        subst e1
                        exact at_nil ⟨H.less _ (fun fr => by kernel_rfl), A⟩
                      · replace H := H.know 73 hb (by kernel_rfl)
                        refine at_seg [(69, []), (70, []), (71, []), (72, []), (73, []), (74, [])] [(2, .ptr (some (h.size, 0))), (3, .ptr (some (h1.size, 0))), (79, .bool false)] H (noU_all rfl) (fun fr => by kernel_rfl) ?_
                        intro fr H
                        have e1 := Option.some.inj hm
                        subst e1
                        exact at_nil ⟨H.less _ (fun fr => by kernel_rfl), A⟩
                    · clear A
                      intro t fr h3 hK
                      obtain ⟨H, A⟩ := hK
                      refine at_seg [(75, [])] [(2, .ptr (some (h.size, 0))), (3, .ptr (some (h1.size, 0))), (80, .bool x1)] H (noU_all rfl) (fun fr => by kernel_rfl) ?_
                      intro fr H
                      obtain ⟨x3, ho, hm⟩ := bind_some hm
                      refine at_cut [(76, []), (77, []), (78, []), (79, []), (80, []), (81, [])] (fun fr' h' => Has fr' 94 [(2, .ptr (some (h.size, 0))), (3, .ptr (some (h1.size, 0))), (86, .bool x3)] ∧ HH g h' [.obj h1.size (.cells none 2 (e_S_api_Member p1)), .obj h.size (.cells none 2 (e_S_api_Member p0))] F) ?_ ?_
                      · rcases iteB_some ho with ⟨hb, hm⟩ | ⟨hb, hm⟩
                        · replace H := H.know 80 hb (by kernel_rfl)
                          refine at_seg [(76, [])] [(2, .ptr (some (h.size, 0))), (3, .ptr (some (h1.size, 0))), (80, .bool true), (81, .ptr (some (h.size, 12)))] H (noU_all rfl) (fun fr => by kernel_rfl) ?_
                          intro fr H
                          refine at_step (v := vs e_S_api_Pair p0.Extra) (h1 := h3) [(2, .ptr (some (h.size, 0))), (3, .ptr (some (h1.size, 0))), (80, .bool true), (82, vs e_S_api_Pair p0.Extra)] H (fun fr => by kernel_rfl) (fun fr => .of (s_ld (by kernel_rfl) (A.ld1 1 rfl (o := 12) rfl))) ?_
                          intro fr t H
                          refine at_seg [(78, [])] [(2, .ptr (some (h.size, 0))), (3, .ptr (some (h1.size, 0))), (80, .bool true), (82, vs e_S_api_Pair p0.Extra), (83, .ptr (some (h1.size, 12)))] H (noU_all rfl) (fun fr => by kernel_rfl) ?_
                          intro fr H
                          refine at_step (v := vs e_S_api_Pair p1.Extra) (h1 := h3) [(2, .ptr (some (h.size, 0))), (3, .ptr (some (h1.size, 0))), (80, .bool true), (82, vs e_S_api_Pair p0.Extra), (84, vs e_S_api_Pair p1.Extra)] H (fun fr => by kernel_rfl) (fun fr => .of (s_ld (by kernel_rfl) (A.ld1 0 rfl (o := 12) rfl))) ?_
                          intro fr t H
                          have A1 := A.cut 0
                          obtain ⟨x4, hx, hm⟩ := bind_some hm
                          obtain ⟨v1, h5, hr, rfl, A1⟩ := ok_boulterref06_Same (av := [vs e_S_api_Pair p0.Extra, vs e_S_api_Pair p1.Extra]) hx (by kernel_rfl) A1
                          replace A : HH g h5 [.obj h1.size (.cells none 2 (e_S_api_Member p1)), .obj h.size (.cells none 2 (e_S_api_Member p0))] F := A.glue0 (n := 0) A1
                          refine at_step (v := .bool x4) (h1 := h5) [(2, .ptr (some (h.size, 0))), (3, .ptr (some (h1.size, 0))), (80, .bool true), (85, .bool x4)] H (fun fr => by kernel_rfl) (fun fr => Steps.call (by kernel_rfl) hr) ?_
                          intro fr t H
                          refine at_seg [(81, [])] [(2, .ptr (some (h.size, 0))), (3, .ptr (some (h1.size, 0))), (86, .bool x4)] H (noU_all rfl) (fun fr => by kernel_rfl) ?_
                          intro fr H
                          have e1 := Option.some.inj hm
                          subst e1
                          exact at_nil ⟨H.less _ (fun fr => by kernel_rfl), A⟩
                        · replace H := H.know 80 hb (by kernel_rfl)
                          refine at_seg [(76, []), (77, []), (78, []), (79, []), (80, []), (81, [])] [(2, .ptr (some (h.size, 0))), (3, .ptr (some (h1.size, 0))), (86, .bool false)] H (noU_all rfl) (fun fr => by kernel_rfl) ?_
                          intro fr H
                          have e1 := Option.some.inj hm
                          subst e1
                          exact at_nil ⟨H.less _ (fun fr => by kernel_rfl), A⟩
                      · clear A
                        intro t fr h4 hK
                        obtain ⟨H, A⟩ := hK
                        refine at_seg [(82, [])] [(2, .ptr (some (h.size, 0))), (3, .ptr (some (h1.size, 0))), (87, .bool x3)] H (noU_all rfl) (fun fr => by kernel_rfl) ?_
                        intro fr H
                        refine at_cut [(83, []), (84, []), (85, []), (86, []), (87, []), (88, [])] (fun fr' h' => h4 = h' ∧ Has fr' 94 [(93, .bool (x3 && (p0.Data == p1.Data)))]) ?_ ?_
                        · cases hb : (x3 : Bool) with
                          | true =>
                            replace H := H.know 87 hb (by kernel_rfl)
                            refine at_seg [(83, [])] [(3, .ptr (some (h1.size, 0))), (87, .bool true), (88, .ptr (some (h.size, 13)))] H (noU_all rfl) (fun fr => by kernel_rfl) ?_
                            intro fr H
                            refine at_step (v := .str p0.Data) (h1 := h4) [(3, .ptr (some (h1.size, 0))), (87, .bool true), (89, .str p0.Data)] H (fun fr => by kernel_rfl) (fun fr => .of (s_ld (by kernel_rfl) (A.ld1 1 rfl (o := 13) rfl))) ?_
                            intro fr t H
                            refine at_seg [(85, [])] [(87, .bool true), (89, .str p0.Data), (90, .ptr (some (h1.size, 13)))] H (noU_all rfl) (fun fr => by kernel_rfl) ?_
                            intro fr H
                            refine at_step (v := .str p1.Data) (h1 := h4) [(87, .bool true), (89, .str p0.Data), (91, .str p1.Data)] H (fun fr => by kernel_rfl) (fun fr => .of (s_ld (by kernel_rfl) (A.ld1 0 rfl (o := 13) rfl))) ?_
                            intro fr t H
                            refine at_seg [(87, []), (88, [])] [(93, .bool (p0.Data == p1.Data))] H (noU_all rfl) (fun fr => by kernel_rfl) ?_
                            intro fr H
                            exact at_nil ⟨rfl, by first | exact H.less _ (fun fr => by rfl) | exact H.less _ (fun fr => by rw [hb]; rfl)⟩
                          | false =>
                            replace H := H.know 87 hb (by kernel_rfl)
                            refine at_seg [(83, []), (84, []), (85, []), (86, []), (87, []), (88, [])] [(93, .bool false)] H (noU_all rfl) (fun fr => by kernel_rfl) ?_
                            intro fr H
                            exact at_nil ⟨rfl, by first | exact H.less _ (fun fr => by rfl) | exact H.less _ (fun fr => by rw [hb]; rfl)⟩
                        · intro t fr h' hK
                          obtain ⟨e, H⟩ := hK
                          subst e
                          refine at_seg [(89, [])] [(4, .bool (x3 && (p0.Data == p1.Data)))] H (noU_all rfl) (fun fr => by kernel_rfl) ?_
                          intro fr H
                          refine at_nil ?_
                          show AW cfg 43 g (right (right (bodyC cfg.P 43))) fr h4 _
                          refine aw_ret (by kernel_rfl) ?_
                          have e1 := Option.some.inj hm
                          subst e1
                          refine ⟨.inl rfl, .bool (x3 && (p0.Data == p1.Data)), resH H (fun fr => by kernel_rfl), ?_⟩
                          replace A : HH g h4 [] F := (HH.dropF A 0)
                          exact ⟨rfl, A⟩
/-! ### boulter/boulterref12.Same -/
noncomputable def M_boulterref12_Same_sOO_L0 (p0 : List S_api_Member) (p1 : List S_api_Member) (s : Int) : Option ((Int) ⊕ ((Unit) ⊕ (Bool))) :=
  match s with
  | x1 => iteB (decide (x1 < (p0.length : Int))) ((ixV p0 x1).bind fun x3 => (ixV p1 x1).bind fun x4 => (M_boulterref07_Same x3 x4).bind fun x5 => iteB (!x5) (some (.inr (.inr false))) (some (.inl (IntKind.i64.wrap (x1 + (1 : Int)))))) (some (.inr (.inl ())))
noncomputable def M_boulterref12_Same_sOO (p0 : List S_api_Member) (p1 : List S_api_Member) : Option (Bool) :=
 iteB ((p0.length : Int) != (p1.length : Int)) (some false) ((loop (M_boulterref12_Same_sOO_L0 p0 p1) (0 : Int)).bind fun o1 => (match o1 with | .inl _ => some true | .inr x2 => some x2))
theorem ok_boulterref12_Same_sOO {g : Gd} {h : AHeap} {F : List Ck} {p0 : List S_api_Member} {p1 : List S_api_Member} {rp0 : Option Nat} {rp1 : Option Nat} {q0 : Bool} {av : List AVal} (hm : M_boulterref12_Same_sOO p0 p1 = some q0) (hc : canL (cfg.still 21) av = [rowV rp0 p0.length, rowV rp1 p1.length]) (A : HH g h [.lst rp0 63 (lst e_S_api_Member p0), .lst rp1 63 (lst e_S_api_Member p1)] F) : ∃ v h', Runs cfg g h 21 av v h' ∧ v = .bool q0 ∧ HH g h' [.lst rp0 63 (lst e_S_api_Member p0), .lst rp1 63 (lst e_S_api_Member p1)] F := by
  refine runsQ1 (n := 27) (rs := [.tmp 4]) (by kernel_rfl) hc (by kernel_rfl) ?_
  clear hc
  unfold M_boulterref12_Same_sOO at hm
  refine start (n := 27) [(0, rowV rp0 p0.length), (1, rowV rp1 p1.length)] (by kernel_rfl) (by kernel_rfl) ?_
  intro fr H
  refine aw_seq (by kernel_rfl) ?_
  refine aw_reg (id := 0) (n := 1) [(0, [])] (by kernel_rfl) (by kernel_rfl) ?_
  refine at_seg [(0, [])] [(0, rowV rp0 p0.length), (1, rowV rp1 p1.length)] H (noU_all rfl) (fun fr => by kernel_rfl) ?_
  intro fr H
  refine at_nil ?_
  show AW cfg 21 g (right (bodyC cfg.P 21)) fr h _
  refine aw_seq (by kernel_rfl) ?_
  refine aw_seq (by kernel_rfl) ?_
  refine aw_reg (id := 1) (n := 5) [(0, []), (1, []), (2, []), (3, []), (4, [])] (by kernel_rfl) (by kernel_rfl) ?_
  refine at_seg [(0, []), (1, []), (2, []), (3, []), (4, [])] [(0, rowV rp0 p0.length), (1, rowV rp1 p1.length), (10, .bool ((p0.length : Int) != (p1.length : Int)))] H (noU_all rfl) (fun fr => by kernel_rfl) ?_
  intro fr H
  refine at_nil ?_
  show AW cfg 21 g (right (left (right (bodyC cfg.P 21)))) fr h _
  rcases iteB_some hm with ⟨hb, hm⟩ | ⟨hb, hm⟩
  · replace H := H.know 10 hb (by kernel_rfl)
    refine aw_true (x := .tmp 10) (by kernel_rfl) H (fun fr => by kernel_rfl) ?_
    refine aw_seq (by kernel_rfl) ?_
    refine aw_reg (id := 2) (n := 1) [(0, [])] (by kernel_rfl) (by kernel_rfl) ?_
    refine at_seg [(0, [])] [(4, .bool false)] H (noU_all rfl) (fun fr => by kernel_rfl) ?_
    intro fr H
    refine at_nil ?_
    show AW cfg 21 g (right (left (right (left (right (bodyC cfg.P 21)))))) fr h _
    refine aw_ret (by kernel_rfl) ?_
    have e1 := Option.some.inj hm
    subst e1
    refine ⟨.inl rfl, .bool false, resH H (fun fr => by kernel_rfl), ?_⟩
    exact ⟨rfl, A⟩
  · replace H := H.know 10 hb (by kernel_rfl)
    refine aw_false (x := .tmp 10) (by kernel_rfl) H (fun fr => by kernel_rfl) ?_
    refine aw_skip (by kernel_rfl) ?_
    show AW cfg 21 g (right (right (bodyC cfg.P 21))) fr h _
    refine aw_seq (by kernel_rfl) ?_
    refine aw_seq (by kernel_rfl) ?_
    refine aw_reg (id := 3) (n := 1) [(0, [])] (by kernel_rfl) (by kernel_rfl) ?_
    refine at_seg [(0, [])] [(0, rowV rp0 p0.length), (1, rowV rp1 p1.length), (5, .int .i64 (0 : Int))] H (noU_all rfl) (fun fr => by kernel_rfl) ?_
    intro fr H
    refine at_nil ?_
    show AW cfg 21 g (right (left (right (right (bodyC cfg.P 21))))) fr h _
    refine aw_block (id := 0) (by kernel_rfl) ?_
    obtain ⟨o1, ho, hm⟩ := bind_some hm
    refine aw_mono (Q' := fun e fr' h' => (e = .exit 0 ∧ .inl () = o1 ∧ Has fr' 27 [] ∧ HH g h' [.lst rp0 63 (lst e_S_api_Member p0), .lst rp1 63 (lst e_S_api_Member p1)] F) ∨ (∃ (x2 : Bool), e = .ret ∧ .inr x2 = o1 ∧ Has fr' 27 [(4, .bool x2)] ∧ HH g h' [.lst rp0 63 (lst e_S_api_Member p0), .lst rp1 63 (lst e_S_api_Member p1)] F) ∨ False) ?_ ?_
    · refine aw_loop (by kernel_rfl) (fun (s : Int) fr' h' => ∃ (x1 : Int), x1 = s ∧ Has fr' 27 [(0, rowV rp0 p0.length), (1, rowV rp1 p1.length), (5, .int .i64 x1)] ∧ HH g h' [.lst rp0 63 (lst e_S_api_Member p0), .lst rp1 63 (lst e_S_api_Member p1)] F) ho ⟨(0 : Int), rfl, H.less _ (fun fr => by kernel_rfl), A⟩ ?_
      clear ho hm H A
      intro s q fr h1 hI hm
      obtain ⟨x1, rfl, H, A⟩ := hI
      unfold M_boulterref12_Same_sOO_L0 at hm
      refine aw_seq (by kernel_rfl) ?_
      refine aw_seq (by kernel_rfl) ?_
      refine aw_reg (id := 4) (n := 4) [(0, []), (1, []), (2, []), (3, [])] (by kernel_rfl) (by kernel_rfl) ?_
      refine at_seg [(0, []), (1, []), (2, []), (3, [])] [(0, rowV rp0 p0.length), (1, rowV rp1 p1.length), (5, .int .i64 x1), (14, .bool (decide (x1 < (p0.length : Int))))] H (noU_all rfl) (fun fr => by kernel_rfl) ?_
      intro fr H
      refine at_nil ?_
      show AW cfg 21 g (right (left (left (left (right (left (right (right (bodyC cfg.P 21))))))))) fr h1 _
      rcases iteB_some hm with ⟨hb, hm⟩ | ⟨hb, hm⟩
      · replace H := H.know 14 hb (by kernel_rfl)
        refine aw_true (x := .tmp 14) (by kernel_rfl) H (fun fr => by kernel_rfl) ?_
        refine aw_skip (by kernel_rfl) ?_
        show AW cfg 21 g (right (left (left (right (left (right (right (bodyC cfg.P 21)))))))) fr h1 _
        refine aw_seq (by kernel_rfl) ?_
        refine aw_block (id := 1) (by kernel_rfl) ?_
        refine aw_seq (by kernel_rfl) ?_
        refine aw_draw (id := 6) (n := 10) (by kernel_rfl) [(0, []), (1, []), (2, []), (3, []), (4, []), (5, []), (6, []), (7, []), (8, []), (9, [])] (by kernel_rfl) ?_
        refine at_seg [(0, []), (1, [])] [(0, rowV rp0 p0.length), (1, rowV rp1 p1.length), (5, .int .i64 x1), (17, rowV rp0 p0.length), (18, .int .i64 x1)] H (noU_all rfl) (fun fr => by kernel_rfl) ?_
        intro fr H
        obtain ⟨x3, hx, hm⟩ := bind_some hm
        obtain ⟨i1, er1, _, hx, hq1⟩ := HH.ixO enc_S_api_Member (by decide) A 0 (xs := p0) rfl hx
        refine at_step (v := .ptr (some (i1, x1.toNat * 14))) (h1 := h1) [(0, rowV rp0 p0.length), (1, rowV rp1 p1.length), (5, .int .i64 x1), (19, .ptr (some (i1, x1.toNat * 14)))] H (fun fr => by kernel_rfl) (fun fr => .of (s_ixL (s := rowS rp0 p0.length) (by kernel_rfl) hx)) ?_
        intro fr t H
        refine at_step (v := .agg (e_S_api_Member x3)) (h1 := h1) [(0, rowV rp0 p0.length), (1, rowV rp1 p1.length), (5, .int .i64 x1), (20, .agg (e_S_api_Member x3))] H (fun fr => by kernel_rfl) (fun fr => .of (s_ldA (by kernel_rfl) (row_ldA enc_S_api_Member (HH.row A 0 rfl er1) hq1 0 14 (Nat.le_of_ble_eq_true rfl)))) ?_
        intro fr t H
        refine at_seg [(4, []), (5, [])] [(0, rowV rp0 p0.length), (1, rowV rp1 p1.length), (5, .int .i64 x1), (20, .agg (e_S_api_Member x3)), (21, rowV rp1 p1.length), (22, .int .i64 x1)] H (noU_all rfl) (fun fr => by kernel_rfl) ?_
        intro fr H
        obtain ⟨x4, hx, hm⟩ := bind_some hm
        obtain ⟨i2, er2, _, hx, hq2⟩ := HH.ixO enc_S_api_Member (by decide) A 1 (xs := p1) rfl hx
        refine at_step (v := .ptr (some (i2, x1.toNat * 14))) (h1 := h1) [(0, rowV rp0 p0.length), (1, rowV rp1 p1.length), (5, .int .i64 x1), (20, .agg (e_S_api_Member x3)), (23, .ptr (some (i2, x1.toNat * 14)))] H (fun fr => by kernel_rfl) (fun fr => .of (s_ixL (s := rowS rp1 p1.length) (by kernel_rfl) hx)) ?_
        intro fr t H
        refine at_step (v := .agg (e_S_api_Member x4)) (h1 := h1) [(0, rowV rp0 p0.length), (1, rowV rp1 p1.length), (5, .int .i64 x1), (20, .agg (e_S_api_Member x3)), (24, .agg (e_S_api_Member x4))] H (fun fr => by kernel_rfl) (fun fr => .of (s_ldA (by kernel_rfl) (row_ldA enc_S_api_Member (HH.row A 1 rfl er2) hq2 0 14 (Nat.le_of_ble_eq_true rfl)))) ?_
        intro fr t H
        have A1 := A.cut 0
        obtain ⟨x5, hx, hm⟩ := bind_some hm
        obtain ⟨v1, h2, hr, rfl, A1⟩ := ok_boulterref07_Same (av := [.agg (e_S_api_Member x3), .agg (e_S_api_Member x4)]) hx (by kernel_rfl) A1
        replace A : HH g h2 [.lst rp0 63 (lst e_S_api_Member p0), .lst rp1 63 (lst e_S_api_Member p1)] F := A.glue0 (n := 0) A1
        refine at_step (v := .bool x5) (h1 := h2) [(0, rowV rp0 p0.length), (1, rowV rp1 p1.length), (5, .int .i64 x1), (25, .bool x5)] H (fun fr => by kernel_rfl) (fun fr => Steps.call (by kernel_rfl) hr) ?_
        intro fr t H
        refine at_seg [(9, [])] [(0, rowV rp0 p0.length), (1, rowV rp1 p1.length), (5, .int .i64 x1), (26, .bool (!x5))] H (noU_all rfl) (fun fr => by kernel_rfl) ?_
        intro fr H
        refine at_nil ?_
        show AW cfg 21 g (right (left (left (right (left (left (right (left (right (right (bodyC cfg.P 21))))))))))) fr h2 _
        rcases iteB_some hm with ⟨hb, hm⟩ | ⟨hb, hm⟩
        · replace H := H.know 26 hb (by kernel_rfl)
          refine aw_true (x := .tmp 26) (by kernel_rfl) H (fun fr => by kernel_rfl) ?_
          refine aw_seq (by kernel_rfl) ?_
          refine aw_reg (id := 7) (n := 1) [(0, [])] (by kernel_rfl) (by kernel_rfl) ?_
          refine at_seg [(0, [])] [(4, .bool false)] H (noU_all rfl) (fun fr => by kernel_rfl) ?_
          intro fr H
          refine at_nil ?_
          show AW cfg 21 g (right (left (right (left (left (right (left (left (right (left (right (right (bodyC cfg.P 21))))))))))))) fr h2 _
          refine aw_ret (by kernel_rfl) ?_
          exact Exists.intro _ (And.intro (Option.some.inj hm).symm (fun e => Or.inr (Or.inl ⟨false, rfl, e, H.less _ (fun fr => by kernel_rfl), A⟩)))
        · replace H := H.know 26 hb (by kernel_rfl)
          refine aw_false (x := .tmp 26) (by kernel_rfl) H (fun fr => by kernel_rfl) ?_
          refine aw_skip (by kernel_rfl) ?_
          show AW cfg 21 g (right (right (left (left (right (left (right (right (bodyC cfg.P 21))))))))) fr h2 _
          refine aw_reg (id := 5) (n := 3) [(0, []), (1, []), (2, [])] (by kernel_rfl) (by kernel_rfl) ?_
          refine at_seg [(0, []), (1, []), (2, [])] [(0, rowV rp0 p0.length), (1, rowV rp1 p1.length), (5, .int .i64 (IntKind.i64.wrap (x1 + (1 : Int))))] H (noU_all rfl) (fun fr => by kernel_rfl) ?_
          intro fr H
          refine at_nil ?_
          exact Exists.intro (IntKind.i64.wrap (x1 + (1 : Int))) (And.intro (Option.some.inj hm).symm ⟨IntKind.i64.wrap (x1 + (1 : Int)), rfl, H.less _ (fun fr => by kernel_rfl), A⟩)
      · replace H := H.know 14 hb (by kernel_rfl)
        refine aw_false (x := .tmp 14) (by kernel_rfl) H (fun fr => by kernel_rfl) ?_
        refine aw_exit (i := 0) (by kernel_rfl) ?_
        exact Exists.intro _ (And.intro (Option.some.inj hm).symm (fun e => Or.inl ⟨rfl, e, H.less _ (fun fr => by kernel_rfl), A⟩))
    · clear ho
      clear A
      intro e fr h3 hQ
      rcases hQ with ⟨rfl, rfl, H, A⟩ | ⟨x2, rfl, rfl, H, A⟩ | hF
      · skip
        show AW cfg 21 g (right (right (right (bodyC cfg.P 21)))) fr h3 _
        refine aw_seq (by kernel_rfl) ?_
        refine aw_reg (id := 8) (n := 1) [(0, [])] (by kernel_rfl) (by kernel_rfl) ?_
        refine at_seg [(0, [])] [(4, .bool true)] H (noU_all rfl) (fun fr => by kernel_rfl) ?_
        intro fr H
        refine at_nil ?_
        show AW cfg 21 g (right (right (right (right (bodyC cfg.P 21))))) fr h3 _
        refine aw_ret (by kernel_rfl) ?_
        have e1 := Option.some.inj hm
        subst e1
        refine ⟨.inl rfl, .bool true, resH H (fun fr => by kernel_rfl), ?_⟩
        exact ⟨rfl, A⟩
      · skip
        have e1 := Option.some.inj hm
        subst e1
        refine ⟨.inl rfl, .bool x2, resH H (fun fr => by kernel_rfl), ?_⟩
        exact ⟨rfl, A⟩
      · exact hF.elim
/-! ### boulter/archive.Same -/
noncomputable def M_archive_Same (p0 : S_api_Member) (p1 : S_api_Member) : Option (Bool) :=
 (M_archive_bare p0).bind fun (x1, x2) => (M_archive_bare p1).bind fun (x3, x4) => (M_slices_Equal_boulter_api_Pair_boulter_api_Pair x2 x4).bind fun x5 => (iteB ((((((((((x5 && (x1.Name == x3.Name)) && (x1.Link == x3.Link)) && (x1.Kind == x3.Kind)) && (x1.Mode == x3.Mode)) && (x1.Uid == x3.Uid)) && (x1.Gid == x3.Gid)) && (x1.Uname == x3.Uname)) && (x1.Gname == x3.Gname)) && (x1.Major == x3.Major)) && (x1.Minor == x3.Minor)) ((eqG cfg.P 60 [.int .i64 x1.Time.Sec, .int .i64 x1.Time.Nsec] [.int .i64 x3.Time.Sec, .int .i64 x3.Time.Nsec]).bind fun x7 => some x7) (some false) : Option (Bool)).bind fun x6 => some (x6 && (x1.Data == x3.Data))
theorem ok_archive_Same {g : Gd} {h : AHeap} {F : List Ck} {p0 : S_api_Member} {p1 : S_api_Member} {q0 : Bool} {av : List AVal} (hm : M_archive_Same p0 p1 = some q0) (hc : canL (cfg.still 51) av = [.agg (e_S_api_Member p0), .agg (e_S_api_Member p1)]) (A : HH g h [] F) : ∃ v h', Runs cfg g h 51 av v h' ∧ v = .bool q0 ∧ HH g h' [] F := by
  refine runsQ1 (n := 106) (rs := [.tmp 4]) (by kernel_rfl) hc (by kernel_rfl) ?_
  clear hc
  unfold M_archive_Same at hm
  refine start (n := 106) [(0, .agg (e_S_api_Member p0)), (1, .agg (e_S_api_Member p1))] (by kernel_rfl) (by kernel_rfl) ?_
  intro fr H
  refine aw_seq (by kernel_rfl) ?_
  refine aw_reg (id := 0) (n := 3) [(0, []), (1, []), (2, [])] (by kernel_rfl) (by kernel_rfl) ?_
  obtain ⟨h1, e1⟩ : ∃ x, x = h.push (.cells none 2 (e_S_api_Member p0)) := ⟨_, rfl⟩
  replace A := (A.push _).to e1
  refine at_step (v := .ptr (some (h.size, 0))) (h1 := h1) [(1, .agg (e_S_api_Member p1)), (2, .ptr (some (h.size, 0)))] H (fun fr => by kernel_rfl) (fun fr => .of (s_n' (by kernel_rfl) (congrArg some e1.symm))) ?_
  intro fr t H
  obtain ⟨h2, e2⟩ : ∃ x, x = h1.push (.cells none 2 (e_S_api_Member p1)) := ⟨_, rfl⟩
  replace A := (A.push _).to e2
  refine at_step (v := .ptr (some (h1.size, 0))) (h1 := h2) [(2, .ptr (some (h.size, 0))), (3, .ptr (some (h1.size, 0)))] H (fun fr => by kernel_rfl) (fun fr => .of (s_n' (by kernel_rfl) (congrArg some e2.symm))) ?_
  intro fr t H
  refine at_seg [(2, [])] [(2, .ptr (some (h.size, 0))), (3, .ptr (some (h1.size, 0)))] H (noU_all rfl) (fun fr => by kernel_rfl) ?_
  intro fr H
  refine at_nil ?_
  show AW cfg 51 g (right (bodyC cfg.P 51)) fr h2 _
  refine aw_seq (by kernel_rfl) ?_
  refine aw_reg (id := 1) (n := 8) [(0, []), (1, []), (2, []), (3, []), (4, []), (5, []), (6, []), (7, [])] (by kernel_rfl) (by kernel_rfl) ?_
  refine at_step (v := .agg (e_S_api_Member p0)) (h1 := h2) [(3, .ptr (some (h1.size, 0))), (10, .agg (e_S_api_Member p0))] H (fun fr => by kernel_rfl) (fun fr => .of (s_ldA (by kernel_rfl) (A.ldA 1 rfl (o := 0) (n := 14) ⟨Nat.le_of_ble_eq_true rfl, rfl⟩))) ?_
  intro fr t H
  have A1 := A.cut 0
  obtain ⟨⟨x1, x2⟩, hx, hm⟩ := bind_some hm
  obtain ⟨v1, h3, hr, rfl, A1⟩ := ok_archive_bare (av := [.agg (e_S_api_Member p0)]) hx (by kernel_rfl) A1
  replace A : HH g h3 [.obj h1.size (.cells none 2 (e_S_api_Member p1)), .obj h.size (.cells none 2 (e_S_api_Member p0))] F := A.glue0 (n := 0) A1
  refine at_step (v := .tuple [.agg (e_S_api_Member x1), vs e_S_api_Pair x2]) (h1 := h3) [(3, .ptr (some (h1.size, 0))), (11, .tuple [.agg (e_S_api_Member x1), vs e_S_api_Pair x2])] H (fun fr => by kernel_rfl) (fun fr => Steps.call (by kernel_rfl) hr) ?_
  intro fr t H
  refine at_seg [(2, []), (3, []), (4, [])] [(3, .ptr (some (h1.size, 0))), (12, .agg (e_S_api_Member x1)), (13, vs e_S_api_Pair x2)] H (noU_all rfl) (fun fr => by kernel_rfl) ?_
  intro fr H
  obtain ⟨h4, e3⟩ : ∃ x, x = h3.push (.cells none 2 [.str ([] : List UInt8), .str ([] : List UInt8), .int .u8 (0 : Int), .int .i64 (0 : Int), .int .i64 (0 : Int), .int .i64 (0 : Int), .str ([] : List UInt8), .str ([] : List UInt8), .int .i64 (0 : Int), .int .i64 (0 : Int), .int .i64 (0 : Int), .int .i64 (0 : Int), .slice none 0, .str ([] : List UInt8)]) := ⟨_, rfl⟩
  replace A := (A.push _).to e3
  refine at_step (v := .ptr (some (h3.size, 0))) (h1 := h4) [(3, .ptr (some (h1.size, 0))), (5, .ptr (some (h3.size, 0))), (12, .agg (e_S_api_Member x1)), (13, vs e_S_api_Pair x2)] H (fun fr => by kernel_rfl) (fun fr => .of (s_n' (by kernel_rfl) (congrArg some e3.symm))) ?_
  intro fr t H
  obtain ⟨h5, hx, A1⟩ := A.st 0 rfl (o := 0) (new := [.str x1.Name, .str x1.Link, .int .u8 x1.Kind, .int .i64 x1.Mode, .int .i64 x1.Uid, .int .i64 x1.Gid, .str x1.Uname, .str x1.Gname, .int .i64 x1.Major, .int .i64 x1.Minor, .int .i64 x1.Time.Sec, .int .i64 x1.Time.Nsec, vs e_S_api_Pair x1.Extra, .str x1.Data]) (ds := [.str x1.Name, .str x1.Link, .int .u8 x1.Kind, .int .i64 x1.Mode, .int .i64 x1.Uid, .int .i64 x1.Gid, .str x1.Uname, .str x1.Gname, .int .i64 x1.Major, .int .i64 x1.Minor, .int .i64 x1.Time.Sec, .int .i64 x1.Time.Nsec, vs e_S_api_Pair x1.Extra, .str x1.Data]) (Nat.le_of_ble_eq_true rfl) rfl rfl
  replace A : HH g h5 [.obj h3.size (.cells none 2 (e_S_api_Member x1)), .obj h1.size (.cells none 2 (e_S_api_Member p1)), .obj h.size (.cells none 2 (e_S_api_Member p0))] F := A1
  refine at_step (v := .tuple []) (h1 := h5) [(3, .ptr (some (h1.size, 0))), (5, .ptr (some (h3.size, 0))), (13, vs e_S_api_Pair x2)] H (fun fr => by kernel_rfl) (fun fr => .of (s_stG (by kernel_rfl) (stG_st hx rfl))) ?_
  intro fr t H
  refine at_seg [(7, [])] [(3, .ptr (some (h1.size, 0))), (5, .ptr (some (h3.size, 0))), (6, vs e_S_api_Pair x2)] H (noU_all rfl) (fun fr => by kernel_rfl) ?_
  intro fr H
  refine at_nil ?_
  show AW cfg 51 g (right (right (bodyC cfg.P 51))) fr h5 _
  refine aw_seq (by kernel_rfl) ?_
  refine aw_reg (id := 2) (n := 8) [(0, []), (1, []), (2, []), (3, []), (4, []), (5, []), (6, []), (7, [])] (by kernel_rfl) (by kernel_rfl) ?_
  refine at_step (v := .agg (e_S_api_Member p1)) (h1 := h5) [(5, .ptr (some (h3.size, 0))), (6, vs e_S_api_Pair x2), (15, .agg (e_S_api_Member p1))] H (fun fr => by kernel_rfl) (fun fr => .of (s_ldA (by kernel_rfl) (A.ldA 1 rfl (o := 0) (n := 14) ⟨Nat.le_of_ble_eq_true rfl, rfl⟩))) ?_
  intro fr t H
  have A1 := A.cut 0
  obtain ⟨⟨x3, x4⟩, hx, hm⟩ := bind_some hm
  obtain ⟨v1, h6, hr, rfl, A1⟩ := ok_archive_bare (av := [.agg (e_S_api_Member p1)]) hx (by kernel_rfl) A1
  replace A : HH g h6 [.obj h3.size (.cells none 2 (e_S_api_Member x1)), .obj h1.size (.cells none 2 (e_S_api_Member p1)), .obj h.size (.cells none 2 (e_S_api_Member p0))] F := A.glue0 (n := 0) A1
  refine at_step (v := .tuple [.agg (e_S_api_Member x3), vs e_S_api_Pair x4]) (h1 := h6) [(5, .ptr (some (h3.size, 0))), (6, vs e_S_api_Pair x2), (16, .tuple [.agg (e_S_api_Member x3), vs e_S_api_Pair x4])] H (fun fr => by kernel_rfl) (fun fr => Steps.call (by kernel_rfl) hr) ?_
  intro fr t H
  refine at_seg [(2, []), (3, []), (4, [])] [(5, .ptr (some (h3.size, 0))), (6, vs e_S_api_Pair x2), (17, .agg (e_S_api_Member x3)), (18, vs e_S_api_Pair x4)] H (noU_all rfl) (fun fr => by kernel_rfl) ?_
  intro fr H
  obtain ⟨h7, e4⟩ : ∃ x, x = h6.push (.cells none 2 [.str ([] : List UInt8), .str ([] : List UInt8), .int .u8 (0 : Int), .int .i64 (0 : Int), .int .i64 (0 : Int), .int .i64 (0 : Int), .str ([] : List UInt8), .str ([] : List UInt8), .int .i64 (0 : Int), .int .i64 (0 : Int), .int .i64 (0 : Int), .int .i64 (0 : Int), .slice none 0, .str ([] : List UInt8)]) := ⟨_, rfl⟩
  replace A := (A.push _).to e4
  refine at_step (v := .ptr (some (h6.size, 0))) (h1 := h7) [(5, .ptr (some (h3.size, 0))), (6, vs e_S_api_Pair x2), (7, .ptr (some (h6.size, 0))), (17, .agg (e_S_api_Member x3)), (18, vs e_S_api_Pair x4)] H (fun fr => by kernel_rfl) (fun fr => .of (s_n' (by kernel_rfl) (congrArg some e4.symm))) ?_
  intro fr t H
  obtain ⟨h8, hx, A1⟩ := A.st 0 rfl (o := 0) (new := [.str x3.Name, .str x3.Link, .int .u8 x3.Kind, .int .i64 x3.Mode, .int .i64 x3.Uid, .int .i64 x3.Gid, .str x3.Uname, .str x3.Gname, .int .i64 x3.Major, .int .i64 x3.Minor, .int .i64 x3.Time.Sec, .int .i64 x3.Time.Nsec, vs e_S_api_Pair x3.Extra, .str x3.Data]) (ds := [.str x3.Name, .str x3.Link, .int .u8 x3.Kind, .int .i64 x3.Mode, .int .i64 x3.Uid, .int .i64 x3.Gid, .str x3.Uname, .str x3.Gname, .int .i64 x3.Major, .int .i64 x3.Minor, .int .i64 x3.Time.Sec, .int .i64 x3.Time.Nsec, vs e_S_api_Pair x3.Extra, .str x3.Data]) (Nat.le_of_ble_eq_true rfl) rfl rfl
  replace A : HH g h8 [.obj h6.size (.cells none 2 (e_S_api_Member x3)), .obj h3.size (.cells none 2 (e_S_api_Member x1)), .obj h1.size (.cells none 2 (e_S_api_Member p1)), .obj h.size (.cells none 2 (e_S_api_Member p0))] F := A1
  refine at_step (v := .tuple []) (h1 := h8) [(5, .ptr (some (h3.size, 0))), (6, vs e_S_api_Pair x2), (7, .ptr (some (h6.size, 0))), (18, vs e_S_api_Pair x4)] H (fun fr => by kernel_rfl) (fun fr => .of (s_stG (by kernel_rfl) (stG_st hx rfl))) ?_
  intro fr t H
  refine at_seg [(7, [])] [(5, .ptr (some (h3.size, 0))), (6, vs e_S_api_Pair x2), (7, .ptr (some (h6.size, 0))), (8, vs e_S_api_Pair x4)] H (noU_all rfl) (fun fr => by kernel_rfl) ?_
  intro fr H
  refine at_nil ?_
  show AW cfg 51 g (right (right (right (bodyC cfg.P 51)))) fr h8 _
  refine aw_seq (by kernel_rfl) ?_
  refine aw_reg (id := 3) (n := 88) [(0, []), (1, []), (2, []), (3, []), (4, []), (5, []), (6, []), (7, []), (8, []), (9, []), (10, []), (11, []), (12, []), (13, []), (14, []), (15, []), (16, []), (17, []), (18, []), (19, []), (20, []), (21, []), (22, []), (23, []), (24, []), (25, []), (26, []), (27, []), (28, []), (29, []), (30, []), (31, []), (32, []), (33, []), (34, []), (35, []), (36, []), (37, []), (38, []), (39, []), (40, []), (41, []), (42, []), (43, []), (44, []), (45, []), (46, []), (47, []), (48, []), (49, []), (50, []), (51, []), (52, []), (53, []), (54, []), (55, []), (56, []), (57, []), (58, []), (59, []), (60, []), (61, []), (62, []), (63, []), (64, []), (65, []), (66, []), (67, []), (68, []), (69, []), (70, []), (71, []), (72, []), (73, []), (74, []), (75, []), (76, []), (77, []), (78, []), (79, []), (80, []), (81, []), (82, []), (83, []), (84, []), (85, []), (86, []), (87, [])] (by kernel_rfl) (by kernel_rfl) ?_
  refine at_seg [(0, []), (1, [])] [(5, .ptr (some (h3.size, 0))), (7, .ptr (some (h6.size, 0))), (19, vs e_S_api_Pair x2), (20, vs e_S_api_Pair x4)] H (noU_all rfl) (fun fr => by kernel_rfl) ?_
  intro fr H
  have A1 := A.cut 0
  obtain ⟨x5, hx, hm⟩ := bind_some hm
  obtain ⟨v1, h9, hr, rfl, A1⟩ := ok_slices_Equal_boulter_api_Pair_boulter_api_Pair (av := [vs e_S_api_Pair x2, vs e_S_api_Pair x4]) hx (by kernel_rfl) A1
  replace A : HH g h9 [.obj h6.size (.cells none 2 (e_S_api_Member x3)), .obj h3.size (.cells none 2 (e_S_api_Member x1)), .obj h1.size (.cells none 2 (e_S_api_Member p1)), .obj h.size (.cells none 2 (e_S_api_Member p0))] F := A.glue0 (n := 0) A1
  refine at_step (v := .bool x5) (h1 := h9) [(5, .ptr (some (h3.size, 0))), (7, .ptr (some (h6.size, 0))), (21, .bool x5)] H (fun fr => by kernel_rfl) (fun fr => Steps.call (by kernel_rfl) hr) ?_
  intro fr t H
  refine at_seg [(3, [])] [(5, .ptr (some (h3.size, 0))), (7, .ptr (some (h6.size, 0))), (22, .bool x5)] H (noU_all rfl) (fun fr => by kernel_rfl) ?_
  intro fr H
  refine at_cut [(4, []), (5, []), (6, []), (7, []), (8, []), (9, [])] (fun fr' h' => h9 = h' ∧ Has fr' 106 [(5, .ptr (some (h3.size, 0))), (7, .ptr (some (h6.size, 0))), (28, .bool (x5 && (x1.Name == x3.Name)))]) ?_ ?_
  · cases hb : (x5 : Bool) with
    | true =>
      replace H := H.know 22 hb (by kernel_rfl)
      refine at_seg [(4, [])] [(5, .ptr (some (h3.size, 0))), (7, .ptr (some (h6.size, 0))), (22, .bool true), (23, .ptr (some (h3.size, 0)))] H (noU_all rfl) (fun fr => by kernel_rfl) ?_
      intro fr H
      refine at_step (v := .str x1.Name) (h1 := h9) [(5, .ptr (some (h3.size, 0))), (7, .ptr (some (h6.size, 0))), (22, .bool true), (24, .str x1.Name)] H (fun fr => by kernel_rfl) (fun fr => .of (s_ld (by kernel_rfl) (A.ld1 1 rfl (o := 0) rfl))) ?_
      intro fr t H
      refine at_seg [(6, [])] [(5, .ptr (some (h3.size, 0))), (7, .ptr (some (h6.size, 0))), (22, .bool true), (24, .str x1.Name), (25, .ptr (some (h6.size, 0)))] H (noU_all rfl) (fun fr => by kernel_rfl) ?_
      intro fr H
      refine at_step (v := .str x3.Name) (h1 := h9) [(5, .ptr (some (h3.size, 0))), (7, .ptr (some (h6.size, 0))), (22, .bool true), (24, .str x1.Name), (26, .str x3.Name)] H (fun fr => by kernel_rfl) (fun fr => .of (s_ld (by kernel_rfl) (A.ld1 0 rfl (o := 0) rfl))) ?_
      intro fr t H
      refine at_seg [(8, []), (9, [])] [(5, .ptr (some (h3.size, 0))), (7, .ptr (some (h6.size, 0))), (28, .bool (x1.Name == x3.Name))] H (noU_all rfl) (fun fr => by kernel_rfl) ?_
      intro fr H
      exact at_nil ⟨rfl, by first | exact H.less _ (fun fr => by rfl) | exact H.less _ (fun fr => by rw [hb]; rfl)⟩
    | false =>
      replace H := H.know 22 hb (by kernel_rfl)
      refine at_seg [(4, []), (5, []), (6, []), (7, []), (8, []), (9, [])] [(5, .ptr (some (h3.size, 0))), (7, .ptr (some (h6.size, 0))), (28, .bool false)] H (noU_all rfl) (fun fr => by kernel_rfl) ?_
      intro fr H
      exact at_nil ⟨rfl, by first | exact H.less _ (fun fr => by rfl) | exact H.less _ (fun fr => by rw [hb]; rfl)⟩
  · intro t fr h' hK
    obtain ⟨e, H⟩ := hK
    subst e
    refine at_seg [(10, [])] [(5, .ptr (some (h3.size, 0))), (7, .ptr (some (h6.size, 0))), (29, .bool (x5 && (x1.Name == x3.Name)))] H (noU_all rfl) (fun fr => by kernel_rfl) ?_
    intro fr H
    refine at_cut [(11, []), (12, []), (13, []), (14, []), (15, []), (16, [])] (fun fr' h' => h9 = h' ∧ Has fr' 106 [(5, .ptr (some (h3.size, 0))), (7, .ptr (some (h6.size, 0))), (35, .bool ((x5 && (x1.Name == x3.Name)) && (x1.Link == x3.Link)))]) ?_ ?_
    · cases hb : (x5 && (x1.Name == x3.Name) : Bool) with
      | true =>
        replace H := H.know 29 hb (by kernel_rfl)
        refine at_seg [(11, [])] [(5, .ptr (some (h3.size, 0))), (7, .ptr (some (h6.size, 0))), (29, .bool true), (30, .ptr (some (h3.size, 1)))] H (noU_all rfl) (fun fr => by kernel_rfl) ?_
        intro fr H
        refine at_step (v := .str x1.Link) (h1 := h9) [(5, .ptr (some (h3.size, 0))), (7, .ptr (some (h6.size, 0))), (29, .bool true), (31, .str x1.Link)] H (fun fr => by kernel_rfl) (fun fr => .of (s_ld (by kernel_rfl) (A.ld1 1 rfl (o := 1) rfl))) ?_
        intro fr t H
        refine at_seg [(13, [])] [(5, .ptr (some (h3.size, 0))), (7, .ptr (some (h6.size, 0))), (29, .bool true), (31, .str x1.Link), (32, .ptr (some (h6.size, 1)))] H (noU_all rfl) (fun fr => by kernel_rfl) ?_
        intro fr H
        refine at_step (v := .str x3.Link) (h1 := h9) [(5, .ptr (some (h3.size, 0))), (7, .ptr (some (h6.size, 0))), (29, .bool true), (31, .str x1.Link), (33, .str x3.Link)] H (fun fr => by kernel_rfl) (fun fr => .of (s_ld (by kernel_rfl) (A.ld1 0 rfl (o := 1) rfl))) ?_
        intro fr t H
        refine at_seg [(15, []), (16, [])] [(5, .ptr (some (h3.size, 0))), (7, .ptr (some (h6.size, 0))), (35, .bool (x1.Link == x3.Link))] H (noU_all rfl) (fun fr => by kernel_rfl) ?_
        intro fr H
        exact at_nil ⟨rfl, by first | exact H.less _ (fun fr => by rfl) | exact H.less _ (fun fr => by rw [hb]; rfl)⟩
      | false =>
        replace H := H.know 29 hb (by kernel_rfl)
        refine at_seg [(11, []), (12, []), (13, []), (14, []), (15, []), (16, [])] [(5, .ptr (some (h3.size, 0))), (7, .ptr (some (h6.size, 0))), (35, .bool false)] H (noU_all rfl) (fun fr => by kernel_rfl) ?_
        intro fr H
        exact at_nil ⟨rfl, by first | exact H.less _ (fun fr => by rfl) | exact H.less _ (fun fr => by rw [hb]; rfl)⟩
    · intro t fr h' hK
      obtain ⟨e, H⟩ := hK
      subst e
      refine at_seg [(17, [])] [(5, .ptr (some (h3.size, 0))), (7, .ptr (some (h6.size, 0))), (36, .bool ((x5 && (x1.Name == x3.Name)) && (x1.Link == x3.Link)))] H (noU_all rfl) (fun fr => by kernel_rfl) ?_
      intro fr H
      refine at_cut [(18, []), (19, []), (20, []), (21, []), (22, []), (23, [])] (fun fr' h' => h9 = h' ∧ Has fr' 106 [(5, .ptr (some (h3.size, 0))), (7, .ptr (some (h6.size, 0))), (42, .bool (((x5 && (x1.Name == x3.Name)) && (x1.Link == x3.Link)) && (x1.Kind == x3.Kind)))]) ?_ ?_
      · cases hb : ((x5 && (x1.Name == x3.Name)) && (x1.Link == x3.Link) : Bool) with
        | true =>
          replace H := H.know 36 hb (by kernel_rfl)
          refine at_seg [(18, [])] [(5, .ptr (some (h3.size, 0))), (7, .ptr (some (h6.size, 0))), (36, .bool true), (37, .ptr (some (h3.size, 2)))] H (noU_all rfl) (fun fr => by kernel_rfl) ?_
          intro fr H
          refine at_step (v := .int .u8 x1.Kind) (h1 := h9) [(5, .ptr (some (h3.size, 0))), (7, .ptr (some (h6.size, 0))), (36, .bool true), (38, .int .u8 x1.Kind)] H (fun fr => by kernel_rfl) (fun fr => .of (s_ld (by kernel_rfl) (A.ld1 1 rfl (o := 2) rfl))) ?_
          intro fr t H
          refine at_seg [(20, [])] [(5, .ptr (some (h3.size, 0))), (7, .ptr (some (h6.size, 0))), (36, .bool true), (38, .int .u8 x1.Kind), (39, .ptr (some (h6.size, 2)))] H (noU_all rfl) (fun fr => by kernel_rfl) ?_
          intro fr H
          refine at_step (v := .int .u8 x3.Kind) (h1 := h9) [(5, .ptr (some (h3.size, 0))), (7, .ptr (some (h6.size, 0))), (36, .bool true), (38, .int .u8 x1.Kind), (40, .int .u8 x3.Kind)] H (fun fr => by kernel_rfl) (fun fr => .of (s_ld (by kernel_rfl) (A.ld1 0 rfl (o := 2) rfl))) ?_
          intro fr t H
          refine at_seg [(22, []), (23, [])] [(5, .ptr (some (h3.size, 0))), (7, .ptr (some (h6.size, 0))), (42, .bool (x1.Kind == x3.Kind))] H (noU_all rfl) (fun fr => by kernel_rfl) ?_
          intro fr H
          exact at_nil ⟨rfl, by first | exact H.less _ (fun fr => by rfl) | exact H.less _ (fun fr => by rw [hb]; rfl)⟩
        | false =>
          replace H := H.know 36 hb (by kernel_rfl)
          refine at_seg [(18, []), (19, []), (20, []), (21, []), (22, []), (23, [])] [(5, .ptr (some (h3.size, 0))), (7, .ptr (some (h6.size, 0))), (42, .bool false)] H (noU_all rfl) (fun fr => by kernel_rfl) ?_
          intro fr H
          exact at_nil ⟨rfl, by first | exact H.less _ (fun fr => by rfl) | exact H.less _ (fun fr => by rw [hb]; rfl)⟩
      · intro t fr h' hK
        obtain ⟨e, H⟩ := hK
        subst e
        refine at_seg [(24, [])] [(5, .ptr (some (h3.size, 0))), (7, .ptr (some (h6.size, 0))), (43, .bool (((x5 && (x1.Name == x3.Name)) && (x1.Link == x3.Link)) && (x1.Kind == x3.Kind)))] H (noU_all rfl) (fun fr => by kernel_rfl) ?_
        intro fr H
        refine at_cut [(25, []), (26, []), (27, []), (28, []), (29, []), (30, [])] (fun fr' h' => h9 = h' ∧ Has fr' 106 [(5, .ptr (some (h3.size, 0))), (7, .ptr (some (h6.size, 0))), (49, .bool ((((x5 && (x1.Name == x3.Name)) && (x1.Link == x3.Link)) && (x1.Kind == x3.Kind)) && (x1.Mode == x3.Mode)))]) ?_ ?_
        · cases hb : (((x5 && (x1.Name == x3.Name)) && (x1.Link == x3.Link)) && (x1.Kind == x3.Kind) : Bool) with
          | true =>
            replace H := H.know 43 hb (by kernel_rfl)
            refine at_seg [(25, [])] [(5, .ptr (some (h3.size, 0))), (7, .ptr (some (h6.size, 0))), (43, .bool true), (44, .ptr (some (h3.size, 3)))] H (noU_all rfl) (fun fr => by kernel_rfl) ?_
            intro fr H
            refine at_step (v := .int .i64 x1.Mode) (h1 := h9) [(5, .ptr (some (h3.size, 0))), (7, .ptr (some (h6.size, 0))), (43, .bool true), (45, .int .i64 x1.Mode)] H (fun fr => by kernel_rfl) (fun fr => .of (s_ld (by kernel_rfl) (A.ld1 1 rfl (o := 3) rfl))) ?_
            intro fr t H
            refine at_seg [(27, [])] [(5, .ptr (some (h3.size, 0))), (7, .ptr (some (h6.size, 0))), (43, .bool true), (45, .int .i64 x1.Mode), (46, .ptr (some (h6.size, 3)))] H (noU_all rfl) (fun fr => by kernel_rfl) ?_
            intro fr H
            refine at_step (v := .int .i64 x3.Mode) (h1 := h9) [(5, .ptr (some (h3.size, 0))), (7, .ptr (some (h6.size, 0))), (43, .bool true), (45, .int .i64 x1.Mode), (47, .int .i64 x3.Mode)] H (fun fr => by kernel_rfl) (fun fr => .of (s_ld (by kernel_rfl) (A.ld1 0 rfl (o := 3) rfl))) ?_
            intro fr t H
            refine at_seg [(29, []), (30, [])] [(5, .ptr (some (h3.size, 0))), (7, .ptr (some (h6.size, 0))), (49, .bool (x1.Mode == x3.Mode))] H (noU_all rfl) (fun fr => by kernel_rfl) ?_
            intro fr H
            exact at_nil ⟨rfl, by first | exact H.less _ (fun fr => by rfl) | exact H.less _ (fun fr => by rw [hb]; rfl)⟩
          | false =>
            replace H := H.know 43 hb (by kernel_rfl)
            refine at_seg [(25, []), (26, []), (27, []), (28, []), (29, []), (30, [])] [(5, .ptr (some (h3.size, 0))), (7, .ptr (some (h6.size, 0))), (49, .bool false)] H (noU_all rfl) (fun fr => by kernel_rfl) ?_
            intro fr H
            exact at_nil ⟨rfl, by first | exact H.less _ (fun fr => by rfl) | exact H.less _ (fun fr => by rw [hb]; rfl)⟩
        · intro t fr h' hK
          obtain ⟨e, H⟩ := hK
          subst e
          refine at_seg [(31, [])] [(5, .ptr (some (h3.size, 0))), (7, .ptr (some (h6.size, 0))), (50, .bool ((((x5 && (x1.Name == x3.Name)) && (x1.Link == x3.Link)) && (x1.Kind == x3.Kind)) && (x1.Mode == x3.Mode)))] H (noU_all rfl) (fun fr => by kernel_rfl) ?_
          intro fr H
          refine at_cut [(32, []), (33, []), (34, []), (35, []), (36, []), (37, [])] (fun fr' h' => h9 = h' ∧ Has fr' 106 [(5, .ptr (some (h3.size, 0))), (7, .ptr (some (h6.size, 0))), (56, .bool (((((x5 && (x1.Name == x3.Name)) && (x1.Link == x3.Link)) && (x1.Kind == x3.Kind)) && (x1.Mode == x3.Mode)) && (x1.Uid == x3.Uid)))]) ?_ ?_
          · cases hb : ((((x5 && (x1.Name == x3.Name)) && (x1.Link == x3.Link)) && (x1.Kind == x3.Kind)) && (x1.Mode == x3.Mode) : Bool) with
            | true =>
              replace H := H.know 50 hb (by kernel_rfl)
              refine at_seg [(32, [])] [(5, .ptr (some (h3.size, 0))), (7, .ptr (some (h6.size, 0))), (50, .bool true), (51, .ptr (some (h3.size, 4)))] H (noU_all rfl) (fun fr => by kernel_rfl) ?_
              intro fr H
              refine at_step (v := .int .i64 x1.Uid) (h1 := h9) [(5, .ptr (some (h3.size, 0))), (7, .ptr (some (h6.size, 0))), (50, .bool true), (52, .int .i64 x1.Uid)] H (fun fr => by kernel_rfl) (fun fr => .of (s_ld (by kernel_rfl) (A.ld1 1 rfl (o := 4) rfl))) ?_
              intro fr t H
              refine at_seg [(34, [])] [(5, .ptr (some (h3.size, 0))), (7, .ptr (some (h6.size, 0))), (50, .bool true), (52, .int .i64 x1.Uid), (53, .ptr (some (h6.size, 4)))] H (noU_all rfl) (fun fr => by kernel_rfl) ?_
              intro fr H
              refine at_step (v := .int .i64 x3.Uid) (h1 := h9) [(5, .ptr (some (h3.size, 0))), (7, .ptr (some (h6.size, 0))), (50, .bool true), (52, .int .i64 x1.Uid), (54, .int .i64 x3.Uid)] H (fun fr => by kernel_rfl) (fun fr => .of (s_ld (by kernel_rfl) (A.ld1 0 rfl (o := 4) rfl))) ?_
              intro fr t H
              refine at_seg [(36, []), (37, [])] [(5, .ptr (some (h3.size, 0))), (7, .ptr (some (h6.size, 0))), (56, .bool (x1.Uid == x3.Uid))] H (noU_all rfl) (fun fr => by kernel_rfl) ?_
              intro fr H
              exact at_nil ⟨rfl, by first | exact H.less _ (fun fr => by rfl) | exact H.less _ (fun fr => by rw [hb]; rfl)⟩
            | false =>
              replace H := H.know 50 hb (by kernel_rfl)
              refine at_seg [(32, []), (33, []), (34, []), (35, []), (36, []), (37, [])] [(5, .ptr (some (h3.size, 0))), (7, .ptr (some (h6.size, 0))), (56, .bool false)] H (noU_all rfl) (fun fr => by kernel_rfl) ?_
              intro fr H
              exact at_nil ⟨rfl, by first | exact H.less _ (fun fr => by rfl) | exact H.less _ (fun fr => by rw [hb]; rfl)⟩
          · intro t fr h' hK
            obtain ⟨e, H⟩ := hK
            subst e
            refine at_seg [(38, [])] [(5, .ptr (some (h3.size, 0))), (7, .ptr (some (h6.size, 0))), (57, .bool (((((x5 && (x1.Name == x3.Name)) && (x1.Link == x3.Link)) && (x1.Kind == x3.Kind)) && (x1.Mode == x3.Mode)) && (x1.Uid == x3.Uid)))] H (noU_all rfl) (fun fr => by kernel_rfl) ?_
            intro fr H
            refine at_cut [(39, []), (40, []), (41, []), (42, []), (43, []), (44, [])] (fun fr' h' => h9 = h' ∧ Has fr' 106 [(5, .ptr (some (h3.size, 0))), (7, .ptr (some (h6.size, 0))), (63, .bool ((((((x5 && (x1.Name == x3.Name)) && (x1.Link == x3.Link)) && (x1.Kind == x3.Kind)) && (x1.Mode == x3.Mode)) && (x1.Uid == x3.Uid)) && (x1.Gid == x3.Gid)))]) ?_ ?_
            · cases hb : (((((x5 && (x1.Name == x3.Name)) && (x1.Link == x3.Link)) && (x1.Kind == x3.Kind)) && (x1.Mode == x3.Mode)) && (x1.Uid == x3.Uid) : Bool) with
              | true =>
                replace H := H.know 57 hb (by kernel_rfl)
                refine at_seg [(39, [])] [(5, .ptr (some (h3.size, 0))), (7, .ptr (some (h6.size, 0))), (57, .bool true), (58, .ptr (some (h3.size, 5)))] H (noU_all rfl) (fun fr => by kernel_rfl) ?_
                intro fr H
                refine at_step (v := .int .i64 x1.Gid) (h1 := h9) [(5, .ptr (some (h3.size, 0))), (7, .ptr (some (h6.size, 0))), (57, .bool true), (59, .int .i64 x1.Gid)] H (fun fr => by kernel_rfl) (fun fr => .of (s_ld (by kernel_rfl) (A.ld1 1 rfl (o := 5) rfl))) ?_
                intro fr t H
                refine at_seg [(41, [])] [(5, .ptr (some (h3.size, 0))), (7, .ptr (some (h6.size, 0))), (57, .bool true), (59, .int .i64 x1.Gid), (60, .ptr (some (h6.size, 5)))] H (noU_all rfl) (fun fr => by kernel_rfl) ?_
                intro fr H
                refine at_step (v := .int .i64 x3.Gid) (h1 := h9) [(5, .ptr (some (h3.size, 0))), (7, .ptr (some (h6.size, 0))), (57, .bool true), (59, .int .i64 x1.Gid), (61, .int .i64 x3.Gid)] H (fun fr => by kernel_rfl) (fun fr => .of (s_ld (by kernel_rfl) (A.ld1 0 rfl (o := 5) rfl))) ?_
                intro fr t H
                refine at_seg [(43, []), (44, [])] [(5, .ptr (some (h3.size, 0))), (7, .ptr (some (h6.size, 0))), (63, .bool (x1.Gid == x3.Gid))] H (noU_all rfl) (fun fr => by kernel_rfl) ?_
                intro fr H
                exact at_nil ⟨rfl, by first | exact H.less _ (fun fr => by rfl) | exact H.less _ (fun fr => by rw [hb]; rfl)⟩
              | false =>
                replace H := H.know 57 hb (by kernel_rfl)
                refine at_seg [(39, []), (40, []), (41, []), (42, []), (43, []), (44, [])] [(5, .ptr (some (h3.size, 0))), (7, .ptr (some (h6.size, 0))), (63, .bool false)] H (noU_all rfl) (fun fr => by kernel_rfl) ?_
                intro fr H
                exact at_nil ⟨rfl, by first | exact H.less _ (fun fr => by rfl) | exact H.less _ (fun fr => by rw [hb]; rfl)⟩
            · intro t fr h' hK
              obtain ⟨e, H⟩ := hK
              subst e
              refine at_seg [(45, [])] [(5, .ptr (some (h3.size, 0))), (7, .ptr (some (h6.size, 0))), (64, .bool ((((((x5 && (x1.Name == x3.Name)) && (x1.Link == x3.Link)) && (x1.Kind == x3.Kind)) && (x1.Mode == x3.Mode)) && (x1.Uid == x3.Uid)) && (x1.Gid == x3.Gid)))] H (noU_all rfl) (fun fr => by kernel_rfl) ?_
              intro fr H
              refine at_cut [(46, []), (47, []), (48, []), (49, []), (50, []), (51, [])] (fun fr' h' => h9 = h' ∧ Has fr' 106 [(5, .ptr (some (h3.size, 0))), (7, .ptr (some (h6.size, 0))), (70, .bool (((((((x5 && (x1.Name == x3.Name)) && (x1.Link == x3.Link)) && (x1.Kind == x3.Kind)) && (x1.Mode == x3.Mode)) && (x1.Uid == x3.Uid)) && (x1.Gid == x3.Gid)) && (x1.Uname == x3.Uname)))]) ?_ ?_
              · cases hb : ((((((x5 && (x1.Name == x3.Name)) && (x1.Link == x3.Link)) && (x1.Kind == x3.Kind)) && (x1.Mode == x3.Mode)) && (x1.Uid == x3.Uid)) && (x1.Gid == x3.Gid) : Bool) with
                | true =>
                  replace H := H.know 64 hb (by kernel_rfl)
                  refine at_seg [(46, [])] [(5, .ptr (some (h3.size, 0))), (7, .ptr (some (h6.size, 0))), (64, .bool true), (65, .ptr (some (h3.size, 6)))] H (noU_all rfl) (fun fr => by kernel_rfl) ?_
                  intro fr H
                  refine at_step (v := .str x1.Uname) (h1 := h9) [(5, .ptr (some (h3.size, 0))), (7, .ptr (some (h6.size, 0))), (64, .bool true), (66, .str x1.Uname)] H (fun fr => by kernel_rfl) (fun fr => .of (s_ld (by kernel_rfl) (A.ld1 1 rfl (o := 6) rfl))) ?_
                  intro fr t H
                  refine at_seg [(48, [])] [(5, .ptr (some (h3.size, 0))), (7, .ptr (some (h6.size, 0))), (64, .bool true), (66, .str x1.Uname), (67, .ptr (some (h6.size, 6)))] H (noU_all rfl) (fun fr => by kernel_rfl) ?_
                  intro fr H
                  refine at_step (v := .str x3.Uname) (h1 := h9) [(5, .ptr (some (h3.size, 0))), (7, .ptr (some (h6.size, 0))), (64, .bool true), (66, .str x1.Uname), (68, .str x3.Uname)] H (fun fr => by kernel_rfl) (fun fr => .of (s_ld (by kernel_rfl) (A.ld1 0 rfl (o := 6) rfl))) ?_
                  intro fr t H
                  refine at_seg [(50, []), (51, [])] [(5, .ptr (some (h3.size, 0))), (7, .ptr (some (h6.size, 0))), (70, .bool (x1.Uname == x3.Uname))] H (noU_all rfl) (fun fr => by kernel_rfl) ?_
                  intro fr H
                  exact at_nil ⟨rfl, by first | exact H.less _ (fun fr => by rfl) | exact H.less _ (fun fr => by rw [hb]; rfl)⟩
                | false =>
                  replace H := H.know 64 hb (by kernel_rfl)
                  refine at_seg [(46, []), (47, []), (48, []), (49, []), (50, []), (51, [])] [(5, .ptr (some (h3.size, 0))), (7, .ptr (some (h6.size, 0))), (70, .bool false)] H (noU_all rfl) (fun fr => by kernel_rfl) ?_
                  intro fr H
                  exact at_nil ⟨rfl, by first | exact H.less _ (fun fr => by rfl) | exact H.less _ (fun fr => by rw [hb]; rfl)⟩
              · intro t fr h' hK
                obtain ⟨e, H⟩ := hK
                subst e
                refine at_seg [(52, [])] [(5, .ptr (some (h3.size, 0))), (7, .ptr (some (h6.size, 0))), (71, .bool (((((((x5 && (x1.Name == x3.Name)) && (x1.Link == x3.Link)) && (x1.Kind == x3.Kind)) && (x1.Mode == x3.Mode)) && (x1.Uid == x3.Uid)) && (x1.Gid == x3.Gid)) && (x1.Uname == x3.Uname)))] H (noU_all rfl) (fun fr => by kernel_rfl) ?_
                intro fr H
                refine at_cut [(53, []), (54, []), (55, []), (56, []), (57, []), (58, [])] (fun fr' h' => h9 = h' ∧ Has fr' 106 [(5, .ptr (some (h3.size, 0))), (7, .ptr (some (h6.size, 0))), (77, .bool ((((((((x5 && (x1.Name == x3.Name)) && (x1.Link == x3.Link)) && (x1.Kind == x3.Kind)) && (x1.Mode == x3.Mode)) && (x1.Uid == x3.Uid)) && (x1.Gid == x3.Gid)) && (x1.Uname == x3.Uname)) && (x1.Gname == x3.Gname)))]) ?_ ?_
                · cases hb : (((((((x5 && (x1.Name == x3.Name)) && (x1.Link == x3.Link)) && (x1.Kind == x3.Kind)) && (x1.Mode == x3.Mode)) && (x1.Uid == x3.Uid)) && (x1.Gid == x3.Gid)) && (x1.Uname == x3.Uname) : Bool) with
                  | true =>
                    replace H := H.know 71 hb (by kernel_rfl)
                    refine at_seg [(53, [])] [(5, .ptr (some (h3.size, 0))), (7, .ptr (some (h6.size, 0))), (71, .bool true), (72, .ptr (some (h3.size, 7)))] H (noU_all rfl) (fun fr => by kernel_rfl) ?_
                    intro fr H
                    refine at_step (v := .str x1.Gname) (h1 := h9) [(5, .ptr (some (h3.size, 0))), (7, .ptr (some (h6.size, 0))), (71, .bool true), (73, .str x1.Gname)] H (fun fr => by kernel_rfl) (fun fr => .of (s_ld (by kernel_rfl) (A.ld1 1 rfl (o := 7) rfl))) ?_
                    intro fr t H
                    refine at_seg [(55, [])] [(5, .ptr (some (h3.size, 0))), (7, .ptr (some (h6.size, 0))), (71, .bool true), (73, .str x1.Gname), (74, .ptr (some (h6.size, 7)))] H (noU_all rfl) (fun fr => by kernel_rfl) ?_
                    intro fr H
                    refine at_step (v := .str x3.Gname) (h1 := h9) [(5, .ptr (some (h3.size, 0))), (7, .ptr (some (h6.size, 0))), (71, .bool true), (73, .str x1.Gname), (75, .str x3.Gname)] H (fun fr => by kernel_rfl) (fun fr => .of (s_ld (by kernel_rfl) (A.ld1 0 rfl (o := 7) rfl))) ?_
                    intro fr t H
                    refine at_seg [(57, []), (58, [])] [(5, .ptr (some (h3.size, 0))), (7, .ptr (some (h6.size, 0))), (77, .bool (x1.Gname == x3.Gname))] H (noU_all rfl) (fun fr => by kernel_rfl) ?_
                    intro fr H
                    exact at_nil ⟨rfl, by first | exact H.less _ (fun fr => by rfl) | exact H.less _ (fun fr => by rw [hb]; rfl)⟩
                  | false =>
                    replace H := H.know 71 hb (by kernel_rfl)
                    refine at_seg [(53, []), (54, []), (55, []), (56, []), (57, []), (58, [])] [(5, .ptr (some (h3.size, 0))), (7, .ptr (some (h6.size, 0))), (77, .bool false)] H (noU_all rfl) (fun fr => by kernel_rfl) ?_
                    intro fr H
                    exact at_nil ⟨rfl, by first | exact H.less _ (fun fr => by rfl) | exact H.less _ (fun fr => by rw [hb]; rfl)⟩
                · intro t fr h' hK
                  obtain ⟨e, H⟩ := hK
                  subst e
                  refine at_seg [(59, [])] [(5, .ptr (some (h3.size, 0))), (7, .ptr (some (h6.size, 0))), (78, .bool ((((((((x5 && (x1.Name == x3.Name)) && (x1.Link == x3.Link)) && (x1.Kind == x3.Kind)) && (x1.Mode == x3.Mode)) && (x1.Uid == x3.Uid)) && (x1.Gid == x3.Gid)) && (x1.Uname == x3.Uname)) && (x1.Gname == x3.Gname)))] H (noU_all rfl) (fun fr => by kernel_rfl) ?_
                  intro fr H
                  refine at_cut [(60, []), (61, []), (62, []), (63, []), (64, []), (65, [])] (fun fr' h' => h9 = h' ∧ Has fr' 106 [(5, .ptr (some (h3.size, 0))), (7, .ptr (some (h6.size, 0))), (84, .bool (((((((((x5 && (x1.Name == x3.Name)) && (x1.Link == x3.Link)) && (x1.Kind == x3.Kind)) && (x1.Mode == x3.Mode)) && (x1.Uid == x3.Uid)) && (x1.Gid == x3.Gid)) && (x1.Uname == x3.Uname)) && (x1.Gname == x3.Gname)) && (x1.Major == x3.Major)))]) ?_ ?_
                  · cases hb : ((((((((x5 && (x1.Name == x3.Name)) && (x1.Link == x3.Link)) && (x1.Kind == x3.Kind)) && (x1.Mode == x3.Mode)) && (x1.Uid == x3.Uid)) && (x1.Gid == x3.Gid)) && (x1.Uname == x3.Uname)) && (x1.Gname == x3.Gname) : Bool) with
                    | true =>
                      replace H := H.know 78 hb (by kernel_rfl)
                      refine at_seg [(60, [])] [(5, .ptr (some (h3.size, 0))), (7, .ptr (some (h6.size, 0))), (78, .bool true), (79, .ptr (some (h3.size, 8)))] H (noU_all rfl) (fun fr => by kernel_rfl) ?_
                      intro fr H
                      refine at_step (v := .int .i64 x1.Major) (h1 := h9) [(5, .ptr (some (h3.size, 0))), (7, .ptr (some (h6.size, 0))), (78, .bool true), (80, .int .i64 x1.Major)] H (fun fr => by kernel_rfl) (fun fr => .of (s_ld (by kernel_rfl) (A.ld1 1 rfl (o := 8) rfl))) ?_
                      intro fr t H
                      refine at_seg [(62, [])] [(5, .ptr (some (h3.size, 0))), (7, .ptr (some (h6.size, 0))), (78, .bool true), (80, .int .i64 x1.Major), (81, .ptr (some (h6.size, 8)))] H (noU_all rfl) (fun fr => by kernel_rfl) ?_
                      intro fr H
                      refine at_step (v := .int .i64 x3.Major) (h1 := h9) [(5, .ptr (some (h3.size, 0))), (7, .ptr (some (h6.size, 0))), (78, .bool true), (80, .int .i64 x1.Major), (82, .int .i64 x3.Major)] H (fun fr => by kernel_rfl) (fun fr => .of (s_ld (by kernel_rfl) (A.ld1 0 rfl (o := 8) rfl))) ?_
                      intro fr t H
                      refine at_seg [(64, []), (65, [])] [(5, .ptr (some (h3.size, 0))), (7, .ptr (some (h6.size, 0))), (84, .bool (x1.Major == x3.Major))] H (noU_all rfl) (fun fr => by kernel_rfl) ?_
                      intro fr H
                      exact at_nil ⟨rfl, by first | exact H.less _ (fun fr => by rfl) | exact H.less _ (fun fr => by rw [hb]; rfl)⟩
                    | false =>
                      replace H := H.know 78 hb (by kernel_rfl)
                      refine at_seg [(60, []), (61, []), (62, []), (63, []), (64, []), (65, [])] [(5, .ptr (some (h3.size, 0))), (7, .ptr (some (h6.size, 0))), (84, .bool false)] H (noU_all rfl) (fun fr => by kernel_rfl) ?_
                      intro fr H
                      exact at_nil ⟨rfl, by first | exact H.less _ (fun fr => by rfl) | exact H.less _ (fun fr => by rw [hb]; rfl)⟩
                  · intro t fr h' hK
                    obtain ⟨e, H⟩ := hK
                    subst e
                    refine at_seg [(66, [])] [(5, .ptr (some (h3.size, 0))), (7, .ptr (some (h6.size, 0))), (85, .bool (((((((((x5 && (x1.Name == x3.Name)) && (x1.Link == x3.Link)) && (x1.Kind == x3.Kind)) && (x1.Mode == x3.Mode)) && (x1.Uid == x3.Uid)) && (x1.Gid == x3.Gid)) && (x1.Uname == x3.Uname)) && (x1.Gname == x3.Gname)) && (x1.Major == x3.Major)))] H (noU_all rfl) (fun fr => by kernel_rfl) ?_
                    intro fr H
                    refine at_cut [(67, []), (68, []), (69, []), (70, []), (71, []), (72, [])] (fun fr' h' => h9 = h' ∧ Has fr' 106 [(5, .ptr (some (h3.size, 0))), (7, .ptr (some (h6.size, 0))), (91, .bool ((((((((((x5 && (x1.Name == x3.Name)) && (x1.Link == x3.Link)) && (x1.Kind == x3.Kind)) && (x1.Mode == x3.Mode)) && (x1.Uid == x3.Uid)) && (x1.Gid == x3.Gid)) && (x1.Uname == x3.Uname)) && (x1.Gname == x3.Gname)) && (x1.Major == x3.Major)) && (x1.Minor == x3.Minor)))]) ?_ ?_
                    · cases hb : (((((((((x5 && (x1.Name == x3.Name)) && (x1.Link == x3.Link)) && (x1.Kind == x3.Kind)) && (x1.Mode == x3.Mode)) && (x1.Uid == x3.Uid)) && (x1.Gid == x3.Gid)) && (x1.Uname == x3.Uname)) && (x1.Gname == x3.Gname)) && (x1.Major == x3.Major) : Bool) with
                      | true =>
                        replace H := H.know 85 hb (by kernel_rfl)
                        refine at_seg [(67, [])] [(5, .ptr (some (h3.size, 0))), (7, .ptr (some (h6.size, 0))), (85, .bool true), (86, .ptr (some (h3.size, 9)))] H (noU_all rfl) (fun fr => by kernel_rfl) ?_
                        intro fr H
                        refine at_step (v := .int .i64 x1.Minor) (h1 := h9) [(5, .ptr (some (h3.size, 0))), (7, .ptr (some (h6.size, 0))), (85, .bool true), (87, .int .i64 x1.Minor)] H (fun fr => by kernel_rfl) (fun fr => .of (s_ld (by kernel_rfl) (A.ld1 1 rfl (o := 9) rfl))) ?_
                        intro fr t H
                        refine at_seg [(69, [])] [(5, .ptr (some (h3.size, 0))), (7, .ptr (some (h6.size, 0))), (85, .bool true), (87, .int .i64 x1.Minor), (88, .ptr (some (h6.size, 9)))] H (noU_all rfl) (fun fr => by kernel_rfl) ?_
                        intro fr H
                        refine at_step (v := .int .i64 x3.Minor) (h1 := h9) [(5, .ptr (some (h3.size, 0))), (7, .ptr (some (h6.size, 0))), (85, .bool true), (87, .int .i64 x1.Minor), (89, .int .i64 x3.Minor)] H (fun fr => by kernel_rfl) (fun fr => .of (s_ld (by kernel_rfl) (A.ld1 0 rfl (o := 9) rfl))) ?_
                        intro fr t H
                        refine at_seg [(71, []), (72, [])] [(5, .ptr (some (h3.size, 0))), (7, .ptr (some (h6.size, 0))), (91, .bool (x1.Minor == x3.Minor))] H (noU_all rfl) (fun fr => by kernel_rfl) ?_
                        intro fr H
                        exact at_nil ⟨rfl, by first | exact H.less _ (fun fr => by rfl) | exact H.less _ (fun fr => by rw [hb]; rfl)⟩
                      | false =>
                        replace H := H.know 85 hb (by kernel_rfl)
                        refine at_seg [(67, []), (68, []), (69, []), (70, []), (71, []), (72, [])] [(5, .ptr (some (h3.size, 0))), (7, .ptr (some (h6.size, 0))), (91, .bool false)] H (noU_all rfl) (fun fr => by kernel_rfl) ?_
                        intro fr H
                        exact at_nil ⟨rfl, by first | exact H.less _ (fun fr => by rfl) | exact H.less _ (fun fr => by rw [hb]; rfl)⟩
                    · intro t fr h' hK
                      obtain ⟨e, H⟩ := hK
                      subst e
                      refine at_seg [(73, [])] [(5, .ptr (some (h3.size, 0))), (7, .ptr (some (h6.size, 0))), (92, .bool ((((((((((x5 && (x1.Name == x3.Name)) && (x1.Link == x3.Link)) && (x1.Kind == x3.Kind)) && (x1.Mode == x3.Mode)) && (x1.Uid == x3.Uid)) && (x1.Gid == x3.Gid)) && (x1.Uname == x3.Uname)) && (x1.Gname == x3.Gname)) && (x1.Major == x3.Major)) && (x1.Minor == x3.Minor)))] H (noU_all rfl) (fun fr => by kernel_rfl) ?_
                      intro fr H
                      obtain ⟨x6, ho, hm⟩ := bind_some hm
                      refine at_cut [(74, []), (75, []), (76, []), (77, []), (78, []), (79, [])] (fun fr' h' => Has fr' 106 [(5, .ptr (some (h3.size, 0))), (7, .ptr (some (h6.size, 0))), (98, .bool x6)] ∧ HH g h' [.obj h6.size (.cells none 2 (e_S_api_Member x3)), .obj h3.size (.cells none 2 (e_S_api_Member x1)), .obj h1.size (.cells none 2 (e_S_api_Member p1)), .obj h.size (.cells none 2 (e_S_api_Member p0))] F) ?_ ?_
                      · rcases iteB_some ho with ⟨hb, hm⟩ | ⟨hb, hm⟩
                        · replace H := H.know 92 hb (by kernel_rfl)
                          refine at_seg [(74, [])] [(5, .ptr (some (h3.size, 0))), (7, .ptr (some (h6.size, 0))), (92, .bool true), (93, .ptr (some (h3.size, 10)))] H (noU_all rfl) (fun fr => by kernel_rfl) ?_
                          intro fr H
                          refine at_step (v := .agg [.int .i64 x1.Time.Sec, .int .i64 x1.Time.Nsec]) (h1 := h9) [(5, .ptr (some (h3.size, 0))), (7, .ptr (some (h6.size, 0))), (92, .bool true), (94, .agg [.int .i64 x1.Time.Sec, .int .i64 x1.Time.Nsec])] H (fun fr => by kernel_rfl) (fun fr => .of (s_ldA (by kernel_rfl) (A.ldA 1 rfl (o := 10) (n := 2) ⟨Nat.le_of_ble_eq_true rfl, rfl⟩))) ?_
                          intro fr t H
                          refine at_seg [(76, [])] [(5, .ptr (some (h3.size, 0))), (7, .ptr (some (h6.size, 0))), (92, .bool true), (94, .agg [.int .i64 x1.Time.Sec, .int .i64 x1.Time.Nsec]), (95, .ptr (some (h6.size, 10)))] H (noU_all rfl) (fun fr => by kernel_rfl) ?_
                          intro fr H
                          refine at_step (v := .agg [.int .i64 x3.Time.Sec, .int .i64 x3.Time.Nsec]) (h1 := h9) [(5, .ptr (some (h3.size, 0))), (7, .ptr (some (h6.size, 0))), (92, .bool true), (94, .agg [.int .i64 x1.Time.Sec, .int .i64 x1.Time.Nsec]), (96, .agg [.int .i64 x3.Time.Sec, .int .i64 x3.Time.Nsec])] H (fun fr => by kernel_rfl) (fun fr => .of (s_ldA (by kernel_rfl) (A.ldA 0 rfl (o := 10) (n := 2) ⟨Nat.le_of_ble_eq_true rfl, rfl⟩))) ?_
                          intro fr t H
                          obtain ⟨x7, hx, hm⟩ := bind_some hm
                          refine at_step (v := .bool x7) (h1 := h9) [(5, .ptr (some (h3.size, 0))), (7, .ptr (some (h6.size, 0))), (92, .bool true), (97, .bool x7)] H (fun fr => by kernel_rfl) (fun fr => .of (s_eqG (by kernel_rfl) hx)) ?_
                          intro fr t H
                          refine at_seg [(79, [])] [(5, .ptr (some (h3.size, 0))), (7, .ptr (some (h6.size, 0))), (98, .bool x7)] H (noU_all rfl) (fun fr => by kernel_rfl) ?_
                          intro fr H
                          have e1 := Option.some.inj hm
                          subst e1
                          exact at_nil ⟨H.less _ (fun fr => by kernel_rfl), A⟩
                        · replace H := H.know 92 hb (by kernel_rfl)
                          refine at_seg [(74, []), (75, []), (76, []), (77, []), (78, []), (79, [])] [(5, .ptr (some (h3.size, 0))), (7, .ptr (some (h6.size, 0))), (98, .bool false)] H (noU_all rfl) (fun fr => by kernel_rfl) ?_
                          intro fr H
                          have e1 := Option.some.inj hm
                          subst e1
                          exact at_nil ⟨H.less _ (fun fr => by kernel_rfl), A⟩
                      · clear A
                        intro t fr h10 hK
                        obtain ⟨H, A⟩ := hK
                        refine at_seg [(80, [])] [(5, .ptr (some (h3.size, 0))), (7, .ptr (some (h6.size, 0))), (99, .bool x6)] H (noU_all rfl) (fun fr => by kernel_rfl) ?_
                        intro fr H
                        refine at_cut [(81, []), (82, []), (83, []), (84, []), (85, []), (86, [])] (fun fr' h' => h10 = h' ∧ Has fr' 106 [(105, .bool (x6 && (x1.Data == x3.Data)))]) ?_ ?_
                        · cases hb : (x6 : Bool) with
                          | true =>
                            replace H := H.know 99 hb (by kernel_rfl)
                            refine at_seg [(81, [])] [(7, .ptr (some (h6.size, 0))), (99, .bool true), (100, .ptr (some (h3.size, 13)))] H (noU_all rfl) (fun fr => by kernel_rfl) ?_
                            intro fr H
                            refine at_step (v := .str x1.Data) (h1 := h10) [(7, .ptr (some (h6.size, 0))), (99, .bool true), (101, .str x1.Data)] H (fun fr => by kernel_rfl) (fun fr => .of (s_ld (by kernel_rfl) (A.ld1 1 rfl (o := 13) rfl))) ?_
                            intro fr t H
                            refine at_seg [(83, [])] [(99, .bool true), (101, .str x1.Data), (102, .ptr (some (h6.size, 13)))] H (noU_all rfl) (fun fr => by kernel_rfl) ?_
                            intro fr H
                            refine at_step (v := .str x3.Data) (h1 := h10) [(99, .bool true), (101, .str x1.Data), (103, .str x3.Data)] H (fun fr => by kernel_rfl) (fun fr => .of (s_ld (by kernel_rfl) (A.ld1 0 rfl (o := 13) rfl))) ?_
                            intro fr t H
                            refine at_seg [(85, []), (86, [])] [(105, .bool (x1.Data == x3.Data))] H (noU_all rfl) (fun fr => by kernel_rfl) ?_
                            intro fr H
                            exact at_nil ⟨rfl, by first | exact H.less _ (fun fr => by rfl) | exact H.less _ (fun fr => by rw [hb]; rfl)⟩
                          | false =>
                            replace H := H.know 99 hb (by kernel_rfl)
                            refine at_seg [(81, []), (82, []), (83, []), (84, []), (85, []), (86, [])] [(105, .bool false)] H (noU_all rfl) (fun fr => by kernel_rfl) ?_
                            intro fr H
                            exact at_nil ⟨rfl, by first | exact H.less _ (fun fr => by rfl) | exact H.less _ (fun fr => by rw [hb]; rfl)⟩
                        · intro t fr h' hK
                          obtain ⟨e, H⟩ := hK
                          subst e
                          refine at_seg [(87, [])] [(4, .bool (x6 && (x1.Data == x3.Data)))] H (noU_all rfl) (fun fr => by kernel_rfl) ?_
                          intro fr H
                          refine at_nil ?_
                          show AW cfg 51 g (right (right (right (right (bodyC cfg.P 51))))) fr h10 _
                          refine aw_ret (by kernel_rfl) ?_
                          have e1 := Option.some.inj hm
                          subst e1
                          refine ⟨.inl rfl, .bool (x6 && (x1.Data == x3.Data)), resH H (fun fr => by kernel_rfl), ?_⟩
                          replace A : HH g h10 [] F := (HH.dropF A 0)
                          exact ⟨rfl, A⟩
/-! ### boulter/boulterref38.Sorted -/
noncomputable def M_boulterref38_Sorted_L0 (x1 : List S_api_Member) (s : (List S_api_Member) × Int) : Option (((List S_api_Member) × Int) ⊕ (((List S_api_Member)))) :=
  match s with
  | (x2, x3) => iteB (decide (x3 < (x1.length : Int))) ((ixV x1 x3).bind fun x5 => (M_boulterref38_insert_sOR x2 x5).bind fun x6 => some (.inl (x6, IntKind.i64.wrap (x3 + (1 : Int))))) (some (.inr x2))
noncomputable def M_boulterref38_Sorted (p0 : List S_api_Member) : Option ((List S_api_Member)) :=
 (M_boulterref38_Last p0).bind fun x1 => (loop (M_boulterref38_Sorted_L0 x1) (([] : List S_api_Member), (0 : Int))).bind fun x4 => some x4
theorem ok_boulterref38_Sorted {g : Gd} {h : AHeap} {F : List Ck} {p0 : List S_api_Member} {q0 : List S_api_Member} {av : List AVal} (hm : M_boulterref38_Sorted p0 = some q0) (hc : canL (cfg.still 33) av = [vs e_S_api_Member p0]) (A : HH g h [] F) : ∃ v h', Runs cfg g h 33 av v h' ∧ ∃ (rq0 : Option Nat), v = rowV rq0 q0.length ∧ HH g h' [.lst rq0 63 (lst e_S_api_Member q0)] F := by
  refine runsQ1 (n := 22) (rs := [.tmp 2]) (by kernel_rfl) hc (by kernel_rfl) ?_
  clear hc
  unfold M_boulterref38_Sorted at hm
  refine start (n := 22) [(0, vs e_S_api_Member p0)] (by kernel_rfl) (by kernel_rfl) ?_
  intro fr H
  refine aw_seq (by kernel_rfl) ?_
  refine aw_reg (id := 0) (n := 1) [(0, [])] (by kernel_rfl) (by kernel_rfl) ?_
  refine at_seg [(0, [])] [(0, vs e_S_api_Member p0)] H (noU_all rfl) (fun fr => by kernel_rfl) ?_
  intro fr H
  refine at_nil ?_
  show AW cfg 33 g (right (bodyC cfg.P 33)) fr h _
  refine aw_seq (by kernel_rfl) ?_
  refine aw_reg (id := 1) (n := 2) [(0, []), (1, [])] (by kernel_rfl) (by kernel_rfl) ?_
  obtain ⟨h1, e1⟩ : ∃ x, x = h.push (.cells (some 63) 2 []) := ⟨_, rfl⟩
  replace A := (A.pushL _ _).to e1
  refine at_step (v := rowV (some h.size) (([] : List S_api_Member).length)) (h1 := h1) [(0, vs e_S_api_Member p0), (6, rowV (some h.size) (([] : List S_api_Member).length))] H (fun fr => by kernel_rfl) (fun fr => .of (s_n' (by kernel_rfl) (congrArg some e1.symm))) ?_
  intro fr t H
  refine at_seg [(1, [])] [(0, vs e_S_api_Member p0), (3, rowV (some h.size) (([] : List S_api_Member).length))] H (noU_all rfl) (fun fr => by kernel_rfl) ?_
  intro fr H
  refine at_nil ?_
  show AW cfg 33 g (right (right (bodyC cfg.P 33))) fr h1 _
  refine aw_seq (by kernel_rfl) ?_
  refine aw_reg (id := 2) (n := 3) [(0, []), (1, []), (2, [])] (by kernel_rfl) (by kernel_rfl) ?_
  refine at_seg [(0, [])] [(3, rowV (some h.size) (([] : List S_api_Member).length)), (7, vs e_S_api_Member p0)] H (noU_all rfl) (fun fr => by kernel_rfl) ?_
  intro fr H
  have A1 := A.cut 0
  obtain ⟨x1, hx, hm⟩ := bind_some hm
  obtain ⟨v1, h2, hr, rqw1, rfl, A1⟩ := ok_boulterref38_Last (av := [vs e_S_api_Member p0]) hx (by kernel_rfl) A1
  replace A : HH g h2 [.lst rqw1 63 (lst e_S_api_Member x1), .lst (some h.size) 63 ([])] F := A.glue0 (n := 0) A1
  refine at_step (v := rowV rqw1 x1.length) (h1 := h2) [(3, rowV (some h.size) (([] : List S_api_Member).length)), (8, rowV rqw1 x1.length)] H (fun fr => by kernel_rfl) (fun fr => Steps.call (by kernel_rfl) hr) ?_
  intro fr t H
  refine at_seg [(2, [])] [(3, rowV (some h.size) (([] : List S_api_Member).length)), (4, rowV rqw1 x1.length)] H (noU_all rfl) (fun fr => by kernel_rfl) ?_
  intro fr H
  refine at_nil ?_
  show AW cfg 33 g (right (right (right (bodyC cfg.P 33)))) fr h2 _
  refine aw_seq (by kernel_rfl) ?_
  refine aw_seq (by kernel_rfl) ?_
  refine aw_reg (id := 3) (n := 1) [(0, [])] (by kernel_rfl) (by kernel_rfl) ?_
  refine at_seg [(0, [])] [(3, rowV (some h.size) (([] : List S_api_Member).length)), (4, rowV rqw1 x1.length), (5, .int .i64 (0 : Int))] H (noU_all rfl) (fun fr => by kernel_rfl) ?_
  intro fr H
  refine at_nil ?_
  show AW cfg 33 g (right (left (right (right (right (bodyC cfg.P 33)))))) fr h2 _
  refine aw_block (id := 0) (by kernel_rfl) ?_
  replace A : HH g h2 [.lst rqw1 63 (lst e_S_api_Member x1), .lst (some h.size) 63 (lst e_S_api_Member ([] : List S_api_Member))] F := A
  replace A : HH g h2 [.lst (some h.size) 63 (lst e_S_api_Member ([] : List S_api_Member)), .lst rqw1 63 (lst e_S_api_Member x1)] F := ((A.front 0 rfl).front 1 rfl)
  obtain ⟨o1, ho, hm⟩ := bind_some hm
  refine aw_mono (Q' := fun e fr' h' => (∃ (x4 : List S_api_Member), e = .exit 0 ∧ x4 = o1 ∧ ∃ (r2 : Option Nat), Has fr' 22 [(3, rowV r2 x4.length)] ∧ HH g h' [.lst r2 63 (lst e_S_api_Member x4)] F) ∨ False) ?_ ?_
  · refine aw_loop (by kernel_rfl) (fun (s : (List S_api_Member) × Int) fr' h' => ∃ (x2 : List S_api_Member) (x3 : Int), (x2, x3) = s ∧ ∃ (r1 : Option Nat), Has fr' 22 [(3, rowV r1 x2.length), (4, rowV rqw1 x1.length), (5, .int .i64 x3)] ∧ HH g h' [.lst r1 63 (lst e_S_api_Member x2), .lst rqw1 63 (lst e_S_api_Member x1)] F) ho ⟨([] : List S_api_Member), (0 : Int), rfl, some h.size, H.less _ (fun fr => by kernel_rfl), A⟩ ?_
    clear ho hm H A
    intro s q fr h3 hI hm
    obtain ⟨x2, x3, rfl, r1, H, A⟩ := hI
    unfold M_boulterref38_Sorted_L0 at hm
    refine aw_seq (by kernel_rfl) ?_
    refine aw_seq (by kernel_rfl) ?_
    refine aw_reg (id := 4) (n := 4) [(0, []), (1, []), (2, []), (3, [])] (by kernel_rfl) (by kernel_rfl) ?_
    refine at_seg [(0, []), (1, []), (2, []), (3, [])] [(3, rowV r1 x2.length), (4, rowV rqw1 x1.length), (5, .int .i64 x3), (12, .bool (decide (x3 < (x1.length : Int))))] H (noU_all rfl) (fun fr => by kernel_rfl) ?_
    intro fr H
    refine at_nil ?_
    show AW cfg 33 g (right (left (left (left (right (left (right (right (right (bodyC cfg.P 33)))))))))) fr h3 _
    rcases iteB_some hm with ⟨hb, hm⟩ | ⟨hb, hm⟩
    · replace H := H.know 12 hb (by kernel_rfl)
      refine aw_true (x := .tmp 12) (by kernel_rfl) H (fun fr => by kernel_rfl) ?_
      refine aw_skip (by kernel_rfl) ?_
      show AW cfg 33 g (right (left (left (right (left (right (right (right (bodyC cfg.P 33))))))))) fr h3 _
      refine aw_seq (by kernel_rfl) ?_
      refine aw_block (id := 1) (by kernel_rfl) ?_
      refine aw_reg (id := 6) (n := 7) [(0, []), (1, []), (2, []), (3, []), (4, []), (5, []), (6, [])] (by kernel_rfl) (by kernel_rfl) ?_
      refine at_seg [(0, []), (1, []), (2, [])] [(4, rowV rqw1 x1.length), (5, .int .i64 x3), (15, rowV r1 x2.length), (16, rowV rqw1 x1.length), (17, .int .i64 x3)] H (noU_all rfl) (fun fr => by kernel_rfl) ?_
      intro fr H
      obtain ⟨x5, hx, hm⟩ := bind_some hm
      obtain ⟨i1, er1, _, hx, hq1⟩ := HH.ixO enc_S_api_Member (by decide) A 1 (xs := x1) rfl hx
      refine at_step (v := .ptr (some (i1, x3.toNat * 14))) (h1 := h3) [(4, rowV rqw1 x1.length), (5, .int .i64 x3), (15, rowV r1 x2.length), (18, .ptr (some (i1, x3.toNat * 14)))] H (fun fr => by kernel_rfl) (fun fr => .of (s_ixL (s := rowS rqw1 x1.length) (by kernel_rfl) hx)) ?_
      intro fr t H
      refine at_step (v := .agg (e_S_api_Member x5)) (h1 := h3) [(4, rowV rqw1 x1.length), (5, .int .i64 x3), (15, rowV r1 x2.length), (19, .agg (e_S_api_Member x5))] H (fun fr => by kernel_rfl) (fun fr => .of (s_ldA (by kernel_rfl) (row_ldA enc_S_api_Member (HH.row A 1 rfl er1) hq1 0 14 (Nat.le_of_ble_eq_true rfl)))) ?_
      intro fr t H
      have A1 := A.cut 1
      obtain ⟨x6, hx, hm⟩ := bind_some hm
      obtain ⟨v1, h4, hr, rqw2, rfl, A1⟩ := ok_boulterref38_insert_sOR (av := [rowV r1 x2.length, .agg (e_S_api_Member x5)]) hx (by kernel_rfl) A1
      replace A : HH g h4 [.lst rqw2 63 (lst e_S_api_Member x6), .lst r1 63 (lst e_S_api_Member x2), .lst rqw1 63 (lst e_S_api_Member x1)] F := A.glue0 (n := 1) A1
      refine at_step (v := rowV rqw2 x6.length) (h1 := h4) [(4, rowV rqw1 x1.length), (5, .int .i64 x3), (20, rowV rqw2 x6.length)] H (fun fr => by kernel_rfl) (fun fr => Steps.call (by kernel_rfl) hr) ?_
      intro fr t H
      refine at_seg [(6, [])] [(3, rowV rqw2 x6.length), (4, rowV rqw1 x1.length), (5, .int .i64 x3)] H (noU_all rfl) (fun fr => by kernel_rfl) ?_
      intro fr H
      refine at_nil ?_
      show AW cfg 33 g (right (right (left (left (right (left (right (right (right (bodyC cfg.P 33)))))))))) fr h4 _
      refine aw_reg (id := 5) (n := 3) [(0, []), (1, []), (2, [])] (by kernel_rfl) (by kernel_rfl) ?_
      refine at_seg [(0, []), (1, []), (2, [])] [(3, rowV rqw2 x6.length), (4, rowV rqw1 x1.length), (5, .int .i64 (IntKind.i64.wrap (x3 + (1 : Int))))] H (noU_all rfl) (fun fr => by kernel_rfl) ?_
      intro fr H
      refine at_nil ?_
      replace A : HH g h4 [.lst rqw2 63 (lst e_S_api_Member x6), .lst rqw1 63 (lst e_S_api_Member x1)] F := (HH.dropF ((A.front 2 rfl).front 1 rfl) 2)
      exact Exists.intro (x6, IntKind.i64.wrap (x3 + (1 : Int))) (And.intro (Option.some.inj hm).symm ⟨x6, IntKind.i64.wrap (x3 + (1 : Int)), rfl, rqw2, H.less _ (fun fr => by kernel_rfl), A⟩)
    · replace H := H.know 12 hb (by kernel_rfl)
      refine aw_false (x := .tmp 12) (by kernel_rfl) H (fun fr => by kernel_rfl) ?_
      refine aw_exit (i := 0) (by kernel_rfl) ?_
      replace A : HH g h3 [.lst r1 63 (lst e_S_api_Member x2)] F := (HH.dropF (A.front 0 rfl) 1)
      exact Exists.intro _ (And.intro (Option.some.inj hm).symm (fun e => Or.inl ⟨x2, rfl, e, r1, H.less _ (fun fr => by kernel_rfl), A⟩))
  · clear ho
    clear A
    intro e fr h5 hQ
    rcases hQ with ⟨x4, rfl, rfl, r2, H, A⟩ | hF
    · skip
      show AW cfg 33 g (right (right (right (right (bodyC cfg.P 33))))) fr h5 _
      refine aw_seq (by kernel_rfl) ?_
      refine aw_reg (id := 7) (n := 2) [(0, []), (1, [])] (by kernel_rfl) (by kernel_rfl) ?_
      refine at_seg [(0, []), (1, [])] [(2, rowV r2 x4.length)] H (noU_all rfl) (fun fr => by kernel_rfl) ?_
      intro fr H
      refine at_nil ?_
      show AW cfg 33 g (right (right (right (right (right (bodyC cfg.P 33)))))) fr h5 _
      refine aw_ret (by kernel_rfl) ?_
      have e1 := Option.some.inj hm
      subst e1
      refine ⟨.inl rfl, rowV r2 x4.length, resH H (fun fr => by kernel_rfl), ?_⟩
      exact ⟨r2, rfl, A⟩
    · exact hF.elim
end Go.Av.L
