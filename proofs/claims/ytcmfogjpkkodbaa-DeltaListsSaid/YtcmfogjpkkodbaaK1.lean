/-
  Models of functions, and that the abstract run tells them. Written by lift2.py.
-/
import Derived.Test.YtcmfogjpkkodbaaKCfg
import Derived.Test.YtcmfogjpkkodbaaK0
namespace Go.Av.L
open Go.Av Go.Lib
set_option maxRecDepth 10000
set_option linter.unusedVariables false
set_option linter.unusedSimpArgs false
/-! ### boulter/boulterref06.Same -/
noncomputable def M_boulterref06_Same_L0 (p0 : List S_api_Pair) (p1 : List S_api_Pair) (s : Int) : Option ((Int) ⊕ ((Unit) ⊕ (Bool))) :=
  match s with
  | x1 => iteB (decide (x1 < (p0.length : Int))) ((ixV p0 x1).bind fun x3 => (ixV p1 x1).bind fun x4 => (eqG cfg.P 88 [.str x3.Key, .str x3.Value] [.str x4.Key, .str x4.Value]).bind fun x5 => iteB (!x5) (some (.inr (.inr false))) (some (.inl (IntKind.i64.wrap (x1 + (1 : Int)))))) (some (.inr (.inl ())))
noncomputable def M_boulterref06_Same (p0 : List S_api_Pair) (p1 : List S_api_Pair) : Option (Bool) :=
 iteB ((p0.length : Int) != (p1.length : Int)) (some false) ((loop (M_boulterref06_Same_L0 p0 p1) (0 : Int)).bind fun o1 => (match o1 with | .inl _ => some true | .inr x2 => some x2))
theorem ok_boulterref06_Same {g : Gd} {h : AHeap} {F : List Ck} {p0 : List S_api_Pair} {p1 : List S_api_Pair} {q0 : Bool} {av : List AVal} (hm : M_boulterref06_Same p0 p1 = some q0) (hc : canL (cfg.still 65) av = [vs e_S_api_Pair p0, vs e_S_api_Pair p1]) (A : HH g h [] F) : ∃ v h', Runs cfg g h 65 av v h' ∧ v = .bool q0 ∧ HH g h' [] F := by
  refine runsQ1 (n := 26) (rs := [.tmp 4]) (by kernel_rfl) hc (by kernel_rfl) ?_
  clear hc
  unfold M_boulterref06_Same at hm
  refine start (n := 26) [(0, vs e_S_api_Pair p0), (1, vs e_S_api_Pair p1)] (by kernel_rfl) (by kernel_rfl) ?_
  intro fr H
  refine aw_seq (by kernel_rfl) ?_
  refine aw_reg (id := 0) (n := 1) [(0, [])] (by kernel_rfl) (by kernel_rfl) ?_
  refine at_seg [(0, [])] [(0, vs e_S_api_Pair p0), (1, vs e_S_api_Pair p1)] H (noU_all rfl) (fun fr => by kernel_rfl) ?_
  intro fr H
  refine at_nil ?_
  show AW cfg 65 g (right (bodyC cfg.P 65)) fr h _
  refine aw_seq (by kernel_rfl) ?_
  refine aw_seq (by kernel_rfl) ?_
  refine aw_reg (id := 1) (n := 5) [(0, []), (1, []), (2, []), (3, []), (4, [])] (by kernel_rfl) (by kernel_rfl) ?_
  refine at_seg [(0, []), (1, []), (2, []), (3, []), (4, [])] [(0, vs e_S_api_Pair p0), (1, vs e_S_api_Pair p1), (10, .bool ((p0.length : Int) != (p1.length : Int)))] H (noU_all rfl) (fun fr => by kernel_rfl) ?_
  intro fr H
  refine at_nil ?_
  show AW cfg 65 g (right (left (right (bodyC cfg.P 65)))) fr h _
  rcases iteB_some hm with ⟨hb, hm⟩ | ⟨hb, hm⟩
  · replace H := H.know 10 hb (by kernel_rfl)
    refine aw_true (x := .tmp 10) (by kernel_rfl) H (fun fr => by kernel_rfl) ?_
    refine aw_seq (by kernel_rfl) ?_
    refine aw_reg (id := 2) (n := 1) [(0, [])] (by kernel_rfl) (by kernel_rfl) ?_
    refine at_seg [(0, [])] [(4, .bool false)] H (noU_all rfl) (fun fr => by kernel_rfl) ?_
    intro fr H
    refine at_nil ?_
    show AW cfg 65 g (right (left (right (left (right (bodyC cfg.P 65)))))) fr h _
    refine aw_ret (by kernel_rfl) ?_
    have e1 := Option.some.inj hm
    subst e1
    refine ⟨.inl rfl, .bool false, resH H (fun fr => by kernel_rfl), ?_⟩
    exact ⟨rfl, A⟩
  · replace H := H.know 10 hb (by kernel_rfl)
    refine aw_false (x := .tmp 10) (by kernel_rfl) H (fun fr => by kernel_rfl) ?_
    refine aw_skip (by kernel_rfl) ?_
    show AW cfg 65 g (right (right (bodyC cfg.P 65))) fr h _
    refine aw_seq (by kernel_rfl) ?_
    refine aw_seq (by kernel_rfl) ?_
    refine aw_reg (id := 3) (n := 1) [(0, [])] (by kernel_rfl) (by kernel_rfl) ?_
    refine at_seg [(0, [])] [(0, vs e_S_api_Pair p0), (1, vs e_S_api_Pair p1), (5, .int .i64 (0 : Int))] H (noU_all rfl) (fun fr => by kernel_rfl) ?_
    intro fr H
    refine at_nil ?_
    show AW cfg 65 g (right (left (right (right (bodyC cfg.P 65))))) fr h _
    refine aw_block (id := 0) (by kernel_rfl) ?_
    obtain ⟨o1, ho, hm⟩ := bind_some hm
    refine aw_mono (Q' := fun e fr' h' => (e = .exit 0 ∧ .inl () = o1 ∧ Has fr' 26 [] ∧ HH g h' [] F) ∨ (∃ (x2 : Bool), e = .ret ∧ .inr x2 = o1 ∧ Has fr' 26 [(4, .bool x2)] ∧ HH g h' [] F) ∨ False) ?_ ?_
    · refine aw_loop (by kernel_rfl) (fun (s : Int) fr' h' => ∃ (x1 : Int), x1 = s ∧ Has fr' 26 [(0, vs e_S_api_Pair p0), (1, vs e_S_api_Pair p1), (5, .int .i64 x1)] ∧ HH g h' [] F) ho ⟨(0 : Int), rfl, H.less _ (fun fr => by kernel_rfl), A⟩ ?_
      clear ho hm H A
      intro s q fr h1 hI hm
      obtain ⟨x1, rfl, H, A⟩ := hI
      unfold M_boulterref06_Same_L0 at hm
      refine aw_seq (by kernel_rfl) ?_
      refine aw_seq (by kernel_rfl) ?_
      refine aw_reg (id := 4) (n := 4) [(0, []), (1, []), (2, []), (3, [])] (by kernel_rfl) (by kernel_rfl) ?_
      refine at_seg [(0, []), (1, []), (2, []), (3, [])] [(0, vs e_S_api_Pair p0), (1, vs e_S_api_Pair p1), (5, .int .i64 x1), (14, .bool (decide (x1 < (p0.length : Int))))] H (noU_all rfl) (fun fr => by kernel_rfl) ?_
      intro fr H
      refine at_nil ?_
      show AW cfg 65 g (right (left (left (left (right (left (right (right (bodyC cfg.P 65))))))))) fr h1 _
      rcases iteB_some hm with ⟨hb, hm⟩ | ⟨hb, hm⟩
      · replace H := H.know 14 hb (by kernel_rfl)
        refine aw_true (x := .tmp 14) (by kernel_rfl) H (fun fr => by kernel_rfl) ?_
        refine aw_skip (by kernel_rfl) ?_
        show AW cfg 65 g (right (left (left (right (left (right (right (bodyC cfg.P 65)))))))) fr h1 _
        refine aw_seq (by kernel_rfl) ?_
        refine aw_block (id := 1) (by kernel_rfl) ?_
        refine aw_seq (by kernel_rfl) ?_
        refine aw_draw (id := 6) (n := 9) (by kernel_rfl) [(0, []), (1, []), (2, []), (3, []), (4, []), (5, []), (6, []), (7, []), (8, [])] (by kernel_rfl) ?_
        refine at_seg [(0, []), (1, [])] [(0, vs e_S_api_Pair p0), (1, vs e_S_api_Pair p1), (5, .int .i64 x1), (17, vs e_S_api_Pair p0), (18, .int .i64 x1)] H (noU_all rfl) (fun fr => by kernel_rfl) ?_
        intro fr H
        obtain ⟨x3, hx, hm⟩ := bind_some hm
        refine at_step (v := .vptr [.str x3.Key, .str x3.Value]) (h1 := h1) [(0, vs e_S_api_Pair p0), (1, vs e_S_api_Pair p1), (5, .int .i64 x1), (19, .vptr [.str x3.Key, .str x3.Value])] H (fun fr => by kernel_rfl) (fun fr => .of (s_ixV (e := e_S_api_Pair) (x := x3) enc_S_api_Pair (by decide) (by kernel_rfl) hx)) ?_
        intro fr t H
        refine at_step (v := .agg [.str x3.Key, .str x3.Value]) (h1 := h1) [(0, vs e_S_api_Pair p0), (1, vs e_S_api_Pair p1), (5, .int .i64 x1), (20, .agg [.str x3.Key, .str x3.Value])] H (fun fr => by kernel_rfl) (fun fr => .of (s_lv (by kernel_rfl))) ?_
        intro fr t H
        refine at_seg [(4, []), (5, [])] [(0, vs e_S_api_Pair p0), (1, vs e_S_api_Pair p1), (5, .int .i64 x1), (20, .agg [.str x3.Key, .str x3.Value]), (21, vs e_S_api_Pair p1), (22, .int .i64 x1)] H (noU_all rfl) (fun fr => by kernel_rfl) ?_
        intro fr H
        obtain ⟨x4, hx, hm⟩ := bind_some hm
        refine at_step (v := .vptr [.str x4.Key, .str x4.Value]) (h1 := h1) [(0, vs e_S_api_Pair p0), (1, vs e_S_api_Pair p1), (5, .int .i64 x1), (20, .agg [.str x3.Key, .str x3.Value]), (23, .vptr [.str x4.Key, .str x4.Value])] H (fun fr => by kernel_rfl) (fun fr => .of (s_ixV (e := e_S_api_Pair) (x := x4) enc_S_api_Pair (by decide) (by kernel_rfl) hx)) ?_
        intro fr t H
        refine at_step (v := .agg [.str x4.Key, .str x4.Value]) (h1 := h1) [(0, vs e_S_api_Pair p0), (1, vs e_S_api_Pair p1), (5, .int .i64 x1), (20, .agg [.str x3.Key, .str x3.Value]), (24, .agg [.str x4.Key, .str x4.Value])] H (fun fr => by kernel_rfl) (fun fr => .of (s_lv (by kernel_rfl))) ?_
        intro fr t H
        obtain ⟨x5, hx, hm⟩ := bind_some hm
        refine at_step (v := .bool (!x5)) (h1 := h1) [(0, vs e_S_api_Pair p0), (1, vs e_S_api_Pair p1), (5, .int .i64 x1), (25, .bool (!x5))] H (fun fr => by kernel_rfl) (fun fr => .of (s_neG (by kernel_rfl) hx)) ?_
        intro fr t H
        refine at_nil ?_
        show AW cfg 65 g (right (left (left (right (left (left (right (left (right (right (bodyC cfg.P 65))))))))))) fr h1 _
        rcases iteB_some hm with ⟨hb, hm⟩ | ⟨hb, hm⟩
        · replace H := H.know 25 hb (by kernel_rfl)
          refine aw_true (x := .tmp 25) (by kernel_rfl) H (fun fr => by kernel_rfl) ?_
          refine aw_seq (by kernel_rfl) ?_
          refine aw_reg (id := 7) (n := 1) [(0, [])] (by kernel_rfl) (by kernel_rfl) ?_
          refine at_seg [(0, [])] [(4, .bool false)] H (noU_all rfl) (fun fr => by kernel_rfl) ?_
          intro fr H
          refine at_nil ?_
          show AW cfg 65 g (right (left (right (left (left (right (left (left (right (left (right (right (bodyC cfg.P 65))))))))))))) fr h1 _
          refine aw_ret (by kernel_rfl) ?_
          exact Exists.intro _ (And.intro (Option.some.inj hm).symm (fun e => Or.inr (Or.inl ⟨false, rfl, e, H.less _ (fun fr => by kernel_rfl), A⟩)))
        · replace H := H.know 25 hb (by kernel_rfl)
          refine aw_false (x := .tmp 25) (by kernel_rfl) H (fun fr => by kernel_rfl) ?_
          refine aw_skip (by kernel_rfl) ?_
          show AW cfg 65 g (right (right (left (left (right (left (right (right (bodyC cfg.P 65))))))))) fr h1 _
          refine aw_reg (id := 5) (n := 3) [(0, []), (1, []), (2, [])] (by kernel_rfl) (by kernel_rfl) ?_
          refine at_seg [(0, []), (1, []), (2, [])] [(0, vs e_S_api_Pair p0), (1, vs e_S_api_Pair p1), (5, .int .i64 (IntKind.i64.wrap (x1 + (1 : Int))))] H (noU_all rfl) (fun fr => by kernel_rfl) ?_
          intro fr H
          refine at_nil ?_
          exact Exists.intro (IntKind.i64.wrap (x1 + (1 : Int))) (And.intro (Option.some.inj hm).symm ⟨IntKind.i64.wrap (x1 + (1 : Int)), rfl, H.less _ (fun fr => by kernel_rfl), A⟩)
      · replace H := H.know 14 hb (by kernel_rfl)
        refine aw_false (x := .tmp 14) (by kernel_rfl) H (fun fr => by kernel_rfl) ?_
        refine aw_exit (i := 0) (by kernel_rfl) ?_
        exact Exists.intro _ (And.intro (Option.some.inj hm).symm (fun e => Or.inl ⟨rfl, e, H.less _ (fun fr => by kernel_rfl), A⟩))
    · clear ho
      clear A
      intro e fr h2 hQ
      rcases hQ with ⟨rfl, rfl, H, A⟩ | ⟨x2, rfl, rfl, H, A⟩ | hF
      · skip
        show AW cfg 65 g (right (right (right (bodyC cfg.P 65)))) fr h2 _
        refine aw_seq (by kernel_rfl) ?_
        refine aw_reg (id := 8) (n := 1) [(0, [])] (by kernel_rfl) (by kernel_rfl) ?_
        refine at_seg [(0, [])] [(4, .bool true)] H (noU_all rfl) (fun fr => by kernel_rfl) ?_
        intro fr H
        refine at_nil ?_
        show AW cfg 65 g (right (right (right (right (bodyC cfg.P 65))))) fr h2 _
        refine aw_ret (by kernel_rfl) ?_
        have e1 := Option.some.inj hm
        subst e1
        refine ⟨.inl rfl, .bool true, resH H (fun fr => by kernel_rfl), ?_⟩
        exact ⟨rfl, A⟩
      · skip
        have e1 := Option.some.inj hm
        subst e1
        refine ⟨.inl rfl, .bool x2, resH H (fun fr => by kernel_rfl), ?_⟩
        exact ⟨rfl, A⟩
      · exact hF.elim
/-! ### boulter/boulterref07.Same -/
noncomputable def M_boulterref07_Same (p0 : S_api_Member) (p1 : S_api_Member) : Option (Bool) :=
 (iteB ((((((((((p0.Name == p1.Name) && (p0.Link == p1.Link)) && (p0.Kind == p1.Kind)) && (p0.Mode == p1.Mode)) && (p0.Uid == p1.Uid)) && (p0.Gid == p1.Gid)) && (p0.Uname == p1.Uname)) && (p0.Gname == p1.Gname)) && (p0.Major == p1.Major)) && (p0.Minor == p1.Minor)) ((eqG cfg.P 60 [.int .i64 p0.Time.Sec, .int .i64 p0.Time.Nsec] [.int .i64 p1.Time.Sec, .int .i64 p1.Time.Nsec]).bind fun x2 => some x2) (some false) : Option (Bool)).bind fun x1 => (iteB x1 ((M_boulterref06_Same p0.Extra p1.Extra).bind fun x4 => some x4) (some false) : Option (Bool)).bind fun x3 => some (x3 && (p0.Data == p1.Data))
theorem ok_boulterref07_Same {g : Gd} {h : AHeap} {F : List Ck} {p0 : S_api_Member} {p1 : S_api_Member} {q0 : Bool} {av : List AVal} (hm : M_boulterref07_Same p0 p1 = some q0) (hc : canL (cfg.still 43) av = [.agg (e_S_api_Member p0), .agg (e_S_api_Member p1)]) (A : HH g h [] F) : ∃ v h', Runs cfg g h 43 av v h' ∧ v = .bool q0 ∧ HH g h' [] F := by
  refine runsQ1 (n := 94) (rs := [.tmp 4]) (by kernel_rfl) hc (by kernel_rfl) ?_
  clear hc
  unfold M_boulterref07_Same at hm
  refine start (n := 94) [(0, .agg (e_S_api_Member p0)), (1, .agg (e_S_api_Member p1))] (by kernel_rfl) (by kernel_rfl) ?_
  intro fr H
  refine aw_seq (by kernel_rfl) ?_
  refine aw_reg (id := 0) (n := 3) [(0, []), (1, []), (2, [])] (by kernel_rfl) (by kernel_rfl) ?_
  obtain ⟨h1, e1⟩ : ∃ x, x = h.push (.cells none 2 (e_S_api_Member p0)) := ⟨_, rfl⟩
  replace A := (A.push _).to e1
  refine at_step (v := .ptr (some (h.size, 0))) (h1 := h1) [(1, .agg (e_S_api_Member p1)), (2, .ptr (some (h.size, 0)))] H (fun fr => by kernel_rfl) (fun fr => .of (s_n' (by kernel_rfl) (congrArg some e1.symm))) ?_
  intro fr t H
  obtain ⟨h2, e2⟩ : ∃ x, x = h1.push (.cells none 2 (e_S_api_Member p1)) := ⟨_, rfl⟩
  replace A := (A.push _).to e2
  refine at_step (v := .ptr (some (h1.size, 0))) (h1 := h2) [(2, .ptr (some (h.size, 0))), (3, .ptr (some (h1.size, 0)))] H (fun fr => by kernel_rfl) (fun fr => .of (s_n' (by kernel_rfl) (congrArg some e2.symm))) ?_
  intro fr t H
  refine at_seg [(2, [])] [(2, .ptr (some (h.size, 0))), (3, .ptr (some (h1.size, 0)))] H (noU_all rfl) (fun fr => by kernel_rfl) ?_
  intro fr H
  refine at_nil ?_
  show AW cfg 43 g (right (bodyC cfg.P 43)) fr h2 _
  refine aw_seq (by kernel_rfl) ?_
  refine aw_reg (id := 1) (n := 90) [(0, []), (1, []), (2, []), (3, []), (4, []), (5, []), (6, []), (7, []), (8, []), (9, []), (10, []), (11, []), (12, []), (13, []), (14, []), (15, []), (16, []), (17, []), (18, []), (19, []), (20, []), (21, []), (22, []), (23, []), (24, []), (25, []), (26, []), (27, []), (28, []), (29, []), (30, []), (31, []), (32, []), (33, []), (34, []), (35, []), (36, []), (37, []), (38, []), (39, []), (40, []), (41, []), (42, []), (43, []), (44, []), (45, []), (46, []), (47, []), (48, []), (49, []), (50, []), (51, []), (52, []), (53, []), (54, []), (55, []), (56, []), (57, []), (58, []), (59, []), (60, []), (61, []), (62, []), (63, []), (64, []), (65, []), (66, []), (67, []), (68, []), (69, []), (70, []), (71, []), (72, []), (73, []), (74, []), (75, []), (76, []), (77, []), (78, []), (79, []), (80, []), (81, []), (82, []), (83, []), (84, []), (85, []), (86, []), (87, []), (88, []), (89, [])] (by kernel_rfl) (by kernel_rfl) ?_
  refine at_seg [(0, [])] [(2, .ptr (some (h.size, 0))), (3, .ptr (some (h1.size, 0))), (5, .ptr (some (h.size, 0)))] H (noU_all rfl) (fun fr => by kernel_rfl) ?_
  intro fr H
  refine at_step (v := .str p0.Name) (h1 := h2) [(2, .ptr (some (h.size, 0))), (3, .ptr (some (h1.size, 0))), (6, .str p0.Name)] H (fun fr => by kernel_rfl) (fun fr => .of (s_ld (by kernel_rfl) (A.ld1 1 rfl (o := 0) rfl))) ?_
  intro fr t H
  refine at_seg [(2, [])] [(2, .ptr (some (h.size, 0))), (3, .ptr (some (h1.size, 0))), (6, .str p0.Name), (7, .ptr (some (h1.size, 0)))] H (noU_all rfl) (fun fr => by kernel_rfl) ?_
  intro fr H
  refine at_step (v := .str p1.Name) (h1 := h2) [(2, .ptr (some (h.size, 0))), (3, .ptr (some (h1.size, 0))), (6, .str p0.Name), (8, .str p1.Name)] H (fun fr => by kernel_rfl) (fun fr => .of (s_ld (by kernel_rfl) (A.ld1 0 rfl (o := 0) rfl))) ?_
  intro fr t H
  refine at_seg [(4, []), (5, [])] [(2, .ptr (some (h.size, 0))), (3, .ptr (some (h1.size, 0))), (10, .bool (p0.Name == p1.Name))] H (noU_all rfl) (fun fr => by kernel_rfl) ?_
  intro fr H
  refine at_cut [(6, []), (7, []), (8, []), (9, []), (10, []), (11, [])] (fun fr' h' => h2 = h' ∧ Has fr' 94 [(2, .ptr (some (h.size, 0))), (3, .ptr (some (h1.size, 0))), (16, .bool ((p0.Name == p1.Name) && (p0.Link == p1.Link)))]) ?_ ?_
  · cases hb : (p0.Name == p1.Name : Bool) with
    | true =>
      replace H := H.know 10 hb (by kernel_rfl)
      refine at_seg [(6, [])] [(2, .ptr (some (h.size, 0))), (3, .ptr (some (h1.size, 0))), (10, .bool true), (11, .ptr (some (h.size, 1)))] H (noU_all rfl) (fun fr => by kernel_rfl) ?_
      intro fr H
      refine at_step (v := .str p0.Link) (h1 := h2) [(2, .ptr (some (h.size, 0))), (3, .ptr (some (h1.size, 0))), (10, .bool true), (12, .str p0.Link)] H (fun fr => by kernel_rfl) (fun fr => .of (s_ld (by kernel_rfl) (A.ld1 1 rfl (o := 1) rfl))) ?_
      intro fr t H
      refine at_seg [(8, [])] [(2, .ptr (some (h.size, 0))), (3, .ptr (some (h1.size, 0))), (10, .bool true), (12, .str p0.Link), (13, .ptr (some (h1.size, 1)))] H (noU_all rfl) (fun fr => by kernel_rfl) ?_
      intro fr H
      refine at_step (v := .str p1.Link) (h1 := h2) [(2, .ptr (some (h.size, 0))), (3, .ptr (some (h1.size, 0))), (10, .bool true), (12, .str p0.Link), (14, .str p1.Link)] H (fun fr => by kernel_rfl) (fun fr => .of (s_ld (by kernel_rfl) (A.ld1 0 rfl (o := 1) rfl))) ?_
      intro fr t H
      refine at_seg [(10, []), (11, [])] [(2, .ptr (some (h.size, 0))), (3, .ptr (some (h1.size, 0))), (16, .bool (p0.Link == p1.Link))] H (noU_all rfl) (fun fr => by kernel_rfl) ?_
      intro fr H
      exact at_nil ⟨rfl, by first | exact H.less _ (fun fr => by rfl) | exact H.less _ (fun fr => by rw [hb]; rfl)⟩
    | false =>
      replace H := H.know 10 hb (by kernel_rfl)
      refine at_seg [(6, []), (7, []), (8, []), (9, []), (10, []), (11, [])] [(2, .ptr (some (h.size, 0))), (3, .ptr (some (h1.size, 0))), (16, .bool false)] H (noU_all rfl) (fun fr => by kernel_rfl) ?_
      intro fr H
      exact at_nil ⟨rfl, by first | exact H.less _ (fun fr => by rfl) | exact H.less _ (fun fr => by rw [hb]; rfl)⟩
  · intro t fr h' hK
    obtain ⟨e, H⟩ := hK
    subst e
    refine at_seg [(12, [])] [(2, .ptr (some (h.size, 0))), (3, .ptr (some (h1.size, 0))), (17, .bool ((p0.Name == p1.Name) && (p0.Link == p1.Link)))] H (noU_all rfl) (fun fr => by kernel_rfl) ?_
    intro fr H
    refine at_cut [(13, []), (14, []), (15, []), (16, []), (17, []), (18, [])] (fun fr' h' => h2 = h' ∧ Has fr' 94 [(2, .ptr (some (h.size, 0))), (3, .ptr (some (h1.size, 0))), (23, .bool (((p0.Name == p1.Name) && (p0.Link == p1.Link)) && (p0.Kind == p1.Kind)))]) ?_ ?_
    · cases hb : ((p0.Name == p1.Name) && (p0.Link == p1.Link) : Bool) with
      | true =>
        replace H := H.know 17 hb (by kernel_rfl)
        refine at_seg [(13, [])] [(2, .ptr (some (h.size, 0))), (3, .ptr (some (h1.size, 0))), (17, .bool true), (18, .ptr (some (h.size, 2)))] H (noU_all rfl) (fun fr => by kernel_rfl) ?_
        intro fr H
        refine at_step (v := .int .u8 p0.Kind) (h1 := h2) [(2, .ptr (some (h.size, 0))), (3, .ptr (some (h1.size, 0))), (17, .bool true), (19, .int .u8 p0.Kind)] H (fun fr => by kernel_rfl) (fun fr => .of (s_ld (by kernel_rfl) (A.ld1 1 rfl (o := 2) rfl))) ?_
        intro fr t H
        refine at_seg [(15, [])] [(2, .ptr (some (h.size, 0))), (3, .ptr (some (h1.size, 0))), (17, .bool true), (19, .int .u8 p0.Kind), (20, .ptr (some (h1.size, 2)))] H (noU_all rfl) (fun fr => by kernel_rfl) ?_
        intro fr H
        refine at_step (v := .int .u8 p1.Kind) (h1 := h2) [(2, .ptr (some (h.size, 0))), (3, .ptr (some (h1.size, 0))), (17, .bool true), (19, .int .u8 p0.Kind), (21, .int .u8 p1.Kind)] H (fun fr => by kernel_rfl) (fun fr => .of (s_ld (by kernel_rfl) (A.ld1 0 rfl (o := 2) rfl))) ?_
        intro fr t H
        refine at_seg [(17, []), (18, [])] [(2, .ptr (some (h.size, 0))), (3, .ptr (some (h1.size, 0))), (23, .bool (p0.Kind == p1.Kind))] H (noU_all rfl) (fun fr => by kernel_rfl) ?_
        intro fr H
        exact at_nil ⟨rfl, by first | exact H.less _ (fun fr => by rfl) | exact H.less _ (fun fr => by rw [hb]; rfl)⟩
      | false =>
        replace H := H.know 17 hb (by kernel_rfl)
        refine at_seg [(13, []), (14, []), (15, []), (16, []), (17, []), (18, [])] [(2, .ptr (some (h.size, 0))), (3, .ptr (some (h1.size, 0))), (23, .bool false)] H (noU_all rfl) (fun fr => by kernel_rfl) ?_
        intro fr H
        exact at_nil ⟨rfl, by first | exact H.less _ (fun fr => by rfl) | exact H.less _ (fun fr => by rw [hb]; rfl)⟩
    · intro t fr h' hK
      obtain ⟨e, H⟩ := hK
      subst e
      refine at_seg [(19, [])] [(2, .ptr (some (h.size, 0))), (3, .ptr (some (h1.size, 0))), (24, .bool (((p0.Name == p1.Name) && (p0.Link == p1.Link)) && (p0.Kind == p1.Kind)))] H (noU_all rfl) (fun fr => by kernel_rfl) ?_
      intro fr H
      refine at_cut [(20, []), (21, []), (22, []), (23, []), (24, []), (25, [])] (fun fr' h' => h2 = h' ∧ Has fr' 94 [(2, .ptr (some (h.size, 0))), (3, .ptr (some (h1.size, 0))), (30, .bool ((((p0.Name == p1.Name) && (p0.Link == p1.Link)) && (p0.Kind == p1.Kind)) && (p0.Mode == p1.Mode)))]) ?_ ?_
      · cases hb : (((p0.Name == p1.Name) && (p0.Link == p1.Link)) && (p0.Kind == p1.Kind) : Bool) with
        | true =>
          replace H := H.know 24 hb (by kernel_rfl)
          refine at_seg [(20, [])] [(2, .ptr (some (h.size, 0))), (3, .ptr (some (h1.size, 0))), (24, .bool true), (25, .ptr (some (h.size, 3)))] H (noU_all rfl) (fun fr => by kernel_rfl) ?_
          intro fr H
          refine at_step (v := .int .i64 p0.Mode) (h1 := h2) [(2, .ptr (some (h.size, 0))), (3, .ptr (some (h1.size, 0))), (24, .bool true), (26, .int .i64 p0.Mode)] H (fun fr => by kernel_rfl) (fun fr => .of (s_ld (by kernel_rfl) (A.ld1 1 rfl (o := 3) rfl))) ?_
          intro fr t H
          refine at_seg [(22, [])] [(2, .ptr (some (h.size, 0))), (3, .ptr (some (h1.size, 0))), (24, .bool true), (26, .int .i64 p0.Mode), (27, .ptr (some (h1.size, 3)))] H (noU_all rfl) (fun fr => by kernel_rfl) ?_
          intro fr H
          refine at_step (v := .int .i64 p1.Mode) (h1 := h2) [(2, .ptr (some (h.size, 0))), (3, .ptr (some (h1.size, 0))), (24, .bool true), (26, .int .i64 p0.Mode), (28, .int .i64 p1.Mode)] H (fun fr => by kernel_rfl) (fun fr => .of (s_ld (by kernel_rfl) (A.ld1 0 rfl (o := 3) rfl))) ?_
          intro fr t H
          refine at_seg [(24, []), (25, [])] [(2, .ptr (some (h.size, 0))), (3, .ptr (some (h1.size, 0))), (30, .bool (p0.Mode == p1.Mode))] H (noU_all rfl) (fun fr => by kernel_rfl) ?_
          intro fr H
          exact at_nil ⟨rfl, by first | exact H.less _ (fun fr => by rfl) | exact H.less _ (fun fr => by rw [hb]; rfl)⟩
        | false =>
          replace H := H.know 24 hb (by kernel_rfl)
          refine at_seg [(20, []), (21, []), (22, []), (23, []), (24, []), (25, [])] [(2, .ptr (some (h.size, 0))), (3, .ptr (some (h1.size, 0))), (30, .bool false)] H (noU_all rfl) (fun fr => by kernel_rfl) ?_
          intro fr H
          exact at_nil ⟨rfl, by first | exact H.less _ (fun fr => by rfl) | exact H.less _ (fun fr => by rw [hb]; rfl)⟩
      · intro t fr h' hK
        obtain ⟨e, H⟩ := hK
        subst e
        refine at_seg [(26, [])] [(2, .ptr (some (h.size, 0))), (3, .ptr (some (h1.size, 0))), (31, .bool ((((p0.Name == p1.Name) && (p0.Link == p1.Link)) && (p0.Kind == p1.Kind)) && (p0.Mode == p1.Mode)))] H (noU_all rfl) (fun fr => by kernel_rfl) ?_
        intro fr H
        refine at_cut [(27, []), (28, []), (29, []), (30, []), (31, []), (32, [])] (fun fr' h' => h2 = h' ∧ Has fr' 94 [(2, .ptr (some (h.size, 0))), (3, .ptr (some (h1.size, 0))), (37, .bool (((((p0.Name == p1.Name) && (p0.Link == p1.Link)) && (p0.Kind == p1.Kind)) && (p0.Mode == p1.Mode)) && (p0.Uid == p1.Uid)))]) ?_ ?_
        · cases hb : ((((p0.Name == p1.Name) && (p0.Link == p1.Link)) && (p0.Kind == p1.Kind)) && (p0.Mode == p1.Mode) : Bool) with
          | true =>
            replace H := H.know 31 hb (by kernel_rfl)
            refine at_seg [(27, [])] [(2, .ptr (some (h.size, 0))), (3, .ptr (some (h1.size, 0))), (31, .bool true), (32, .ptr (some (h.size, 4)))] H (noU_all rfl) (fun fr => by kernel_rfl) ?_
            intro fr H
            refine at_step (v := .int .i64 p0.Uid) (h1 := h2) [(2, .ptr (some (h.size, 0))), (3, .ptr (some (h1.size, 0))), (31, .bool true), (33, .int .i64 p0.Uid)] H (fun fr => by kernel_rfl) (fun fr => .of (s_ld (by kernel_rfl) (A.ld1 1 rfl (o := 4) rfl))) ?_
            intro fr t H
            refine at_seg [(29, [])] [(2, .ptr (some (h.size, 0))), (3, .ptr (some (h1.size, 0))), (31, .bool true), (33, .int .i64 p0.Uid), (34, .ptr (some (h1.size, 4)))] H (noU_all rfl) (fun fr => by kernel_rfl) ?_
            intro fr H
            refine at_step (v := .int .i64 p1.Uid) (h1 := h2) [(2, .ptr (some (h.size, 0))), (3, .ptr (some (h1.size, 0))), (31, .bool true), (33, .int .i64 p0.Uid), (35, .int .i64 p1.Uid)] H (fun fr => by kernel_rfl) (fun fr => .of (s_ld (by kernel_rfl) (A.ld1 0 rfl (o := 4) rfl))) ?_
            intro fr t H
            refine at_seg [(31, []), (32, [])] [(2, .ptr (some (h.size, 0))), (3, .ptr (some (h1.size, 0))), (37, .bool (p0.Uid == p1.Uid))] H (noU_all rfl) (fun fr => by kernel_rfl) ?_
            intro fr H
            exact at_nil ⟨rfl, by first | exact H.less _ (fun fr => by rfl) | exact H.less _ (fun fr => by rw [hb]; rfl)⟩
          | false =>
            replace H := H.know 31 hb (by kernel_rfl)
            refine at_seg [(27, []), (28, []), (29, []), (30, []), (31, []), (32, [])] [(2, .ptr (some (h.size, 0))), (3, .ptr (some (h1.size, 0))), (37, .bool false)] H (noU_all rfl) (fun fr => by kernel_rfl) ?_
            intro fr H
            exact at_nil ⟨rfl, by first | exact H.less _ (fun fr => by rfl) | exact H.less _ (fun fr => by rw [hb]; rfl)⟩
        · intro t fr h' hK
          obtain ⟨e, H⟩ := hK
          subst e
          refine at_seg [(33, [])] [(2, .ptr (some (h.size, 0))), (3, .ptr (some (h1.size, 0))), (38, .bool (((((p0.Name == p1.Name) && (p0.Link == p1.Link)) && (p0.Kind == p1.Kind)) && (p0.Mode == p1.Mode)) && (p0.Uid == p1.Uid)))] H (noU_all rfl) (fun fr => by kernel_rfl) ?_
          intro fr H
          refine at_cut [(34, []), (35, []), (36, []), (37, []), (38, []), (39, [])] (fun fr' h' => h2 = h' ∧ Has fr' 94 [(2, .ptr (some (h.size, 0))), (3, .ptr (some (h1.size, 0))), (44, .bool ((((((p0.Name == p1.Name) && (p0.Link == p1.Link)) && (p0.Kind == p1.Kind)) && (p0.Mode == p1.Mode)) && (p0.Uid == p1.Uid)) && (p0.Gid == p1.Gid)))]) ?_ ?_
          · cases hb : (((((p0.Name == p1.Name) && (p0.Link == p1.Link)) && (p0.Kind == p1.Kind)) && (p0.Mode == p1.Mode)) && (p0.Uid == p1.Uid) : Bool) with
            | true =>
              replace H := H.know 38 hb (by kernel_rfl)
              refine at_seg [(34, [])] [(2, .ptr (some (h.size, 0))), (3, .ptr (some (h1.size, 0))), (38, .bool true), (39, .ptr (some (h.size, 5)))] H (noU_all rfl) (fun fr => by kernel_rfl) ?_
              intro fr H
              refine at_step (v := .int .i64 p0.Gid) (h1 := h2) [(2, .ptr (some (h.size, 0))), (3, .ptr (some (h1.size, 0))), (38, .bool true), (40, .int .i64 p0.Gid)] H (fun fr => by kernel_rfl) (fun fr => .of (s_ld (by kernel_rfl) (A.ld1 1 rfl (o := 5) rfl))) ?_
              intro fr t H
              refine at_seg [(36, [])] [(2, .ptr (some (h.size, 0))), (3, .ptr (some (h1.size, 0))), (38, .bool true), (40, .int .i64 p0.Gid), (41, .ptr (some (h1.size, 5)))] H (noU_all rfl) (fun fr => by kernel_rfl) ?_
              intro fr H
              refine at_step (v := .int .i64 p1.Gid) (h1 := h2) [(2, .ptr (some (h.size, 0))), (3, .ptr (some (h1.size, 0))), (38, .bool true), (40, .int .i64 p0.Gid), (42, .int .i64 p1.Gid)] H (fun fr => by kernel_rfl) (fun fr => .of (s_ld (by kernel_rfl) (A.ld1 0 rfl (o := 5) rfl))) ?_
              intro fr t H
              refine at_seg [(38, []), (39, [])] [(2, .ptr (some (h.size, 0))), (3, .ptr (some (h1.size, 0))), (44, .bool (p0.Gid == p1.Gid))] H (noU_all rfl) (fun fr => by kernel_rfl) ?_
              intro fr H
              exact at_nil ⟨rfl, by first | exact H.less _ (fun fr => by rfl) | exact H.less _ (fun fr => by rw [hb]; rfl)⟩
            | false =>
              replace H := H.know 38 hb (by kernel_rfl)
              refine at_seg [(34, []), (35, []), (36, []), (37, []), (38, []), (39, [])] [(2, .ptr (some (h.size, 0))), (3, .ptr (some (h1.size, 0))), (44, .bool false)] H (noU_all rfl) (fun fr => by kernel_rfl) ?_
              intro fr H
              exact at_nil ⟨rfl, by first | exact H.less _ (fun fr => by rfl) | exact H.less _ (fun fr => by rw [hb]; rfl)⟩
          · intro t fr h' hK
            obtain ⟨e, H⟩ := hK
            subst e
            refine at_seg [(40, [])] [(2, .ptr (some (h.size, 0))), (3, .ptr (some (h1.size, 0))), (45, .bool ((((((p0.Name == p1.Name) && (p0.Link == p1.Link)) && (p0.Kind == p1.Kind)) && (p0.Mode == p1.Mode)) && (p0.Uid == p1.Uid)) && (p0.Gid == p1.Gid)))] H (noU_all rfl) (fun fr => by kernel_rfl) ?_
            intro fr H
            refine at_cut [(41, []), (42, []), (43, []), (44, []), (45, []), (46, [])] (fun fr' h' => h2 = h' ∧ Has fr' 94 [(2, .ptr (some (h.size, 0))), (3, .ptr (some (h1.size, 0))), (51, .bool (((((((p0.Name == p1.Name) && (p0.Link == p1.Link)) && (p0.Kind == p1.Kind)) && (p0.Mode == p1.Mode)) && (p0.Uid == p1.Uid)) && (p0.Gid == p1.Gid)) && (p0.Uname == p1.Uname)))]) ?_ ?_
            · cases hb : ((((((p0.Name == p1.Name) && (p0.Link == p1.Link)) && (p0.Kind == p1.Kind)) && (p0.Mode == p1.Mode)) && (p0.Uid == p1.Uid)) && (p0.Gid == p1.Gid) : Bool) with
              | true =>
                replace H := H.know 45 hb (by kernel_rfl)
                refine at_seg [(41, [])] [(2, .ptr (some (h.size, 0))), (3, .ptr (some (h1.size, 0))), (45, .bool true), (46, .ptr (some (h.size, 6)))] H (noU_all rfl) (fun fr => by kernel_rfl) ?_
                intro fr H
                refine at_step (v := .str p0.Uname) (h1 := h2) [(2, .ptr (some (h.size, 0))), (3, .ptr (some (h1.size, 0))), (45, .bool true), (47, .str p0.Uname)] H (fun fr => by kernel_rfl) (fun fr => .of (s_ld (by kernel_rfl) (A.ld1 1 rfl (o := 6) rfl))) ?_
                intro fr t H
                refine at_seg [(43, [])] [(2, .ptr (some (h.size, 0))), (3, .ptr (some (h1.size, 0))), (45, .bool true), (47, .str p0.Uname), (48, .ptr (some (h1.size, 6)))] H (noU_all rfl) (fun fr => by kernel_rfl) ?_
                intro fr H
                refine at_step (v := .str p1.Uname) (h1 := h2) [(2, .ptr (some (h.size, 0))), (3, .ptr (some (h1.size, 0))), (45, .bool true), (47, .str p0.Uname), (49, .str p1.Uname)] H (fun fr => by kernel_rfl) (fun fr => .of (s_ld (by kernel_rfl) (A.ld1 0 rfl (o := 6) rfl))) ?_
                intro fr t H
                refine at_seg [(45, []), (46, [])] [(2, .ptr (some (h.size, 0))), (3, .ptr (some (h1.size, 0))), (51, .bool (p0.Uname == p1.Uname))] H (noU_all rfl) (fun fr => by kernel_rfl) ?_
                intro fr H
                exact at_nil ⟨rfl, by first | exact H.less _ (fun fr => by rfl) | exact H.less _ (fun fr => by rw [hb]; rfl)⟩
              | false =>
                replace H := H.know 45 hb (by kernel_rfl)
                refine at_seg [(41, []), (42, []), (43, []), (44, []), (45, []), (46, [])] [(2, .ptr (some (h.size, 0))), (3, .ptr (some (h1.size, 0))), (51, .bool false)] H (noU_all rfl) (fun fr => by kernel_rfl) ?_
                intro fr H
                exact at_nil ⟨rfl, by first | exact H.less _ (fun fr => by rfl) | exact H.less _ (fun fr => by rw [hb]; rfl)⟩
            · intro t fr h' hK
              obtain ⟨e, H⟩ := hK
              subst e
              refine at_seg [(47, [])] [(2, .ptr (some (h.size, 0))), (3, .ptr (some (h1.size, 0))), (52, .bool (((((((p0.Name == p1.Name) && (p0.Link == p1.Link)) && (p0.Kind == p1.Kind)) && (p0.Mode == p1.Mode)) && (p0.Uid == p1.Uid)) && (p0.Gid == p1.Gid)) && (p0.Uname == p1.Uname)))] H (noU_all rfl) (fun fr => by kernel_rfl) ?_
              intro fr H
              refine at_cut [(48, []), (49, []), (50, []), (51, []), (52, []), (53, [])] (fun fr' h' => h2 = h' ∧ Has fr' 94 [(2, .ptr (some (h.size, 0))), (3, .ptr (some (h1.size, 0))), (58, .bool ((((((((p0.Name == p1.Name) && (p0.Link == p1.Link)) && (p0.Kind == p1.Kind)) && (p0.Mode == p1.Mode)) && (p0.Uid == p1.Uid)) && (p0.Gid == p1.Gid)) && (p0.Uname == p1.Uname)) && (p0.Gname == p1.Gname)))]) ?_ ?_
              · cases hb : (((((((p0.Name == p1.Name) && (p0.Link == p1.Link)) && (p0.Kind == p1.Kind)) && (p0.Mode == p1.Mode)) && (p0.Uid == p1.Uid)) && (p0.Gid == p1.Gid)) && (p0.Uname == p1.Uname) : Bool) with
                | true =>
                  replace H := H.know 52 hb (by kernel_rfl)
                  refine at_seg [(48, [])] [(2, .ptr (some (h.size, 0))), (3, .ptr (some (h1.size, 0))), (52, .bool true), (53, .ptr (some (h.size, 7)))] H (noU_all rfl) (fun fr => by kernel_rfl) ?_
                  intro fr H
                  refine at_step (v := .str p0.Gname) (h1 := h2) [(2, .ptr (some (h.size, 0))), (3, .ptr (some (h1.size, 0))), (52, .bool true), (54, .str p0.Gname)] H (fun fr => by kernel_rfl) (fun fr => .of (s_ld (by kernel_rfl) (A.ld1 1 rfl (o := 7) rfl))) ?_
                  intro fr t H
                  refine at_seg [(50, [])] [(2, .ptr (some (h.size, 0))), (3, .ptr (some (h1.size, 0))), (52, .bool true), (54, .str p0.Gname), (55, .ptr (some (h1.size, 7)))] H (noU_all rfl) (fun fr => by kernel_rfl) ?_
                  intro fr H
                  refine at_step (v := .str p1.Gname) (h1 := h2) [(2, .ptr (some (h.size, 0))), (3, .ptr (some (h1.size, 0))), (52, .bool true), (54, .str p0.Gname), (56, .str p1.Gname)] H (fun fr => by kernel_rfl) (fun fr => .of (s_ld (by kernel_rfl) (A.ld1 0 rfl (o := 7) rfl))) ?_
                  intro fr t H
                  refine at_seg [(52, []), (53, [])] [(2, .ptr (some (h.size, 0))), (3, .ptr (some (h1.size, 0))), (58, .bool (p0.Gname == p1.Gname))] H (noU_all rfl) (fun fr => by kernel_rfl) ?_
                  intro fr H
                  exact at_nil ⟨rfl, by first | exact H.less _ (fun fr => by rfl) | exact H.less _ (fun fr => by rw [hb]; rfl)⟩
                | false =>
                  replace H := H.know 52 hb (by kernel_rfl)
                  refine at_seg [(48, []), (49, []), (50, []), (51, []), (52, []), (53, [])] [(2, .ptr (some (h.size, 0))), (3, .ptr (some (h1.size, 0))), (58, .bool false)] H (noU_all rfl) (fun fr => by kernel_rfl) ?_
                  intro fr H
                  exact at_nil ⟨rfl, by first | exact H.less _ (fun fr => by rfl) | exact H.less _ (fun fr => by rw [hb]; rfl)⟩
              · intro t fr h' hK
                obtain ⟨e, H⟩ := hK
                subst e
                refine at_seg [(54, [])] [(2, .ptr (some (h.size, 0))), (3, .ptr (some (h1.size, 0))), (59, .bool ((((((((p0.Name == p1.Name) && (p0.Link == p1.Link)) && (p0.Kind == p1.Kind)) && (p0.Mode == p1.Mode)) && (p0.Uid == p1.Uid)) && (p0.Gid == p1.Gid)) && (p0.Uname == p1.Uname)) && (p0.Gname == p1.Gname)))] H (noU_all rfl) (fun fr => by kernel_rfl) ?_
                intro fr H
                refine at_cut [(55, []), (56, []), (57, []), (58, []), (59, []), (60, [])] (fun fr' h' => h2 = h' ∧ Has fr' 94 [(2, .ptr (some (h.size, 0))), (3, .ptr (some (h1.size, 0))), (65, .bool (((((((((p0.Name == p1.Name) && (p0.Link == p1.Link)) && (p0.Kind == p1.Kind)) && (p0.Mode == p1.Mode)) && (p0.Uid == p1.Uid)) && (p0.Gid == p1.Gid)) && (p0.Uname == p1.Uname)) && (p0.Gname == p1.Gname)) && (p0.Major == p1.Major)))]) ?_ ?_
                · cases hb : ((((((((p0.Name == p1.Name) && (p0.Link == p1.Link)) && (p0.Kind == p1.Kind)) && (p0.Mode == p1.Mode)) && (p0.Uid == p1.Uid)) && (p0.Gid == p1.Gid)) && (p0.Uname == p1.Uname)) && (p0.Gname == p1.Gname) : Bool) with
                  | true =>
                    replace H := H.know 59 hb (by kernel_rfl)
                    refine at_seg [(55, [])] [(2, .ptr (some (h.size, 0))), (3, .ptr (some (h1.size, 0))), (59, .bool true), (60, .ptr (some (h.size, 8)))] H (noU_all rfl) (fun fr => by kernel_rfl) ?_
                    intro fr H
                    refine at_step (v := .int .i64 p0.Major) (h1 := h2) [(2, .ptr (some (h.size, 0))), (3, .ptr (some (h1.size, 0))), (59, .bool true), (61, .int .i64 p0.Major)] H (fun fr => by kernel_rfl) (fun fr => .of (s_ld (by kernel_rfl) (A.ld1 1 rfl (o := 8) rfl))) ?_
                    intro fr t H
                    refine at_seg [(57, [])] [(2, .ptr (some (h.size, 0))), (3, .ptr (some (h1.size, 0))), (59, .bool true), (61, .int .i64 p0.Major), (62, .ptr (some (h1.size, 8)))] H (noU_all rfl) (fun fr => by kernel_rfl) ?_
                    intro fr H
                    refine at_step (v := .int .i64 p1.Major) (h1 := h2) [(2, .ptr (some (h.size, 0))), (3, .ptr (some (h1.size, 0))), (59, .bool true), (61, .int .i64 p0.Major), (63, .int .i64 p1.Major)] H (fun fr => by kernel_rfl) (fun fr => .of (s_ld (by kernel_rfl) (A.ld1 0 rfl (o := 8) rfl))) ?_
                    intro fr t H
                    refine at_seg [(59, []), (60, [])] [(2, .ptr (some (h.size, 0))), (3, .ptr (some (h1.size, 0))), (65, .bool (p0.Major == p1.Major))] H (noU_all rfl) (fun fr => by kernel_rfl) ?_
                    intro fr H
                    exact at_nil ⟨rfl, by first | exact H.less _ (fun fr => by rfl) | exact H.less _ (fun fr => by rw [hb]; rfl)⟩
                  | false =>
                    replace H := H.know 59 hb (by kernel_rfl)
                    refine at_seg [(55, []), (56, []), (57, []), (58, []), (59, []), (60, [])] [(2, .ptr (some (h.size, 0))), (3, .ptr (some (h1.size, 0))), (65, .bool false)] H (noU_all rfl) (fun fr => by kernel_rfl) ?_
                    intro fr H
                    exact at_nil ⟨rfl, by first | exact H.less _ (fun fr => by rfl) | exact H.less _ (fun fr => by rw [hb]; rfl)⟩
                · intro t fr h' hK
                  obtain ⟨e, H⟩ := hK
                  subst e
                  refine at_seg [(61, [])] [(2, .ptr (some (h.size, 0))), (3, .ptr (some (h1.size, 0))), (66, .bool (((((((((p0.Name == p1.Name) && (p0.Link == p1.Link)) && (p0.Kind == p1.Kind)) && (p0.Mode == p1.Mode)) && (p0.Uid == p1.Uid)) && (p0.Gid == p1.Gid)) && (p0.Uname == p1.Uname)) && (p0.Gname == p1.Gname)) && (p0.Major == p1.Major)))] H (noU_all rfl) (fun fr => by kernel_rfl) ?_
                  intro fr H
                  refine at_cut [(62, []), (63, []), (64, []), (65, []), (66, []), (67, [])] (fun fr' h' => h2 = h' ∧ Has fr' 94 [(2, .ptr (some (h.size, 0))), (3, .ptr (some (h1.size, 0))), (72, .bool ((((((((((p0.Name == p1.Name) && (p0.Link == p1.Link)) && (p0.Kind == p1.Kind)) && (p0.Mode == p1.Mode)) && (p0.Uid == p1.Uid)) && (p0.Gid == p1.Gid)) && (p0.Uname == p1.Uname)) && (p0.Gname == p1.Gname)) && (p0.Major == p1.Major)) && (p0.Minor == p1.Minor)))]) ?_ ?_
                  · cases hb : (((((((((p0.Name == p1.Name) && (p0.Link == p1.Link)) && (p0.Kind == p1.Kind)) && (p0.Mode == p1.Mode)) && (p0.Uid == p1.Uid)) && (p0.Gid == p1.Gid)) && (p0.Uname == p1.Uname)) && (p0.Gname == p1.Gname)) && (p0.Major == p1.Major) : Bool) with
                    | true =>
                      replace H := H.know 66 hb (by kernel_rfl)
                      refine at_seg [(62, [])] [(2, .ptr (some (h.size, 0))), (3, .ptr (some (h1.size, 0))), (66, .bool true), (67, .ptr (some (h.size, 9)))] H (noU_all rfl) (fun fr => by kernel_rfl) ?_
                      intro fr H
                      refine at_step (v := .int .i64 p0.Minor) (h1 := h2) [(2, .ptr (some (h.size, 0))), (3, .ptr (some (h1.size, 0))), (66, .bool true), (68, .int .i64 p0.Minor)] H (fun fr => by kernel_rfl) (fun fr => .of (s_ld (by kernel_rfl) (A.ld1 1 rfl (o := 9) rfl))) ?_
                      intro fr t H
                      refine at_seg [(64, [])] [(2, .ptr (some (h.size, 0))), (3, .ptr (some (h1.size, 0))), (66, .bool true), (68, .int .i64 p0.Minor), (69, .ptr (some (h1.size, 9)))] H (noU_all rfl) (fun fr => by kernel_rfl) ?_
                      intro fr H
                      refine at_step (v := .int .i64 p1.Minor) (h1 := h2) [(2, .ptr (some (h.size, 0))), (3, .ptr (some (h1.size, 0))), (66, .bool true), (68, .int .i64 p0.Minor), (70, .int .i64 p1.Minor)] H (fun fr => by kernel_rfl) (fun fr => .of (s_ld (by kernel_rfl) (A.ld1 0 rfl (o := 9) rfl))) ?_
                      intro fr t H
                      refine at_seg [(66, []), (67, [])] [(2, .ptr (some (h.size, 0))), (3, .ptr (some (h1.size, 0))), (72, .bool (p0.Minor == p1.Minor))] H (noU_all rfl) (fun fr => by kernel_rfl) ?_
                      intro fr H
                      exact at_nil ⟨rfl, by first | exact H.less _ (fun fr => by rfl) | exact H.less _ (fun fr => by rw [hb]; rfl)⟩
                    | false =>
                      replace H := H.know 66 hb (by kernel_rfl)
                      refine at_seg [(62, []), (63, []), (64, []), (65, []), (66, []), (67, [])] [(2, .ptr (some (h.size, 0))), (3, .ptr (some (h1.size, 0))), (72, .bool false)] H (noU_all rfl) (fun fr => by kernel_rfl) ?_
                      intro fr H
                      exact at_nil ⟨rfl, by first | exact H.less _ (fun fr => by rfl) | exact H.less _ (fun fr => by rw [hb]; rfl)⟩
                  · intro t fr h' hK
                    obtain ⟨e, H⟩ := hK
                    subst e
                    refine at_seg [(68, [])] [(2, .ptr (some (h.size, 0))), (3, .ptr (some (h1.size, 0))), (73, .bool ((((((((((p0.Name == p1.Name) && (p0.Link == p1.Link)) && (p0.Kind == p1.Kind)) && (p0.Mode == p1.Mode)) && (p0.Uid == p1.Uid)) && (p0.Gid == p1.Gid)) && (p0.Uname == p1.Uname)) && (p0.Gname == p1.Gname)) && (p0.Major == p1.Major)) && (p0.Minor == p1.Minor)))] H (noU_all rfl) (fun fr => by kernel_rfl) ?_
                    intro fr H
                    obtain ⟨x1, ho, hm⟩ := bind_some hm
                    refine at_cut [(69, []), (70, []), (71, []), (72, []), (73, []), (74, [])] (fun fr' h' => Has fr' 94 [(2, .ptr (some (h.size, 0))), (3, .ptr (some (h1.size, 0))), (79, .bool x1)] ∧ HH g h' [.obj h1.size (.cells none 2 (e_S_api_Member p1)), .obj h.size (.cells none 2 (e_S_api_Member p0))] F) ?_ ?_
                    · rcases iteB_some ho with ⟨hb, hm⟩ | ⟨hb, hm⟩
                      · replace H := H.know 73 hb (by kernel_rfl)
                        refine at_seg [(69, [])] [(2, .ptr (some (h.size, 0))), (3, .ptr (some (h1.size, 0))), (73, .bool true), (74, .ptr (some (h.size, 10)))] H (noU_all rfl) (fun fr => by kernel_rfl) ?_
                        intro fr H
                        refine at_step (v := .agg [.int .i64 p0.Time.Sec, .int .i64 p0.Time.Nsec]) (h1 := h2) [(2, .ptr (some (h.size, 0))), (3, .ptr (some (h1.size, 0))), (73, .bool true), (75, .agg [.int .i64 p0.Time.Sec, .int .i64 p0.Time.Nsec])] H (fun fr => by kernel_rfl) (fun fr => .of (s_ldA (by kernel_rfl) (A.ldA 1 rfl (o := 10) (n := 2) ⟨Nat.le_of_ble_eq_true rfl, rfl⟩))) ?_
                        intro fr t H
                        refine at_seg [(71, [])] [(2, .ptr (some (h.size, 0))), (3, .ptr (some (h1.size, 0))), (73, .bool true), (75, .agg [.int .i64 p0.Time.Sec, .int .i64 p0.Time.Nsec]), (76, .ptr (some (h1.size, 10)))] H (noU_all rfl) (fun fr => by kernel_rfl) ?_
                        intro fr H
                        refine at_step (v := .agg [.int .i64 p1.Time.Sec, .int .i64 p1.Time.Nsec]) (h1 := h2) [(2, .ptr (some (h.size, 0))), (3, .ptr (some (h1.size, 0))), (73, .bool true), (75, .agg [.int .i64 p0.Time.Sec, .int .i64 p0.Time.Nsec]), (77, .agg [.int .i64 p1.Time.Sec, .int .i64 p1.Time.Nsec])] H (fun fr => by kernel_rfl) (fun fr => .of (s_ldA (by kernel_rfl) (A.ldA 0 rfl (o := 10) (n := 2) ⟨Nat.le_of_ble_eq_true rfl, rfl⟩))) ?_
                        intro fr t H
                        obtain ⟨x2, hx, hm⟩ := bind_some hm
                        refine at_step (v := .bool x2) (h1 := h2) [(2, .ptr (some (h.size, 0))), (3, .ptr (some (h1.size, 0))), (73, .bool true), (78, .bool x2)] H (fun fr => by kernel_rfl) (fun fr => .of (s_eqG (by kernel_rfl) hx)) ?_
                        intro fr t H
                        refine at_seg [(74, [])] [(2, .ptr (some (h.size, 0))), (3, .ptr (some (h1.size, 0))), (79, .bool x2)] H (noU_all rfl) (fun fr => by kernel_rfl) ?_
                        intro fr H
                        have e1 := Option.some.inj hm
                        subst e1
                        exact at_nil ⟨H.less _ (fun fr => by kernel_rfl), A⟩
                      · replace H := H.know 73 hb (by kernel_rfl)
                        refine at_seg [(69, []), (70, []), (71, []), (72, []), (73, []), (74, [])] [(2, .ptr (some (h.size, 0))), (3, .ptr (some (h1.size, 0))), (79, .bool false)] H (noU_all rfl) (fun fr => by kernel_rfl) ?_
                        intro fr H
                        have e1 := Option.some.inj hm
                        subst e1
                        exact at_nil ⟨H.less _ (fun fr => by kernel_rfl), A⟩
                    · clear A
                      intro t fr h3 hK
                      obtain ⟨H, A⟩ := hK
                      refine at_seg [(75, [])] [(2, .ptr (some (h.size, 0))), (3, .ptr (some (h1.size, 0))), (80, .bool x1)] H (noU_all rfl) (fun fr => by kernel_rfl) ?_
                      intro fr H
                      obtain ⟨x3, ho, hm⟩ := bind_some hm
                      refine at_cut [(76, []), (77, []), (78, []), (79, []), (80, []), (81, [])] (fun fr' h' => Has fr' 94 [(2, .ptr (some (h.size, 0))), (3, .ptr (some (h1.size, 0))), (86, .bool x3)] ∧ HH g h' [.obj h1.size (.cells none 2 (e_S_api_Member p1)), .obj h.size (.cells none 2 (e_S_api_Member p0))] F) ?_ ?_
                      · rcases iteB_some ho with ⟨hb, hm⟩ | ⟨hb, hm⟩
                        · replace H := H.know 80 hb (by kernel_rfl)
                          refine at_seg [(76, [])] [(2, .ptr (some (h.size, 0))), (3, .ptr (some (h1.size, 0))), (80, .bool true), (81, .ptr (some (h.size, 12)))] H (noU_all rfl) (fun fr => by kernel_rfl) ?_
                          intro fr H
                          refine at_step (v := vs e_S_api_Pair p0.Extra) (h1 := h3) [(2, .ptr (some (h.size, 0))), (3, .ptr (some (h1.size, 0))), (80, .bool true), (82, vs e_S_api_Pair p0.Extra)] H (fun fr => by kernel_rfl) (fun fr => .of (s_ld (by kernel_rfl) (A.ld1 1 rfl (o := 12) rfl))) ?_
                          intro fr t H
                          refine at_seg [(78, [])] [(2, .ptr (some (h.size, 0))), (3, .ptr (some (h1.size, 0))), (80, .bool true), (82, vs e_S_api_Pair p0.Extra), (83, .ptr (some (h1.size, 12)))] H (noU_all rfl) (fun fr => by kernel_rfl) ?_
                          intro fr H
                          refine at_step (v := vs e_S_api_Pair p1.Extra) (h1 := h3) [(2, .ptr (some (h.size, 0))), (3, .ptr (some (h1.size, 0))), (80, .bool true), (82, vs e_S_api_Pair p0.Extra), (84, vs e_S_api_Pair p1.Extra)] H (fun fr => by kernel_rfl) (fun fr => .of (s_ld (by kernel_rfl) (A.ld1 0 rfl (o := 12) rfl))) ?_
                          intro fr t H
                          have A1 := A.cut 0
                          obtain ⟨x4, hx, hm⟩ := bind_some hm
                          obtain ⟨v1, h5, hr, rfl, A1⟩ := ok_boulterref06_Same (av := [vs e_S_api_Pair p0.Extra, vs e_S_api_Pair p1.Extra]) hx (by kernel_rfl) A1
                          replace A : HH g h5 [.obj h1.size (.cells none 2 (e_S_api_Member p1)), .obj h.size (.cells none 2 (e_S_api_Member p0))] F := A.glue0 (n := 0) A1
                          refine at_step (v := .bool x4) (h1 := h5) [(2, .ptr (some (h.size, 0))), (3, .ptr (some (h1.size, 0))), (80, .bool true), (85, .bool x4)] H (fun fr => by kernel_rfl) (fun fr => Steps.call (by kernel_rfl) hr) ?_
                          intro fr t H
                          refine at_seg [(81, [])] [(2, .ptr (some (h.size, 0))), (3, .ptr (some (h1.size, 0))), (86, .bool x4)] H (noU_all rfl) (fun fr => by kernel_rfl) ?_
                          intro fr H
                          have e1 := Option.some.inj hm
                          subst e1
                          exact at_nil ⟨H.less _ (fun fr => by kernel_rfl), A⟩
                        · replace H := H.know 80 hb (by kernel_rfl)
                          refine at_seg [(76, []), (77, []), (78, []), (79, []), (80, []), (81, [])] [(2, .ptr (some (h.size, 0))), (3, .ptr (some (h1.size, 0))), (86, .bool false)] H (noU_all rfl) (fun fr => by kernel_rfl) ?_
                          intro fr H
                          have e1 := Option.some.inj hm
                          subst e1
                          exact at_nil ⟨H.less _ (fun fr => by kernel_rfl), A⟩
                      · clear A
                        intro t fr h4 hK
                        obtain ⟨H, A⟩ := hK
                        refine at_seg [(82, [])] [(2, .ptr (some (h.size, 0))), (3, .ptr (some (h1.size, 0))), (87, .bool x3)] H (noU_all rfl) (fun fr => by kernel_rfl) ?_
                        intro fr H
                        refine at_cut [(83, []), (84, []), (85, []), (86, []), (87, []), (88, [])] (fun fr' h' => h4 = h' ∧ Has fr' 94 [(93, .bool (x3 && (p0.Data == p1.Data)))]) ?_ ?_
                        · cases hb : (x3 : Bool) with
                          | true =>
                            replace H := H.know 87 hb (by kernel_rfl)
                            refine at_seg [(83, [])] [(3, .ptr (some (h1.size, 0))), (87, .bool true), (88, .ptr (some (h.size, 13)))] H (noU_all rfl) (fun fr => by kernel_rfl) ?_
                            intro fr H
                            refine at_step (v := .str p0.Data) (h1 := h4) [(3, .ptr (some (h1.size, 0))), (87, .bool true), (89, .str p0.Data)] H (fun fr => by kernel_rfl) (fun fr => .of (s_ld (by kernel_rfl) (A.ld1 1 rfl (o := 13) rfl))) ?_
                            intro fr t H
                            refine at_seg [(85, [])] [(87, .bool true), (89, .str p0.Data), (90, .ptr (some (h1.size, 13)))] H (noU_all rfl) (fun fr => by kernel_rfl) ?_
                            intro fr H
                            refine at_step (v := .str p1.Data) (h1 := h4) [(87, .bool true), (89, .str p0.Data), (91, .str p1.Data)] H (fun fr => by kernel_rfl) (fun fr => .of (s_ld (by kernel_rfl) (A.ld1 0 rfl (o := 13) rfl))) ?_
                            intro fr t H
                            refine at_seg [(87, []), (88, [])] [(93, .bool (p0.Data == p1.Data))] H (noU_all rfl) (fun fr => by kernel_rfl) ?_
                            intro fr H
                            exact at_nil ⟨rfl, by first | exact H.less _ (fun fr => by rfl) | exact H.less _ (fun fr => by rw [hb]; rfl)⟩
                          | false =>
                            replace H := H.know 87 hb (by kernel_rfl)
                            refine at_seg [(83, []), (84, []), (85, []), (86, []), (87, []), (88, [])] [(93, .bool false)] H (noU_all rfl) (fun fr => by kernel_rfl) ?_
                            intro fr H
                            exact at_nil ⟨rfl, by first | exact H.less _ (fun fr => by rfl) | exact H.less _ (fun fr => by rw [hb]; rfl)⟩
                        · intro t fr h' hK
                          obtain ⟨e, H⟩ := hK
                          subst e
                          refine at_seg [(89, [])] [(4, .bool (x3 && (p0.Data == p1.Data)))] H (noU_all rfl) (fun fr => by kernel_rfl) ?_
                          intro fr H
                          refine at_nil ?_
                          show AW cfg 43 g (right (right (bodyC cfg.P 43))) fr h4 _
                          refine aw_ret (by kernel_rfl) ?_
                          have e1 := Option.some.inj hm
                          subst e1
                          refine ⟨.inl rfl, .bool (x3 && (p0.Data == p1.Data)), resH H (fun fr => by kernel_rfl), ?_⟩
                          replace A : HH g h4 [] F := (HH.dropF A 0)
                          exact ⟨rfl, A⟩
/-! ### boulter/boulterref12.Same -/
noncomputable def M_boulterref12_Same_sOO_L0 (p0 : List S_api_Member) (p1 : List S_api_Member) (s : Int) : Option ((Int) ⊕ ((Unit) ⊕ (Bool))) :=
  match s with
  | x1 => iteB (decide (x1 < (p0.length : Int))) ((ixV p0 x1).bind fun x3 => (ixV p1 x1).bind fun x4 => (M_boulterref07_Same x3 x4).bind fun x5 => iteB (!x5) (some (.inr (.inr false))) (some (.inl (IntKind.i64.wrap (x1 + (1 : Int)))))) (some (.inr (.inl ())))
noncomputable def M_boulterref12_Same_sOO (p0 : List S_api_Member) (p1 : List S_api_Member) : Option (Bool) :=
 iteB ((p0.length : Int) != (p1.length : Int)) (some false) ((loop (M_boulterref12_Same_sOO_L0 p0 p1) (0 : Int)).bind fun o1 => (match o1 with | .inl _ => some true | .inr x2 => some x2))
theorem ok_boulterref12_Same_sOO {g : Gd} {h : AHeap} {F : List Ck} {p0 : List S_api_Member} {p1 : List S_api_Member} {rp0 : Option Nat} {rp1 : Option Nat} {q0 : Bool} {av : List AVal} (hm : M_boulterref12_Same_sOO p0 p1 = some q0) (hc : canL (cfg.still 21) av = [rowV rp0 p0.length, rowV rp1 p1.length]) (A : HH g h [.lst rp0 63 (lst e_S_api_Member p0), .lst rp1 63 (lst e_S_api_Member p1)] F) : ∃ v h', Runs cfg g h 21 av v h' ∧ v = .bool q0 ∧ HH g h' [.lst rp0 63 (lst e_S_api_Member p0), .lst rp1 63 (lst e_S_api_Member p1)] F := by
  refine runsQ1 (n := 27) (rs := [.tmp 4]) (by kernel_rfl) hc (by kernel_rfl) ?_
  clear hc
  unfold M_boulterref12_Same_sOO at hm
  refine start (n := 27) [(0, rowV rp0 p0.length), (1, rowV rp1 p1.length)] (by kernel_rfl) (by kernel_rfl) ?_
  intro fr H
  refine aw_seq (by kernel_rfl) ?_
  refine aw_reg (id := 0) (n := 1) [(0, [])] (by kernel_rfl) (by kernel_rfl) ?_
  refine at_seg [(0, [])] [(0, rowV rp0 p0.length), (1, rowV rp1 p1.length)] H (noU_all rfl) (fun fr => by kernel_rfl) ?_
  intro fr H
  refine at_nil ?_
  show AW cfg 21 g (right (bodyC cfg.P 21)) fr h _
  refine aw_seq (by kernel_rfl) ?_
  refine aw_seq (by kernel_rfl) ?_
  refine aw_reg (id := 1) (n := 5) [(0, []), (1, []), (2, []), (3, []), (4, [])] (by kernel_rfl) (by kernel_rfl) ?_
  refine at_seg [(0, []), (1, []), (2, []), (3, []), (4, [])] [(0, rowV rp0 p0.length), (1, rowV rp1 p1.length), (10, .bool ((p0.length : Int) != (p1.length : Int)))] H (noU_all rfl) (fun fr => by kernel_rfl) ?_
  intro fr H
  refine at_nil ?_
  show AW cfg 21 g (right (left (right (bodyC cfg.P 21)))) fr h _
  rcases iteB_some hm with ⟨hb, hm⟩ | ⟨hb, hm⟩
  · replace H := H.know 10 hb (by kernel_rfl)
    refine aw_true (x := .tmp 10) (by kernel_rfl) H (fun fr => by kernel_rfl) ?_
    refine aw_seq (by kernel_rfl) ?_
    refine aw_reg (id := 2) (n := 1) [(0, [])] (by kernel_rfl) (by kernel_rfl) ?_
    refine at_seg [(0, [])] [(4, .bool false)] H (noU_all rfl) (fun fr => by kernel_rfl) ?_
    intro fr H
    refine at_nil ?_
    show AW cfg 21 g (right (left (right (left (right (bodyC cfg.P 21)))))) fr h _
    refine aw_ret (by kernel_rfl) ?_
    have e1 := Option.some.inj hm
    subst e1
    refine ⟨.inl rfl, .bool false, resH H (fun fr => by kernel_rfl), ?_⟩
    exact ⟨rfl, A⟩
  · replace H := H.know 10 hb (by kernel_rfl)
    refine aw_false (x := .tmp 10) (by kernel_rfl) H (fun fr => by kernel_rfl) ?_
    refine aw_skip (by kernel_rfl) ?_
    show AW cfg 21 g (right (right (bodyC cfg.P 21))) fr h _
    refine aw_seq (by kernel_rfl) ?_
    refine aw_seq (by kernel_rfl) ?_
    refine aw_reg (id := 3) (n := 1) [(0, [])] (by kernel_rfl) (by kernel_rfl) ?_
    refine at_seg [(0, [])] [(0, rowV rp0 p0.length), (1, rowV rp1 p1.length), (5, .int .i64 (0 : Int))] H (noU_all rfl) (fun fr => by kernel_rfl) ?_
    intro fr H
    refine at_nil ?_
    show AW cfg 21 g (right (left (right (right (bodyC cfg.P 21))))) fr h _
    refine aw_block (id := 0) (by kernel_rfl) ?_
    obtain ⟨o1, ho, hm⟩ := bind_some hm
    refine aw_mono (Q' := fun e fr' h' => (e = .exit 0 ∧ .inl () = o1 ∧ Has fr' 27 [] ∧ HH g h' [.lst rp0 63 (lst e_S_api_Member p0), .lst rp1 63 (lst e_S_api_Member p1)] F) ∨ (∃ (x2 : Bool), e = .ret ∧ .inr x2 = o1 ∧ Has fr' 27 [(4, .bool x2)] ∧ HH g h' [.lst rp0 63 (lst e_S_api_Member p0), .lst rp1 63 (lst e_S_api_Member p1)] F) ∨ False) ?_ ?_
    · refine aw_loop (by kernel_rfl) (fun (s : Int) fr' h' => ∃ (x1 : Int), x1 = s ∧ Has fr' 27 [(0, rowV rp0 p0.length), (1, rowV rp1 p1.length), (5, .int .i64 x1)] ∧ HH g h' [.lst rp0 63 (lst e_S_api_Member p0), .lst rp1 63 (lst e_S_api_Member p1)] F) ho ⟨(0 : Int), rfl, H.less _ (fun fr => by kernel_rfl), A⟩ ?_
      clear ho hm H A
      intro s q fr h1 hI hm
      obtain ⟨x1, rfl, H, A⟩ := hI
      unfold M_boulterref12_Same_sOO_L0 at hm
      refine aw_seq (by kernel_rfl) ?_
      refine aw_seq (by kernel_rfl) ?_
      refine aw_reg (id := 4) (n := 4) [(0, []), (1, []), (2, []), (3, [])] (by kernel_rfl) (by kernel_rfl) ?_
      refine at_seg [(0, []), (1, []), (2, []), (3, [])] [(0, rowV rp0 p0.length), (1, rowV rp1 p1.length), (5, .int .i64 x1), (14, .bool (decide (x1 < (p0.length : Int))))] H (noU_all rfl) (fun fr => by kernel_rfl) ?_
      intro fr H
      refine at_nil ?_
      show AW cfg 21 g (right (left (left (left (right (left (right (right (bodyC cfg.P 21))))))))) fr h1 _
      rcases iteB_some hm with ⟨hb, hm⟩ | ⟨hb, hm⟩
      · replace H := H.know 14 hb (by kernel_rfl)
        refine aw_true (x := .tmp 14) (by kernel_rfl) H (fun fr => by kernel_rfl) ?_
        refine aw_skip (by kernel_rfl) ?_
        show AW cfg 21 g (right (left (left (right (left (right (right (bodyC cfg.P 21)))))))) fr h1 _
        refine aw_seq (by kernel_rfl) ?_
        refine aw_block (id := 1) (by kernel_rfl) ?_
        refine aw_seq (by kernel_rfl) ?_
        refine aw_draw (id := 6) (n := 10) (by kernel_rfl) [(0, []), (1, []), (2, []), (3, []), (4, []), (5, []), (6, []), (7, []), (8, []), (9, [])] (by kernel_rfl) ?_
        refine at_seg [(0, []), (1, [])] [(0, rowV rp0 p0.length), (1, rowV rp1 p1.length), (5, .int .i64 x1), (17, rowV rp0 p0.length), (18, .int .i64 x1)] H (noU_all rfl) (fun fr => by kernel_rfl) ?_
        intro fr H
        obtain ⟨x3, hx, hm⟩ := bind_some hm
        obtain ⟨i1, er1, _, hx, hq1⟩ := HH.ixO enc_S_api_Member (by decide) A 0 (xs := p0) rfl hx
        refine at_step (v := .ptr (some (i1, x1.toNat * 14))) (h1 := h1) [(0, rowV rp0 p0.length), (1, rowV rp1 p1.length), (5, .int .i64 x1), (19, .ptr (some (i1, x1.toNat * 14)))] H (fun fr => by kernel_rfl) (fun fr => .of (s_ixL (s := rowS rp0 p0.length) (by kernel_rfl) hx)) ?_
        intro fr t H
        refine at_step (v := .agg (e_S_api_Member x3)) (h1 := h1) [(0, rowV rp0 p0.length), (1, rowV rp1 p1.length), (5, .int .i64 x1), (20, .agg (e_S_api_Member x3))] H (fun fr => by kernel_rfl) (fun fr => .of (s_ldA (by kernel_rfl) (row_ldA enc_S_api_Member (HH.row A 0 rfl er1) hq1 0 14 (Nat.le_of_ble_eq_true rfl)))) ?_
        intro fr t H
        refine at_seg [(4, []), (5, [])] [(0, rowV rp0 p0.length), (1, rowV rp1 p1.length), (5, .int .i64 x1), (20, .agg (e_S_api_Member x3)), (21, rowV rp1 p1.length), (22, .int .i64 x1)] H (noU_all rfl) (fun fr => by kernel_rfl) ?_
        intro fr H
        obtain ⟨x4, hx, hm⟩ := bind_some hm
        obtain ⟨i2, er2, _, hx, hq2⟩ := HH.ixO enc_S_api_Member (by decide) A 1 (xs := p1) rfl hx
        refine at_step (v := .ptr (some (i2, x1.toNat * 14))) (h1 := h1) [(0, rowV rp0 p0.length), (1, rowV rp1 p1.length), (5, .int .i64 x1), (20, .agg (e_S_api_Member x3)), (23, .ptr (some (i2, x1.toNat * 14)))] H (fun fr => by kernel_rfl) (fun fr => .of (s_ixL (s := rowS rp1 p1.length) (by kernel_rfl) hx)) ?_
        intro fr t H
        refine at_step (v := .agg (e_S_api_Member x4)) (h1 := h1) [(0, rowV rp0 p0.length), (1, rowV rp1 p1.length), (5, .int .i64 x1), (20, .agg (e_S_api_Member x3)), (24, .agg (e_S_api_Member x4))] H (fun fr => by kernel_rfl) (fun fr => .of (s_ldA (by kernel_rfl) (row_ldA enc_S_api_Member (HH.row A 1 rfl er2) hq2 0 14 (Nat.le_of_ble_eq_true rfl)))) ?_
        intro fr t H
        have A1 := A.cut 0
        obtain ⟨x5, hx, hm⟩ := bind_some hm
        obtain ⟨v1, h2, hr, rfl, A1⟩ := ok_boulterref07_Same (av := [.agg (e_S_api_Member x3), .agg (e_S_api_Member x4)]) hx (by kernel_rfl) A1
        replace A : HH g h2 [.lst rp0 63 (lst e_S_api_Member p0), .lst rp1 63 (lst e_S_api_Member p1)] F := A.glue0 (n := 0) A1
        refine at_step (v := .bool x5) (h1 := h2) [(0, rowV rp0 p0.length), (1, rowV rp1 p1.length), (5, .int .i64 x1), (25, .bool x5)] H (fun fr => by kernel_rfl) (fun fr => Steps.call (by kernel_rfl) hr) ?_
        intro fr t H
        refine at_seg [(9, [])] [(0, rowV rp0 p0.length), (1, rowV rp1 p1.length), (5, .int .i64 x1), (26, .bool (!x5))] H (noU_all rfl) (fun fr => by kernel_rfl) ?_
        intro fr H
        refine at_nil ?_
        show AW cfg 21 g (right (left (left (right (left (left (right (left (right (right (bodyC cfg.P 21))))))))))) fr h2 _
        rcases iteB_some hm with ⟨hb, hm⟩ | ⟨hb, hm⟩
        · replace H := H.know 26 hb (by kernel_rfl)
          refine aw_true (x := .tmp 26) (by kernel_rfl) H (fun fr => by kernel_rfl) ?_
          refine aw_seq (by kernel_rfl) ?_
          refine aw_reg (id := 7) (n := 1) [(0, [])] (by kernel_rfl) (by kernel_rfl) ?_
          refine at_seg [(0, [])] [(4, .bool false)] H (noU_all rfl) (fun fr => by kernel_rfl) ?_
          intro fr H
          refine at_nil ?_
          show AW cfg 21 g (right (left (right (left (left (right (left (left (right (left (right (right (bodyC cfg.P 21))))))))))))) fr h2 _
          refine aw_ret (by kernel_rfl) ?_
          exact Exists.intro _ (And.intro (Option.some.inj hm).symm (fun e => Or.inr (Or.inl ⟨false, rfl, e, H.less _ (fun fr => by kernel_rfl), A⟩)))
        · replace H := H.know 26 hb (by kernel_rfl)
          refine aw_false (x := .tmp 26) (by kernel_rfl) H (fun fr => by kernel_rfl) ?_
          refine aw_skip (by kernel_rfl) ?_
          show AW cfg 21 g (right (right (left (left (right (left (right (right (bodyC cfg.P 21))))))))) fr h2 _
          refine aw_reg (id := 5) (n := 3) [(0, []), (1, []), (2, [])] (by kernel_rfl) (by kernel_rfl) ?_
          refine at_seg [(0, []), (1, []), (2, [])] [(0, rowV rp0 p0.length), (1, rowV rp1 p1.length), (5, .int .i64 (IntKind.i64.wrap (x1 + (1 : Int))))] H (noU_all rfl) (fun fr => by kernel_rfl) ?_
          intro fr H
          refine at_nil ?_
          exact Exists.intro (IntKind.i64.wrap (x1 + (1 : Int))) (And.intro (Option.some.inj hm).symm ⟨IntKind.i64.wrap (x1 + (1 : Int)), rfl, H.less _ (fun fr => by kernel_rfl), A⟩)
      · replace H := H.know 14 hb (by kernel_rfl)
        refine aw_false (x := .tmp 14) (by kernel_rfl) H (fun fr => by kernel_rfl) ?_
        refine aw_exit (i := 0) (by kernel_rfl) ?_
        exact Exists.intro _ (And.intro (Option.some.inj hm).symm (fun e => Or.inl ⟨rfl, e, H.less _ (fun fr => by kernel_rfl), A⟩))
    · clear ho
      clear A
      intro e fr h3 hQ
      rcases hQ with ⟨rfl, rfl, H, A⟩ | ⟨x2, rfl, rfl, H, A⟩ | hF
      · skip
        show AW cfg 21 g (right (right (right (bodyC cfg.P 21)))) fr h3 _
        refine aw_seq (by kernel_rfl) ?_
        refine aw_reg (id := 8) (n := 1) [(0, [])] (by kernel_rfl) (by kernel_rfl) ?_
        refine at_seg [(0, [])] [(4, .bool true)] H (noU_all rfl) (fun fr => by kernel_rfl) ?_
        intro fr H
        refine at_nil ?_
        show AW cfg 21 g (right (right (right (right (bodyC cfg.P 21))))) fr h3 _
        refine aw_ret (by kernel_rfl) ?_
        have e1 := Option.some.inj hm
        subst e1
        refine ⟨.inl rfl, .bool true, resH H (fun fr => by kernel_rfl), ?_⟩
        exact ⟨rfl, A⟩
      · skip
        have e1 := Option.some.inj hm
        subst e1
        refine ⟨.inl rfl, .bool x2, resH H (fun fr => by kernel_rfl), ?_⟩
        exact ⟨rfl, A⟩
      · exact hF.elim
/-! ### slices.insertionSortCmpFunc[boulter/api.Member] -/
noncomputable def M_slices_insertionSortCmpFunc_boulter_api_Member_sOIIF_8ba1_L1 (p1 : Int) (s : (List S_api_Member) × Int) : Option (((List S_api_Member) × Int) ⊕ (((List S_api_Member)))) :=
  match s with
  | (x4, x5) => (iteB (decide (x5 > p1)) ((ixV x4 x5).bind fun x8 => (ixV x4 (IntKind.i64.wrap (x5 - (1 : Int)))).bind fun x9 => (M_delta_byName_1 x8 x9).bind fun x10 => some (decide (x10 < (0 : Int)))) (some false) : Option (Bool)).bind fun x7 => iteB x7 ((ixV x4 (IntKind.i64.wrap (x5 - (1 : Int)))).bind fun x11 => (ixV x4 x5).bind fun x12 => (ixV x4 x5).bind fun x13 => (ixV (x4.set x5.toNat x11) (IntKind.i64.wrap (x5 - (1 : Int)))).bind fun x14 => some (.inl (((x4.set x5.toNat x11).set (IntKind.i64.wrap (x5 - (1 : Int))).toNat x12), IntKind.i64.wrap (x5 - (1 : Int))))) (some (.inr x4))
noncomputable def M_slices_insertionSortCmpFunc_boulter_api_Member_sOIIF_8ba1_L0 (p1 : Int) (p2 : Int) (s : (List S_api_Member) × Int) : Option (((List S_api_Member) × Int) ⊕ (((List S_api_Member)))) :=
  match s with
  | (x1, x2) => iteB (decide (x2 < p2)) ((loop (M_slices_insertionSortCmpFunc_boulter_api_Member_sOIIF_8ba1_L1 p1) (x1, x2)).bind fun x6 => some (.inl (x6, IntKind.i64.wrap (x2 + (1 : Int))))) (some (.inr x1))
noncomputable def M_slices_insertionSortCmpFunc_boulter_api_Member_sOIIF_8ba1 (p0 : List S_api_Member) (p1 : Int) (p2 : Int) : Option ((List S_api_Member)) :=
 (loop (M_slices_insertionSortCmpFunc_boulter_api_Member_sOIIF_8ba1_L0 p1 p2) (p0, IntKind.i64.wrap (p1 + (1 : Int)))).bind fun x3 => some x3
theorem ok_slices_insertionSortCmpFunc_boulter_api_Member_sOIIF_8ba1 {g : Gd} {h : AHeap} {F : List Ck} {p0 : List S_api_Member} {p1 : Int} {p2 : Int} {rp0 : Option Nat} {u0 : List S_api_Member} {av : List AVal} (hm : M_slices_insertionSortCmpFunc_boulter_api_Member_sOIIF_8ba1 p0 p1 p2 = some u0) (hc : canL (cfg.still 98) av = [rowV rp0 p0.length, .int .i64 p1, .int .i64 p2, .func (.func 74) [] []]) (A : HH g h [.lst rp0 63 (lst e_S_api_Member p0)] F) : ∃ v h', Runs cfg g h 98 av v h' ∧ ∃ (hl'0 : u0.length = p0.length), v = .tuple [] ∧ HH g h' [.lst rp0 63 (lst e_S_api_Member u0)] F := by
  refine runsQ1 (n := 53) (rs := []) (by kernel_rfl) hc (by kernel_rfl) ?_
  clear hc
  unfold M_slices_insertionSortCmpFunc_boulter_api_Member_sOIIF_8ba1 at hm
  refine start (n := 53) [(0, rowV rp0 p0.length), (1, .int .i64 p1), (2, .int .i64 p2), (3, .func (.func 74) [] [])] (by kernel_rfl) (by kernel_rfl) ?_
  intro fr H
  refine aw_seq (by kernel_rfl) ?_
  refine aw_reg (id := 0) (n := 3) [(0, []), (1, []), (2, [])] (by kernel_rfl) (by kernel_rfl) ?_
  refine at_seg [(0, []), (1, []), (2, [])] [(0, rowV rp0 p0.length), (1, .int .i64 p1), (2, .int .i64 p2), (3, .func (.func 74) [] []), (8, .int .i64 (IntKind.i64.wrap (p1 + (1 : Int))))] H (noU_all rfl) (fun fr => by kernel_rfl) ?_
  intro fr H
  refine at_nil ?_
  show AW cfg 98 g (right (bodyC cfg.P 98)) fr h _
  refine aw_block (id := 0) (by kernel_rfl) ?_
  obtain ⟨o1, ho, hm⟩ := bind_some hm
  refine aw_mono (Q' := fun e fr' h' => (∃ (x3 : List S_api_Member), e = .exit 0 ∧ x3 = o1 ∧ ∃ (hl2 : x3.length = p0.length), Has fr' 53 [] ∧ HH g h' [.lst rp0 63 (lst e_S_api_Member x3)] F) ∨ False) ?_ ?_
  · refine aw_loop (by kernel_rfl) (fun (s : (List S_api_Member) × Int) fr' h' => ∃ (x1 : List S_api_Member) (x2 : Int), (x1, x2) = s ∧ ∃ (hl1 : x1.length = p0.length), Has fr' 53 [(0, rowV rp0 x1.length), (1, .int .i64 p1), (2, .int .i64 p2), (3, .func (.func 74) [] []), (8, .int .i64 x2)] ∧ HH g h' [.lst rp0 63 (lst e_S_api_Member x1)] F) ho ⟨p0, IntKind.i64.wrap (p1 + (1 : Int)), rfl, rfl, H.less _ (fun fr => by kernel_rfl), A⟩ ?_
    clear ho hm H A
    intro s q fr h1 hI hm
    obtain ⟨x1, x2, rfl, hl1, H, A⟩ := hI
    unfold M_slices_insertionSortCmpFunc_boulter_api_Member_sOIIF_8ba1_L0 at hm
    refine aw_seq (by kernel_rfl) ?_
    refine aw_seq (by kernel_rfl) ?_
    refine aw_reg (id := 1) (n := 3) [(0, []), (1, []), (2, [])] (by kernel_rfl) (by kernel_rfl) ?_
    refine at_seg [(0, []), (1, []), (2, [])] [(0, rowV rp0 x1.length), (1, .int .i64 p1), (2, .int .i64 p2), (3, .func (.func 74) [] []), (8, .int .i64 x2), (14, .bool (decide (x2 < p2)))] H (noU_all rfl) (fun fr => by kernel_rfl) ?_
    intro fr H
    refine at_nil ?_
    show AW cfg 98 g (right (left (left (left (right (bodyC cfg.P 98)))))) fr h1 _
    rcases iteB_some hm with ⟨hb, hm⟩ | ⟨hb, hm⟩
    · replace H := H.know 14 hb (by kernel_rfl)
      refine aw_true (x := .tmp 14) (by kernel_rfl) H (fun fr => by kernel_rfl) ?_
      refine aw_skip (by kernel_rfl) ?_
      show AW cfg 98 g (right (left (left (right (bodyC cfg.P 98))))) fr h1 _
      refine aw_seq (by kernel_rfl) ?_
      refine aw_block (id := 1) (by kernel_rfl) ?_
      refine aw_seq (by kernel_rfl) ?_
      refine aw_reg (id := 3) (n := 2) [(0, []), (1, [])] (by kernel_rfl) (by kernel_rfl) ?_
      refine at_seg [(0, []), (1, [])] [(0, rowV rp0 x1.length), (1, .int .i64 p1), (2, .int .i64 p2), (3, .func (.func 74) [] []), (8, .int .i64 x2), (9, .int .i64 x2)] H (noU_all rfl) (fun fr => by kernel_rfl) ?_
      intro fr H
      refine at_nil ?_
      show AW cfg 98 g (right (left (left (right (left (left (right (bodyC cfg.P 98)))))))) fr h1 _
      refine aw_block (id := 2) (by kernel_rfl) ?_
      obtain ⟨o2, ho, hm⟩ := bind_some hm
      refine aw_mono (Q' := fun e fr' h' => (∃ (x6 : List S_api_Member), e = .exit 2 ∧ x6 = o2 ∧ ∃ (hl4 : x6.length = p0.length), Has fr' 53 [(0, rowV rp0 x6.length), (1, .int .i64 p1), (2, .int .i64 p2), (3, .func (.func 74) [] []), (8, .int .i64 x2)] ∧ HH g h' [.lst rp0 63 (lst e_S_api_Member x6)] F) ∨ False) ?_ ?_
      · refine aw_loop (by kernel_rfl) (fun (s : (List S_api_Member) × Int) fr' h' => ∃ (x4 : List S_api_Member) (x5 : Int), (x4, x5) = s ∧ ∃ (hl3 : x4.length = p0.length), Has fr' 53 [(0, rowV rp0 x4.length), (1, .int .i64 p1), (2, .int .i64 p2), (3, .func (.func 74) [] []), (8, .int .i64 x2), (9, .int .i64 x5)] ∧ HH g h' [.lst rp0 63 (lst e_S_api_Member x4)] F) ho ⟨x1, x2, rfl, hl1, H.less _ (fun fr => by kernel_rfl), A⟩ ?_
        clear ho hm H A
        intro s q fr h2 hI hm
        obtain ⟨x4, x5, rfl, hl3, H, A⟩ := hI
        unfold M_slices_insertionSortCmpFunc_boulter_api_Member_sOIIF_8ba1_L1 at hm
        refine aw_seq (by kernel_rfl) ?_
        refine aw_seq (by kernel_rfl) ?_
        refine aw_draw (id := 4) (n := 17) (by kernel_rfl) [(0, []), (1, []), (2, []), (3, []), (4, []), (5, []), (6, []), (7, []), (8, []), (9, []), (10, []), (11, []), (12, []), (13, []), (14, []), (15, []), (16, [])] (by kernel_rfl) ?_
        refine at_seg [(0, []), (1, []), (2, []), (3, [])] [(0, rowV rp0 x4.length), (1, .int .i64 p1), (2, .int .i64 p2), (3, .func (.func 74) [] []), (8, .int .i64 x2), (9, .int .i64 x5), (21, .bool (decide (x5 > p1)))] H (noU_all rfl) (fun fr => by kernel_rfl) ?_
        intro fr H
        obtain ⟨x7, ho, hm⟩ := bind_some hm
        refine at_cut [(4, []), (5, []), (6, []), (7, []), (8, []), (9, []), (10, []), (11, []), (12, []), (13, []), (14, []), (15, []), (16, [])] (fun fr' h' => Has fr' 53 [(0, rowV rp0 x4.length), (1, .int .i64 p1), (2, .int .i64 p2), (3, .func (.func 74) [] []), (8, .int .i64 x2), (9, .int .i64 x5), (34, .bool x7)] ∧ HH g h' [.lst rp0 63 (lst e_S_api_Member x4)] F) ?_ ?_
        · rcases iteB_some ho with ⟨hb, hm⟩ | ⟨hb, hm⟩
          · replace H := H.know 21 hb (by kernel_rfl)
            refine at_seg [(4, []), (5, []), (6, [])] [(0, rowV rp0 x4.length), (1, .int .i64 p1), (2, .int .i64 p2), (3, .func (.func 74) [] []), (8, .int .i64 x2), (9, .int .i64 x5), (21, .bool true), (22, .func (.func 74) [] []), (23, rowV rp0 x4.length), (24, .int .i64 x5)] H (noU_all rfl) (fun fr => by kernel_rfl) ?_
            intro fr H
            obtain ⟨x8, hx, hm⟩ := bind_some hm
            obtain ⟨i1, er1, _, hx, hq1⟩ := HH.ixO enc_S_api_Member (by decide) A 0 (xs := x4) rfl hx
            refine at_step (v := .ptr (some (i1, x5.toNat * 14))) (h1 := h2) [(0, rowV rp0 x4.length), (1, .int .i64 p1), (2, .int .i64 p2), (3, .func (.func 74) [] []), (8, .int .i64 x2), (9, .int .i64 x5), (21, .bool true), (22, .func (.func 74) [] []), (25, .ptr (some (i1, x5.toNat * 14)))] H (fun fr => by kernel_rfl) (fun fr => .of (s_ixL (s := rowS rp0 x4.length) (by kernel_rfl) hx)) ?_
            intro fr t H
            refine at_step (v := .agg (e_S_api_Member x8)) (h1 := h2) [(0, rowV rp0 x4.length), (1, .int .i64 p1), (2, .int .i64 p2), (3, .func (.func 74) [] []), (8, .int .i64 x2), (9, .int .i64 x5), (21, .bool true), (22, .func (.func 74) [] []), (26, .agg (e_S_api_Member x8))] H (fun fr => by kernel_rfl) (fun fr => .of (s_ldA (by kernel_rfl) (row_ldA enc_S_api_Member (HH.row A 0 rfl er1) hq1 0 14 (Nat.le_of_ble_eq_true rfl)))) ?_
            intro fr t H
            refine at_seg [(9, []), (10, []), (11, [])] [(0, rowV rp0 x4.length), (1, .int .i64 p1), (2, .int .i64 p2), (3, .func (.func 74) [] []), (8, .int .i64 x2), (9, .int .i64 x5), (21, .bool true), (22, .func (.func 74) [] []), (26, .agg (e_S_api_Member x8)), (27, rowV rp0 x4.length), (29, .int .i64 (IntKind.i64.wrap (x5 - (1 : Int))))] H (noU_all rfl) (fun fr => by kernel_rfl) ?_
            intro fr H
            obtain ⟨x9, hx, hm⟩ := bind_some hm
            obtain ⟨i2, er2, _, hx, hq2⟩ := HH.ixO enc_S_api_Member (by decide) A 0 (xs := x4) rfl hx
            refine at_step (v := .ptr (some (i2, (IntKind.i64.wrap (x5 - (1 : Int))).toNat * 14))) (h1 := h2) [(0, rowV rp0 x4.length), (1, .int .i64 p1), (2, .int .i64 p2), (3, .func (.func 74) [] []), (8, .int .i64 x2), (9, .int .i64 x5), (21, .bool true), (22, .func (.func 74) [] []), (26, .agg (e_S_api_Member x8)), (30, .ptr (some (i2, (IntKind.i64.wrap (x5 - (1 : Int))).toNat * 14)))] H (fun fr => by kernel_rfl) (fun fr => .of (s_ixL (s := rowS rp0 x4.length) (by kernel_rfl) hx)) ?_
            intro fr t H
            refine at_step (v := .agg (e_S_api_Member x9)) (h1 := h2) [(0, rowV rp0 x4.length), (1, .int .i64 p1), (2, .int .i64 p2), (3, .func (.func 74) [] []), (8, .int .i64 x2), (9, .int .i64 x5), (21, .bool true), (22, .func (.func 74) [] []), (26, .agg (e_S_api_Member x8)), (31, .agg (e_S_api_Member x9))] H (fun fr => by kernel_rfl) (fun fr => .of (s_ldA (by kernel_rfl) (row_ldA enc_S_api_Member (HH.row A 0 rfl er2) hq2 0 14 (Nat.le_of_ble_eq_true rfl)))) ?_
            intro fr t H
            have A1 := A.cut 0
            obtain ⟨x10, hx, hm⟩ := bind_some hm
            obtain ⟨v1, h4, hr, rfl, A1⟩ := ok_delta_byName_1 (av := [.agg (e_S_api_Member x8), .agg (e_S_api_Member x9)]) hx (by kernel_rfl) A1
            replace A : HH g h4 [.lst rp0 63 (lst e_S_api_Member x4)] F := A.glue0 (n := 0) A1
            refine at_step (v := .int .i64 x10) (h1 := h4) [(0, rowV rp0 x4.length), (1, .int .i64 p1), (2, .int .i64 p2), (3, .func (.func 74) [] []), (8, .int .i64 x2), (9, .int .i64 x5), (21, .bool true), (32, .int .i64 x10)] H (fun fr => by kernel_rfl) (fun fr => Steps.call (by kernel_rfl) hr) ?_
            intro fr t H
            refine at_seg [(15, []), (16, [])] [(0, rowV rp0 x4.length), (1, .int .i64 p1), (2, .int .i64 p2), (3, .func (.func 74) [] []), (8, .int .i64 x2), (9, .int .i64 x5), (34, .bool (decide (x10 < (0 : Int))))] H (noU_all rfl) (fun fr => by kernel_rfl) ?_
            intro fr H
            have e1 := Option.some.inj hm
            subst e1
            exact at_nil ⟨H.less _ (fun fr => by kernel_rfl), A⟩
          · replace H := H.know 21 hb (by kernel_rfl)
            refine at_seg [(4, []), (5, []), (6, []), (7, []), (8, []), (9, []), (10, []), (11, []), (12, []), (13, []), (14, []), (15, []), (16, [])] [(0, rowV rp0 x4.length), (1, .int .i64 p1), (2, .int .i64 p2), (3, .func (.func 74) [] []), (8, .int .i64 x2), (9, .int .i64 x5), (34, .bool false)] H (noU_all rfl) (fun fr => by kernel_rfl) ?_
            intro fr H
            have e1 := Option.some.inj hm
            subst e1
            exact at_nil ⟨H.less _ (fun fr => by kernel_rfl), A⟩
        · clear A
          intro t fr h3 hK
          obtain ⟨H, A⟩ := hK
          refine at_nil ?_
          show AW cfg 98 g (right (left (left (left (right (left (left (right (left (left (right (bodyC cfg.P 98)))))))))))) fr h3 _
          rcases iteB_some hm with ⟨hb, hm⟩ | ⟨hb, hm⟩
          · replace H := H.know 34 hb (by kernel_rfl)
            refine aw_true (x := .tmp 34) (by kernel_rfl) H (fun fr => by kernel_rfl) ?_
            refine aw_skip (by kernel_rfl) ?_
            show AW cfg 98 g (right (left (left (right (left (left (right (left (left (right (bodyC cfg.P 98))))))))))) fr h3 _
            refine aw_seq (by kernel_rfl) ?_
            refine aw_block (id := 3) (by kernel_rfl) ?_
            refine aw_draw (id := 6) (n := 18) (by kernel_rfl) [(0, []), (1, []), (2, []), (3, []), (4, []), (5, []), (6, []), (7, []), (8, []), (9, []), (10, []), (11, []), (12, []), (13, []), (14, []), (15, []), (16, []), (17, [])] (by kernel_rfl) ?_
            refine at_seg [(0, []), (1, []), (2, []), (3, []), (4, []), (5, []), (6, []), (7, [])] [(0, rowV rp0 x4.length), (1, .int .i64 p1), (2, .int .i64 p2), (3, .func (.func 74) [] []), (8, .int .i64 x2), (9, .int .i64 x5), (37, rowV rp0 x4.length), (38, .int .i64 x5), (39, rowV rp0 x4.length), (41, .int .i64 (IntKind.i64.wrap (x5 - (1 : Int)))), (42, rowV rp0 x4.length), (44, .int .i64 (IntKind.i64.wrap (x5 - (1 : Int))))] H (noU_all rfl) (fun fr => by kernel_rfl) ?_
            intro fr H
            obtain ⟨x11, hx, hm⟩ := bind_some hm
            obtain ⟨i3, er3, _, hx, hq3⟩ := HH.ixO enc_S_api_Member (by decide) A 0 (xs := x4) rfl hx
            refine at_step (v := .ptr (some (i3, (IntKind.i64.wrap (x5 - (1 : Int))).toNat * 14))) (h1 := h3) [(0, rowV rp0 x4.length), (1, .int .i64 p1), (2, .int .i64 p2), (3, .func (.func 74) [] []), (8, .int .i64 x2), (9, .int .i64 x5), (37, rowV rp0 x4.length), (38, .int .i64 x5), (39, rowV rp0 x4.length), (41, .int .i64 (IntKind.i64.wrap (x5 - (1 : Int)))), (45, .ptr (some (i3, (IntKind.i64.wrap (x5 - (1 : Int))).toNat * 14)))] H (fun fr => by kernel_rfl) (fun fr => .of (s_ixL (s := rowS rp0 x4.length) (by kernel_rfl) hx)) ?_
            intro fr t H
            refine at_step (v := .agg (e_S_api_Member x11)) (h1 := h3) [(0, rowV rp0 x4.length), (1, .int .i64 p1), (2, .int .i64 p2), (3, .func (.func 74) [] []), (8, .int .i64 x2), (9, .int .i64 x5), (37, rowV rp0 x4.length), (38, .int .i64 x5), (39, rowV rp0 x4.length), (41, .int .i64 (IntKind.i64.wrap (x5 - (1 : Int)))), (46, .agg (e_S_api_Member x11))] H (fun fr => by kernel_rfl) (fun fr => .of (s_ldA (by kernel_rfl) (row_ldA enc_S_api_Member (HH.row A 0 rfl er3) hq3 0 14 (Nat.le_of_ble_eq_true rfl)))) ?_
            intro fr t H
            refine at_seg [(10, []), (11, [])] [(0, rowV rp0 x4.length), (1, .int .i64 p1), (2, .int .i64 p2), (3, .func (.func 74) [] []), (8, .int .i64 x2), (9, .int .i64 x5), (37, rowV rp0 x4.length), (38, .int .i64 x5), (39, rowV rp0 x4.length), (41, .int .i64 (IntKind.i64.wrap (x5 - (1 : Int)))), (46, .agg (e_S_api_Member x11)), (47, rowV rp0 x4.length), (48, .int .i64 x5)] H (noU_all rfl) (fun fr => by kernel_rfl) ?_
            intro fr H
            obtain ⟨x12, hx, hm⟩ := bind_some hm
            obtain ⟨i4, er4, _, hx, hq4⟩ := HH.ixO enc_S_api_Member (by decide) A 0 (xs := x4) rfl hx
            refine at_step (v := .ptr (some (i4, x5.toNat * 14))) (h1 := h3) [(0, rowV rp0 x4.length), (1, .int .i64 p1), (2, .int .i64 p2), (3, .func (.func 74) [] []), (8, .int .i64 x2), (9, .int .i64 x5), (37, rowV rp0 x4.length), (38, .int .i64 x5), (39, rowV rp0 x4.length), (41, .int .i64 (IntKind.i64.wrap (x5 - (1 : Int)))), (46, .agg (e_S_api_Member x11)), (49, .ptr (some (i4, x5.toNat * 14)))] H (fun fr => by kernel_rfl) (fun fr => .of (s_ixL (s := rowS rp0 x4.length) (by kernel_rfl) hx)) ?_
            intro fr t H
            refine at_step (v := .agg (e_S_api_Member x12)) (h1 := h3) [(0, rowV rp0 x4.length), (1, .int .i64 p1), (2, .int .i64 p2), (3, .func (.func 74) [] []), (8, .int .i64 x2), (9, .int .i64 x5), (37, rowV rp0 x4.length), (38, .int .i64 x5), (39, rowV rp0 x4.length), (41, .int .i64 (IntKind.i64.wrap (x5 - (1 : Int)))), (46, .agg (e_S_api_Member x11)), (50, .agg (e_S_api_Member x12))] H (fun fr => by kernel_rfl) (fun fr => .of (s_ldA (by kernel_rfl) (row_ldA enc_S_api_Member (HH.row A 0 rfl er4) hq4 0 14 (Nat.le_of_ble_eq_true rfl)))) ?_
            intro fr t H
            obtain ⟨x13, hx, hm⟩ := bind_some hm
            obtain ⟨i5, er5, _, hx, hq5⟩ := HH.ixO enc_S_api_Member (by decide) A 0 (xs := x4) rfl hx
            refine at_step (v := .ptr (some (i5, x5.toNat * 14))) (h1 := h3) [(0, rowV rp0 x4.length), (1, .int .i64 p1), (2, .int .i64 p2), (3, .func (.func 74) [] []), (8, .int .i64 x2), (9, .int .i64 x5), (39, rowV rp0 x4.length), (41, .int .i64 (IntKind.i64.wrap (x5 - (1 : Int)))), (46, .agg (e_S_api_Member x11)), (50, .agg (e_S_api_Member x12)), (51, .ptr (some (i5, x5.toNat * 14)))] H (fun fr => by kernel_rfl) (fun fr => .of (s_ixL (s := rowS rp0 x4.length) (by kernel_rfl) hx)) ?_
            intro fr t H
            obtain ⟨h5, hx, A1⟩ := HH.stO enc_S_api_Member A 0 rfl er5 hq5 (y := x11) (o := 0) (new := [.str x11.Name, .str x11.Link, .int .u8 x11.Kind, .int .i64 x11.Mode, .int .i64 x11.Uid, .int .i64 x11.Gid, .str x11.Uname, .str x11.Gname, .int .i64 x11.Major, .int .i64 x11.Minor, .int .i64 x11.Time.Sec, .int .i64 x11.Time.Nsec, vs e_S_api_Pair x11.Extra, .str x11.Data]) rfl rfl (Nat.le_of_ble_eq_true rfl)
            have hl5 : (x4.set x5.toNat x11).length = p0.length := List.length_set.trans hl3
            have el : rowV rp0 x4.length = rowV rp0 (x4.set x5.toNat x11).length := congrArg _ List.length_set.symm
            try rw [el] at H
            try rw [el] at A1
            replace A : HH g h5 [.lst rp0 63 (lst e_S_api_Member (x4.set x5.toNat x11))] F := A1
            refine at_step (v := .tuple []) (h1 := h5) [(0, rowV rp0 ((x4.set x5.toNat x11).length)), (1, .int .i64 p1), (2, .int .i64 p2), (3, .func (.func 74) [] []), (8, .int .i64 x2), (9, .int .i64 x5), (39, rowV rp0 ((x4.set x5.toNat x11).length)), (41, .int .i64 (IntKind.i64.wrap (x5 - (1 : Int)))), (50, .agg (e_S_api_Member x12))] H (fun fr => by kernel_rfl) (fun fr => .of (s_stG (by kernel_rfl) (stG_st hx rfl))) ?_
            intro fr t H
            obtain ⟨x14, hx, hm⟩ := bind_some hm
            obtain ⟨i6, er6, _, hx, hq6⟩ := HH.ixO enc_S_api_Member (by decide) A 0 (xs := (x4.set x5.toNat x11)) rfl hx
            refine at_step (v := .ptr (some (i6, (IntKind.i64.wrap (x5 - (1 : Int))).toNat * 14))) (h1 := h5) [(0, rowV rp0 ((x4.set x5.toNat x11).length)), (1, .int .i64 p1), (2, .int .i64 p2), (3, .func (.func 74) [] []), (8, .int .i64 x2), (9, .int .i64 x5), (50, .agg (e_S_api_Member x12)), (52, .ptr (some (i6, (IntKind.i64.wrap (x5 - (1 : Int))).toNat * 14)))] H (fun fr => by kernel_rfl) (fun fr => .of (s_ixL (s := rowS rp0 ((x4.set x5.toNat x11).length)) (by kernel_rfl) hx)) ?_
            intro fr t H
            obtain ⟨h6, hx, A1⟩ := HH.stO enc_S_api_Member A 0 rfl er6 hq6 (y := x12) (o := 0) (new := [.str x12.Name, .str x12.Link, .int .u8 x12.Kind, .int .i64 x12.Mode, .int .i64 x12.Uid, .int .i64 x12.Gid, .str x12.Uname, .str x12.Gname, .int .i64 x12.Major, .int .i64 x12.Minor, .int .i64 x12.Time.Sec, .int .i64 x12.Time.Nsec, vs e_S_api_Pair x12.Extra, .str x12.Data]) rfl rfl (Nat.le_of_ble_eq_true rfl)
            have hl6 : ((x4.set x5.toNat x11).set (IntKind.i64.wrap (x5 - (1 : Int))).toNat x12).length = p0.length := List.length_set.trans hl5
            have el : rowV rp0 (x4.set x5.toNat x11).length = rowV rp0 ((x4.set x5.toNat x11).set (IntKind.i64.wrap (x5 - (1 : Int))).toNat x12).length := congrArg _ List.length_set.symm
            try rw [el] at H
            try rw [el] at A1
            replace A : HH g h6 [.lst rp0 63 (lst e_S_api_Member ((x4.set x5.toNat x11).set (IntKind.i64.wrap (x5 - (1 : Int))).toNat x12))] F := A1
            refine at_step (v := .tuple []) (h1 := h6) [(0, rowV rp0 (((x4.set x5.toNat x11).set (IntKind.i64.wrap (x5 - (1 : Int))).toNat x12).length)), (1, .int .i64 p1), (2, .int .i64 p2), (3, .func (.func 74) [] []), (8, .int .i64 x2), (9, .int .i64 x5)] H (fun fr => by kernel_rfl) (fun fr => .of (s_stG (by kernel_rfl) (stG_st hx rfl))) ?_
            intro fr t H
            refine at_nil ?_
            show AW cfg 98 g (right (right (left (left (right (left (left (right (left (left (right (bodyC cfg.P 98)))))))))))) fr h6 _
            refine aw_reg (id := 5) (n := 3) [(0, []), (1, []), (2, [])] (by kernel_rfl) (by kernel_rfl) ?_
            refine at_seg [(0, []), (1, []), (2, [])] [(0, rowV rp0 (((x4.set x5.toNat x11).set (IntKind.i64.wrap (x5 - (1 : Int))).toNat x12).length)), (1, .int .i64 p1), (2, .int .i64 p2), (3, .func (.func 74) [] []), (8, .int .i64 x2), (9, .int .i64 (IntKind.i64.wrap (x5 - (1 : Int))))] H (noU_all rfl) (fun fr => by kernel_rfl) ?_
            intro fr H
            refine at_nil ?_
            exact Exists.intro (((x4.set x5.toNat x11).set (IntKind.i64.wrap (x5 - (1 : Int))).toNat x12), IntKind.i64.wrap (x5 - (1 : Int))) (And.intro (Option.some.inj hm).symm ⟨((x4.set x5.toNat x11).set (IntKind.i64.wrap (x5 - (1 : Int))).toNat x12), IntKind.i64.wrap (x5 - (1 : Int)), rfl, hl6, H.less _ (fun fr => by kernel_rfl), A⟩)
          · replace H := H.know 34 hb (by kernel_rfl)
            refine aw_false (x := .tmp 34) (by kernel_rfl) H (fun fr => by kernel_rfl) ?_
            refine aw_exit (i := 2) (by kernel_rfl) ?_
            exact Exists.intro _ (And.intro (Option.some.inj hm).symm (fun e => Or.inl ⟨x4, rfl, e, hl3, H.less _ (fun fr => by kernel_rfl), A⟩))
      · clear ho
        clear A
        intro e fr h7 hQ
        rcases hQ with ⟨x6, rfl, rfl, hl4, H, A⟩ | hF
        · skip
          show AW cfg 98 g (right (right (left (left (right (bodyC cfg.P 98)))))) fr h7 _
          refine aw_reg (id := 2) (n := 3) [(0, []), (1, []), (2, [])] (by kernel_rfl) (by kernel_rfl) ?_
          refine at_seg [(0, []), (1, []), (2, [])] [(0, rowV rp0 x6.length), (1, .int .i64 p1), (2, .int .i64 p2), (3, .func (.func 74) [] []), (8, .int .i64 (IntKind.i64.wrap (x2 + (1 : Int))))] H (noU_all rfl) (fun fr => by kernel_rfl) ?_
          intro fr H
          refine at_nil ?_
          exact Exists.intro (x6, IntKind.i64.wrap (x2 + (1 : Int))) (And.intro (Option.some.inj hm).symm ⟨x6, IntKind.i64.wrap (x2 + (1 : Int)), rfl, hl4, H.less _ (fun fr => by kernel_rfl), A⟩)
        · exact hF.elim
    · replace H := H.know 14 hb (by kernel_rfl)
      refine aw_false (x := .tmp 14) (by kernel_rfl) H (fun fr => by kernel_rfl) ?_
      refine aw_exit (i := 0) (by kernel_rfl) ?_
      exact Exists.intro _ (And.intro (Option.some.inj hm).symm (fun e => Or.inl ⟨x1, rfl, e, hl1, H.less _ (fun fr => by kernel_rfl), A⟩))
  · clear ho
    clear A
    intro e fr h8 hQ
    rcases hQ with ⟨x3, rfl, rfl, hl2, H, A⟩ | hF
    · skip
      have e1 := Option.some.inj hm
      subst e1
      refine ⟨.inr rfl, .tuple [], resH H (fun fr => by kernel_rfl), ?_⟩
      exact ⟨hl2, rfl, A⟩
    · exact hF.elim
/-! ### slices.stableCmpFunc[boulter/api.Member] -/
noncomputable def M_slices_stableCmpFunc_boulter_api_Member_sOIF_04e2_L0 (p1 : Int) (s : (List S_api_Member) × Int × Int) : Option (((List S_api_Member) × Int × Int) ⊕ (((List S_api_Member) × Int))) :=
  match s with
  | (x1, x2, x3) => iteB (decide (x3 ≤ p1)) ((M_slices_insertionSortCmpFunc_boulter_api_Member_sOIIF_8ba1 x1 x2 x3).bind fun x6 => some (.inl (x6, x3, IntKind.i64.wrap (x3 + (20 : Int))))) (some (.inr (x1, x2)))
noncomputable def M_slices_stableCmpFunc_boulter_api_Member_sOIF_04e2_L2 (p1 : Int) (s : Int × Int) : Option ((Int × Int) ⊕ ((Int))) :=
  match s with
  | (x9, x10) => iteB (decide (x10 ≤ p1)) (none) (some (.inr x9))
noncomputable def M_slices_stableCmpFunc_boulter_api_Member_sOIF_04e2_L1 (p1 : Int) (s : Int) : Option ((Int) ⊕ ((Unit))) :=
  match s with
  | x8 => iteB (decide (x8 < p1)) ((loop (M_slices_stableCmpFunc_boulter_api_Member_sOIF_04e2_L2 p1) ((0 : Int), IntKind.i64.wrap ((2 : Int) * x8))).bind fun x11 => (iteB (decide ((IntKind.i64.wrap (x11 + x8)) < p1)) (none) (some ()) : Option ((Unit))).bind fun _ => some (.inl (IntKind.i64.wrap (x8 * (2 : Int))))) (some (.inr ()))
noncomputable def M_slices_stableCmpFunc_boulter_api_Member_sOIF_04e2 (p0 : List S_api_Member) (p1 : Int) : Option ((List S_api_Member)) :=
 (loop (M_slices_stableCmpFunc_boulter_api_Member_sOIF_04e2_L0 p1) (p0, (0 : Int), (20 : Int))).bind fun (x4, x5) => (M_slices_insertionSortCmpFunc_boulter_api_Member_sOIIF_8ba1 x4 x5 p1).bind fun x7 => (loop (M_slices_stableCmpFunc_boulter_api_Member_sOIF_04e2_L1 p1) (20 : Int)).bind fun _ => some x7
theorem ok_slices_stableCmpFunc_boulter_api_Member_sOIF_04e2 {g : Gd} {h : AHeap} {F : List Ck} {p0 : List S_api_Member} {p1 : Int} {rp0 : Option Nat} {u0 : List S_api_Member} {av : List AVal} (hm : M_slices_stableCmpFunc_boulter_api_Member_sOIF_04e2 p0 p1 = some u0) (hc : canL (cfg.still 82) av = [rowV rp0 p0.length, .int .i64 p1, .func (.func 74) [] []]) (A : HH g h [.lst rp0 63 (lst e_S_api_Member p0)] F) : ∃ v h', Runs cfg g h 82 av v h' ∧ ∃ (hl'0 : u0.length = p0.length), v = .tuple [] ∧ HH g h' [.lst rp0 63 (lst e_S_api_Member u0)] F := by
  refine runsQ1 (n := 63) (rs := []) (by kernel_rfl) hc (by kernel_rfl) ?_
  clear hc
  unfold M_slices_stableCmpFunc_boulter_api_Member_sOIF_04e2 at hm
  refine start (n := 63) [(0, rowV rp0 p0.length), (1, .int .i64 p1), (2, .func (.func 74) [] [])] (by kernel_rfl) (by kernel_rfl) ?_
  intro fr H
  refine aw_seq (by kernel_rfl) ?_
  refine aw_reg (id := 0) (n := 1) [(0, [])] (by kernel_rfl) (by kernel_rfl) ?_
  refine at_seg [(0, [])] [(0, rowV rp0 p0.length), (1, .int .i64 p1), (2, .func (.func 74) [] []), (6, .int .i64 (20 : Int))] H (noU_all rfl) (fun fr => by kernel_rfl) ?_
  intro fr H
  refine at_nil ?_
  show AW cfg 82 g (right (bodyC cfg.P 82)) fr h _
  refine aw_seq (by kernel_rfl) ?_
  refine aw_reg (id := 1) (n := 3) [(0, []), (1, []), (2, [])] (by kernel_rfl) (by kernel_rfl) ?_
  refine at_seg [(0, []), (1, []), (2, [])] [(0, rowV rp0 p0.length), (1, .int .i64 p1), (2, .func (.func 74) [] []), (6, .int .i64 (20 : Int)), (7, .int .i64 (0 : Int)), (8, .int .i64 (20 : Int))] H (noU_all rfl) (fun fr => by kernel_rfl) ?_
  intro fr H
  refine at_nil ?_
  show AW cfg 82 g (right (right (bodyC cfg.P 82))) fr h _
  refine aw_seq (by kernel_rfl) ?_
  refine aw_block (id := 0) (by kernel_rfl) ?_
  obtain ⟨o1, ho, hm⟩ := bind_some hm
  refine aw_mono (Q' := fun e fr' h' => (∃ (x4 : List S_api_Member) (x5 : Int), e = .exit 0 ∧ (x4, x5) = o1 ∧ ∃ (hl2 : x4.length = p0.length), Has fr' 63 [(0, rowV rp0 x4.length), (1, .int .i64 p1), (2, .func (.func 74) [] []), (6, .int .i64 (20 : Int)), (7, .int .i64 x5)] ∧ HH g h' [.lst rp0 63 (lst e_S_api_Member x4)] F) ∨ False) ?_ ?_
  · refine aw_loop (by kernel_rfl) (fun (s : (List S_api_Member) × Int × Int) fr' h' => ∃ (x1 : List S_api_Member) (x2 : Int) (x3 : Int), (x1, x2, x3) = s ∧ ∃ (hl1 : x1.length = p0.length), Has fr' 63 [(0, rowV rp0 x1.length), (1, .int .i64 p1), (2, .func (.func 74) [] []), (6, .int .i64 (20 : Int)), (7, .int .i64 x2), (8, .int .i64 x3)] ∧ HH g h' [.lst rp0 63 (lst e_S_api_Member x1)] F) ho ⟨p0, (0 : Int), (20 : Int), rfl, rfl, H.less _ (fun fr => by kernel_rfl), A⟩ ?_
    clear ho hm H A
    intro s q fr h1 hI hm
    obtain ⟨x1, x2, x3, rfl, hl1, H, A⟩ := hI
    unfold M_slices_stableCmpFunc_boulter_api_Member_sOIF_04e2_L0 at hm
    refine aw_seq (by kernel_rfl) ?_
    refine aw_seq (by kernel_rfl) ?_
    refine aw_reg (id := 2) (n := 3) [(0, []), (1, []), (2, [])] (by kernel_rfl) (by kernel_rfl) ?_
    refine at_seg [(0, []), (1, []), (2, [])] [(0, rowV rp0 x1.length), (1, .int .i64 p1), (2, .func (.func 74) [] []), (6, .int .i64 (20 : Int)), (7, .int .i64 x2), (8, .int .i64 x3), (13, .bool (decide (x3 ≤ p1)))] H (noU_all rfl) (fun fr => by kernel_rfl) ?_
    intro fr H
    refine at_nil ?_
    show AW cfg 82 g (right (left (left (left (left (right (right (bodyC cfg.P 82)))))))) fr h1 _
    rcases iteB_some hm with ⟨hb, hm⟩ | ⟨hb, hm⟩
    · replace H := H.know 13 hb (by kernel_rfl)
      refine aw_true (x := .tmp 13) (by kernel_rfl) H (fun fr => by kernel_rfl) ?_
      refine aw_skip (by kernel_rfl) ?_
      show AW cfg 82 g (right (left (left (left (right (right (bodyC cfg.P 82))))))) fr h1 _
      refine aw_block (id := 1) (by kernel_rfl) ?_
      refine aw_seq (by kernel_rfl) ?_
      refine aw_reg (id := 3) (n := 5) [(0, []), (1, []), (2, []), (3, []), (4, [])] (by kernel_rfl) (by kernel_rfl) ?_
      refine at_seg [(0, []), (1, []), (2, []), (3, [])] [(0, rowV rp0 x1.length), (1, .int .i64 p1), (2, .func (.func 74) [] []), (6, .int .i64 (20 : Int)), (8, .int .i64 x3), (14, rowV rp0 x1.length), (15, .int .i64 x2), (16, .int .i64 x3), (17, .func (.func 74) [] [])] H (noU_all rfl) (fun fr => by kernel_rfl) ?_
      intro fr H
      have A1 := A.cut 1
      obtain ⟨x6, hx, hm⟩ := bind_some hm
      obtain ⟨v1, h2, hr, hl3, rfl, A1⟩ := ok_slices_insertionSortCmpFunc_boulter_api_Member_sOIIF_8ba1 (av := [rowV rp0 x1.length, .int .i64 x2, .int .i64 x3, .func (.func 74) [] []]) hx (by kernel_rfl) A1
      have hl4 : x6.length = p0.length := hl3.trans hl1
      have el : rowV rp0 x1.length = rowV rp0 x6.length := congrArg _ hl3.symm
      try rw [el] at H
      try rw [el] at hr
      try rw [el] at A1
      replace A : HH g h2 [.lst rp0 63 (lst e_S_api_Member x6)] F := A.glue0 (n := 1) A1
      refine at_step (v := .tuple []) (h1 := h2) [(0, rowV rp0 x6.length), (1, .int .i64 p1), (2, .func (.func 74) [] []), (6, .int .i64 (20 : Int)), (8, .int .i64 x3)] H (fun fr => by kernel_rfl) (fun fr => Steps.call (by kernel_rfl) hr) ?_
      intro fr t H
      refine at_nil ?_
      show AW cfg 82 g (right (left (right (left (left (left (right (right (bodyC cfg.P 82))))))))) fr h2 _
      refine aw_seq (by kernel_rfl) ?_
      refine aw_reg (id := 4) (n := 2) [(0, []), (1, [])] (by kernel_rfl) (by kernel_rfl) ?_
      refine at_seg [(0, []), (1, [])] [(0, rowV rp0 x6.length), (1, .int .i64 p1), (2, .func (.func 74) [] []), (6, .int .i64 (20 : Int)), (7, .int .i64 x3), (8, .int .i64 x3)] H (noU_all rfl) (fun fr => by kernel_rfl) ?_
      intro fr H
      refine at_nil ?_
      show AW cfg 82 g (right (right (left (right (left (left (left (right (right (bodyC cfg.P 82)))))))))) fr h2 _
      refine aw_reg (id := 5) (n := 4) [(0, []), (1, []), (2, []), (3, [])] (by kernel_rfl) (by kernel_rfl) ?_
      refine at_seg [(0, []), (1, []), (2, []), (3, [])] [(0, rowV rp0 x6.length), (1, .int .i64 p1), (2, .func (.func 74) [] []), (6, .int .i64 (20 : Int)), (7, .int .i64 x3), (8, .int .i64 (IntKind.i64.wrap (x3 + (20 : Int))))] H (noU_all rfl) (fun fr => by kernel_rfl) ?_
      intro fr H
      refine at_nil ?_
      exact Exists.intro (x6, x3, IntKind.i64.wrap (x3 + (20 : Int))) (And.intro (Option.some.inj hm).symm ⟨x6, x3, IntKind.i64.wrap (x3 + (20 : Int)), rfl, hl4, H.less _ (fun fr => by kernel_rfl), A⟩)
    · replace H := H.know 13 hb (by kernel_rfl)
      refine aw_false (x := .tmp 13) (by kernel_rfl) H (fun fr => by kernel_rfl) ?_
      refine aw_exit (i := 0) (by kernel_rfl) ?_
      exact Exists.intro _ (And.intro (Option.some.inj hm).symm (fun e => Or.inl ⟨x1, x2, rfl, e, hl1, H.less _ (fun fr => by kernel_rfl), A⟩))
  · clear ho
    clear A
    intro e fr h3 hQ
    rcases hQ with ⟨x4, x5, rfl, rfl, hl2, H, A⟩ | hF
    · skip
      show AW cfg 82 g (right (right (right (bodyC cfg.P 82)))) fr h3 _
      refine aw_seq (by kernel_rfl) ?_
      refine aw_reg (id := 6) (n := 5) [(0, []), (1, []), (2, []), (3, []), (4, [])] (by kernel_rfl) (by kernel_rfl) ?_
      refine at_seg [(0, []), (1, []), (2, []), (3, [])] [(0, rowV rp0 x4.length), (1, .int .i64 p1), (2, .func (.func 74) [] []), (6, .int .i64 (20 : Int)), (23, rowV rp0 x4.length), (24, .int .i64 x5), (25, .int .i64 p1), (26, .func (.func 74) [] [])] H (noU_all rfl) (fun fr => by kernel_rfl) ?_
      intro fr H
      have A1 := A.cut 1
      obtain ⟨x7, hx, hm⟩ := bind_some hm
      obtain ⟨v1, h4, hr, hl5, rfl, A1⟩ := ok_slices_insertionSortCmpFunc_boulter_api_Member_sOIIF_8ba1 (av := [rowV rp0 x4.length, .int .i64 x5, .int .i64 p1, .func (.func 74) [] []]) hx (by kernel_rfl) A1
      have hl6 : x7.length = p0.length := hl5.trans hl2
      have el : rowV rp0 x4.length = rowV rp0 x7.length := congrArg _ hl5.symm
      try rw [el] at H
      try rw [el] at hr
      try rw [el] at A1
      replace A : HH g h4 [.lst rp0 63 (lst e_S_api_Member x7)] F := A.glue0 (n := 1) A1
      refine at_step (v := .tuple []) (h1 := h4) [(0, rowV rp0 x7.length), (1, .int .i64 p1), (2, .func (.func 74) [] []), (6, .int .i64 (20 : Int))] H (fun fr => by kernel_rfl) (fun fr => Steps.call (by kernel_rfl) hr) ?_
      intro fr t H
      refine at_nil ?_
      show AW cfg 82 g (right (right (right (right (bodyC cfg.P 82))))) fr h4 _
      refine aw_block (id := 2) (by kernel_rfl) ?_
      obtain ⟨o2, ho, hm⟩ := bind_some hm
      refine aw_mono (Q' := fun e fr' h' => (e = .exit 2 ∧ () = o2 ∧ Has fr' 63 [] ∧ HH g h' [.lst rp0 63 (lst e_S_api_Member x7)] F) ∨ False) ?_ ?_
      · refine aw_loop (by kernel_rfl) (fun (s : Int) fr' h' => ∃ (x8 : Int), x8 = s ∧ Has fr' 63 [(0, rowV rp0 x7.length), (1, .int .i64 p1), (2, .func (.func 74) [] []), (6, .int .i64 x8)] ∧ HH g h' [.lst rp0 63 (lst e_S_api_Member x7)] F) ho ⟨(20 : Int), rfl, H.less _ (fun fr => by kernel_rfl), A⟩ ?_
        clear ho hm H A
        intro s q fr h5 hI hm
        obtain ⟨x8, rfl, H, A⟩ := hI
        unfold M_slices_stableCmpFunc_boulter_api_Member_sOIF_04e2_L1 at hm
        refine aw_seq (by kernel_rfl) ?_
        refine aw_seq (by kernel_rfl) ?_
        refine aw_reg (id := 7) (n := 3) [(0, []), (1, []), (2, [])] (by kernel_rfl) (by kernel_rfl) ?_
        refine at_seg [(0, []), (1, []), (2, [])] [(0, rowV rp0 x7.length), (1, .int .i64 p1), (2, .func (.func 74) [] []), (6, .int .i64 x8), (30, .bool (decide (x8 < p1)))] H (noU_all rfl) (fun fr => by kernel_rfl) ?_
        intro fr H
        refine at_nil ?_
        show AW cfg 82 g (right (left (left (left (right (right (right (right (bodyC cfg.P 82))))))))) fr h5 _
        rcases iteB_some hm with ⟨hb, hm⟩ | ⟨hb, hm⟩
        · replace H := H.know 30 hb (by kernel_rfl)
          refine aw_true (x := .tmp 30) (by kernel_rfl) H (fun fr => by kernel_rfl) ?_
          refine aw_skip (by kernel_rfl) ?_
          show AW cfg 82 g (right (left (left (right (right (right (right (bodyC cfg.P 82)))))))) fr h5 _
          refine aw_block (id := 3) (by kernel_rfl) ?_
          refine aw_seq (by kernel_rfl) ?_
          refine aw_reg (id := 8) (n := 4) [(0, []), (1, []), (2, []), (3, [])] (by kernel_rfl) (by kernel_rfl) ?_
          refine at_seg [(0, []), (1, []), (2, []), (3, [])] [(0, rowV rp0 x7.length), (1, .int .i64 p1), (2, .func (.func 74) [] []), (6, .int .i64 x8), (7, .int .i64 (0 : Int)), (8, .int .i64 (IntKind.i64.wrap ((2 : Int) * x8)))] H (noU_all rfl) (fun fr => by kernel_rfl) ?_
          intro fr H
          refine at_nil ?_
          show AW cfg 82 g (right (left (right (left (left (right (right (right (right (bodyC cfg.P 82)))))))))) fr h5 _
          refine aw_seq (by kernel_rfl) ?_
          refine aw_block (id := 4) (by kernel_rfl) ?_
          obtain ⟨o3, ho, hm⟩ := bind_some hm
          refine aw_mono (Q' := fun e fr' h' => (∃ (x11 : Int), e = .exit 4 ∧ x11 = o3 ∧ Has fr' 63 [(0, rowV rp0 x7.length), (1, .int .i64 p1), (2, .func (.func 74) [] []), (6, .int .i64 x8), (7, .int .i64 x11)] ∧ HH g h' [.lst rp0 63 (lst e_S_api_Member x7)] F) ∨ False) ?_ ?_
          · refine aw_loop (by kernel_rfl) (fun (s : Int × Int) fr' h' => ∃ (x9 : Int) (x10 : Int), (x9, x10) = s ∧ Has fr' 63 [(0, rowV rp0 x7.length), (1, .int .i64 p1), (2, .func (.func 74) [] []), (6, .int .i64 x8), (7, .int .i64 x9), (8, .int .i64 x10)] ∧ HH g h' [.lst rp0 63 (lst e_S_api_Member x7)] F) ho ⟨(0 : Int), IntKind.i64.wrap ((2 : Int) * x8), rfl, H.less _ (fun fr => by kernel_rfl), A⟩ ?_
            clear ho hm H A
            intro s q fr h6 hI hm
            obtain ⟨x9, x10, rfl, H, A⟩ := hI
            unfold M_slices_stableCmpFunc_boulter_api_Member_sOIF_04e2_L2 at hm
            refine aw_seq (by kernel_rfl) ?_
            refine aw_seq (by kernel_rfl) ?_
            refine aw_reg (id := 9) (n := 3) [(0, []), (1, []), (2, [])] (by kernel_rfl) (by kernel_rfl) ?_
            refine at_seg [(0, []), (1, []), (2, [])] [(0, rowV rp0 x7.length), (1, .int .i64 p1), (2, .func (.func 74) [] []), (6, .int .i64 x8), (7, .int .i64 x9), (8, .int .i64 x10), (35, .bool (decide (x10 ≤ p1)))] H (noU_all rfl) (fun fr => by kernel_rfl) ?_
            intro fr H
            refine at_nil ?_
            show AW cfg 82 g (right (left (left (left (left (right (left (right (left (left (right (right (right (right (bodyC cfg.P 82))))))))))))))) fr h6 _
            rcases iteB_some hm with ⟨hb, hm⟩ | ⟨hb, hm⟩
            · replace H := H.know 35 hb (by kernel_rfl)
              refine aw_true (x := .tmp 35) (by kernel_rfl) H (fun fr => by kernel_rfl) ?_
              refine aw_skip (by kernel_rfl) ?_
              show AW cfg 82 g (right (left (left (left (right (left (right (left (left (right (right (right (right (bodyC cfg.P 82)))))))))))))) fr h6 _
              refine aw_block (id := 5) (by kernel_rfl) ?_
              refine aw_seq (by kernel_rfl) ?_
              refine aw_reg (id := 10) (n := 8) [(0, []), (1, []), (2, []), (3, []), (4, []), (5, []), (6, []), (7, [])] (by kernel_rfl) (by kernel_rfl) ?_
              refine at_seg [(0, []), (1, []), (2, []), (3, []), (4, []), (5, []), (6, [])] [(0, rowV rp0 x7.length), (1, .int .i64 p1), (2, .func (.func 74) [] []), (6, .int .i64 x8), (8, .int .i64 x10), (36, rowV rp0 x7.length), (37, .int .i64 x9), (40, .int .i64 (IntKind.i64.wrap (x9 + x8))), (41, .int .i64 x10), (42, .func (.func 74) [] [])] H (noU_all rfl) (fun fr => by kernel_rfl) ?_
              intro fr H
              cases hm
            · replace H := H.know 35 hb (by kernel_rfl)
              refine aw_false (x := .tmp 35) (by kernel_rfl) H (fun fr => by kernel_rfl) ?_
              refine aw_exit (i := 4) (by kernel_rfl) ?_
              exact Exists.intro _ (And.intro (Option.some.inj hm).symm (fun e => Or.inl ⟨x9, rfl, e, H.less _ (fun fr => by kernel_rfl), A⟩))
          · clear ho
            clear A
            intro e fr h7 hQ
            rcases hQ with ⟨x11, rfl, rfl, H, A⟩ | hF
            · skip
              show AW cfg 82 g (right (right (left (right (left (left (right (right (right (right (bodyC cfg.P 82))))))))))) fr h7 _
              refine aw_seq (by kernel_rfl) ?_
              obtain ⟨o4, ho, hm⟩ := bind_some hm
              refine aw_mono (Q' := fun e fr' h' => (e = .normal ∧ () = o4 ∧ Has fr' 63 [(0, rowV rp0 x7.length), (1, .int .i64 p1), (2, .func (.func 74) [] []), (6, .int .i64 x8)] ∧ HH g h' [.lst rp0 63 (lst e_S_api_Member x7)] F) ∨ False) ?_ ?_
              · replace hm := ho
                clear ho
                refine aw_seq (by kernel_rfl) ?_
                refine aw_reg (id := 13) (n := 4) [(0, []), (1, []), (2, []), (3, [])] (by kernel_rfl) (by kernel_rfl) ?_
                refine at_seg [(0, []), (1, []), (2, []), (3, [])] [(0, rowV rp0 x7.length), (1, .int .i64 p1), (2, .func (.func 74) [] []), (6, .int .i64 x8), (7, .int .i64 x11), (9, .int .i64 (IntKind.i64.wrap (x11 + x8)))] H (noU_all rfl) (fun fr => by kernel_rfl) ?_
                intro fr H
                refine at_nil ?_
                show AW cfg 82 g (right (left (right (right (left (right (left (left (right (right (right (right (bodyC cfg.P 82))))))))))))) fr h7 _
                refine aw_seq (by kernel_rfl) ?_
                refine aw_reg (id := 14) (n := 3) [(0, []), (1, []), (2, [])] (by kernel_rfl) (by kernel_rfl) ?_
                refine at_seg [(0, []), (1, []), (2, [])] [(0, rowV rp0 x7.length), (1, .int .i64 p1), (2, .func (.func 74) [] []), (6, .int .i64 x8), (7, .int .i64 x11), (9, .int .i64 (IntKind.i64.wrap (x11 + x8))), (54, .bool (decide ((IntKind.i64.wrap (x11 + x8)) < p1)))] H (noU_all rfl) (fun fr => by kernel_rfl) ?_
                intro fr H
                refine at_nil ?_
                show AW cfg 82 g (right (right (left (right (right (left (right (left (left (right (right (right (right (bodyC cfg.P 82)))))))))))))) fr h7 _
                rcases iteB_some hm with ⟨hb, hm⟩ | ⟨hb, hm⟩
                · replace H := H.know 54 hb (by kernel_rfl)
                  refine aw_true (x := .tmp 54) (by kernel_rfl) H (fun fr => by kernel_rfl) ?_
                  refine aw_reg (id := 15) (n := 6) [(0, []), (1, []), (2, []), (3, []), (4, []), (5, [])] (by kernel_rfl) (by kernel_rfl) ?_
                  refine at_seg [(0, []), (1, []), (2, []), (3, []), (4, [])] [(0, rowV rp0 x7.length), (1, .int .i64 p1), (2, .func (.func 74) [] []), (6, .int .i64 x8), (55, rowV rp0 x7.length), (56, .int .i64 x11), (57, .int .i64 (IntKind.i64.wrap (x11 + x8))), (58, .int .i64 p1), (59, .func (.func 74) [] [])] H (noU_all rfl) (fun fr => by kernel_rfl) ?_
                  intro fr H
                  cases hm
                · replace H := H.know 54 hb (by kernel_rfl)
                  refine aw_false (x := .tmp 54) (by kernel_rfl) H (fun fr => by kernel_rfl) ?_
                  refine aw_skip (by kernel_rfl) ?_
                  exact Or.inl ⟨rfl, Option.some.inj hm, H.less _ (fun fr => by kernel_rfl), A⟩
              · clear ho
                clear A
                intro e fr h8 hQ
                rcases hQ with ⟨rfl, rfl, H, A⟩ | hF
                · skip
                  show AW cfg 82 g (right (right (right (left (right (left (left (right (right (right (right (bodyC cfg.P 82)))))))))))) fr h8 _
                  refine aw_reg (id := 16) (n := 3) [(0, []), (1, []), (2, [])] (by kernel_rfl) (by kernel_rfl) ?_
                  refine at_seg [(0, []), (1, []), (2, [])] [(0, rowV rp0 x7.length), (1, .int .i64 p1), (2, .func (.func 74) [] []), (6, .int .i64 (IntKind.i64.wrap (x8 * (2 : Int))))] H (noU_all rfl) (fun fr => by kernel_rfl) ?_
                  intro fr H
                  refine at_nil ?_
                  exact Exists.intro (IntKind.i64.wrap (x8 * (2 : Int))) (And.intro (Option.some.inj hm).symm ⟨IntKind.i64.wrap (x8 * (2 : Int)), rfl, H.less _ (fun fr => by kernel_rfl), A⟩)
                · exact hF.elim
            · exact hF.elim
        · replace H := H.know 30 hb (by kernel_rfl)
          refine aw_false (x := .tmp 30) (by kernel_rfl) H (fun fr => by kernel_rfl) ?_
          refine aw_exit (i := 2) (by kernel_rfl) ?_
          exact Exists.intro _ (And.intro (Option.some.inj hm).symm (fun e => Or.inl ⟨rfl, e, H.less _ (fun fr => by kernel_rfl), A⟩))
      · clear ho
        clear A
        intro e fr h9 hQ
        rcases hQ with ⟨rfl, rfl, H, A⟩ | hF
        · skip
          have e1 := Option.some.inj hm
          subst e1
          refine ⟨.inr rfl, .tuple [], resH H (fun fr => by kernel_rfl), ?_⟩
          exact ⟨hl6, rfl, A⟩
        · exact hF.elim
    · exact hF.elim
/-! ### slices.SortStableFunc[[]boulter/api.Member,boulter/api.Member] -/
noncomputable def M_slices_SortStableFunc_boulter_api_Member_boulter_api_Member_sOF_c496 (p0 : List S_api_Member) : Option ((List S_api_Member)) :=
 (M_slices_stableCmpFunc_boulter_api_Member_sOIF_04e2 p0 (p0.length : Int)).bind fun x1 => some x1
theorem ok_slices_SortStableFunc_boulter_api_Member_boulter_api_Member_sOF_c496 {g : Gd} {h : AHeap} {F : List Ck} {p0 : List S_api_Member} {rp0 : Option Nat} {u0 : List S_api_Member} {av : List AVal} (hm : M_slices_SortStableFunc_boulter_api_Member_boulter_api_Member_sOF_c496 p0 = some u0) (hc : canL (cfg.still 73) av = [rowV rp0 p0.length, .func (.func 74) [] []]) (A : HH g h [.lst rp0 63 (lst e_S_api_Member p0)] F) : ∃ v h', Runs cfg g h 73 av v h' ∧ ∃ (hl'0 : u0.length = p0.length), v = .tuple [] ∧ HH g h' [.lst rp0 63 (lst e_S_api_Member u0)] F := by
  refine runsQ1 (n := 9) (rs := []) (by kernel_rfl) hc (by kernel_rfl) ?_
  clear hc
  unfold M_slices_SortStableFunc_boulter_api_Member_boulter_api_Member_sOF_c496 at hm
  refine start (n := 9) [(0, rowV rp0 p0.length), (1, .func (.func 74) [] [])] (by kernel_rfl) (by kernel_rfl) ?_
  intro fr H
  refine aw_reg (id := 0) (n := 5) [(0, []), (1, []), (2, []), (3, []), (4, [])] (by kernel_rfl) (by kernel_rfl) ?_
  refine at_seg [(0, []), (1, []), (2, []), (3, [])] [(4, rowV rp0 p0.length), (6, .int .i64 (p0.length : Int)), (7, .func (.func 74) [] [])] H (noU_all rfl) (fun fr => by kernel_rfl) ?_
  intro fr H
  have A1 := A.cut 1
  obtain ⟨x1, hx, hm⟩ := bind_some hm
  obtain ⟨v1, h1, hr, hl1, rfl, A1⟩ := ok_slices_stableCmpFunc_boulter_api_Member_sOIF_04e2 (av := [rowV rp0 p0.length, .int .i64 (p0.length : Int), .func (.func 74) [] []]) hx (by kernel_rfl) A1
  have hl2 : x1.length = p0.length := hl1
  have el : rowV rp0 p0.length = rowV rp0 x1.length := congrArg _ hl1.symm
  try rw [el] at H
  try rw [el] at hr
  try rw [el] at A1
  replace A : HH g h1 [.lst rp0 63 (lst e_S_api_Member x1)] F := A.glue0 (n := 1) A1
  refine at_step (v := .tuple []) (h1 := h1) [] H (fun fr => by kernel_rfl) (fun fr => Steps.call (by kernel_rfl) hr) ?_
  intro fr t H
  refine at_nil ?_
  have e1 := Option.some.inj hm
  subst e1
  refine ⟨.inr rfl, .tuple [], resH H (fun fr => by kernel_rfl), ?_⟩
  exact ⟨hl2, rfl, A⟩
end Go.Av.L
