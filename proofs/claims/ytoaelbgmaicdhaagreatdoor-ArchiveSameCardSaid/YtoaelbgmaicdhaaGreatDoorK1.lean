/-
 Models of functions, and that the abstract run tells them. Written by lift2.py.
-/
import Derived.Test.YtoaelbgmaicdhaaGreatDoorKCfg
import Derived.Test.YtoaelbgmaicdhaaGreatDoorK0
namespace Go.Av.L
open Go.Av Go.Lib
set_option maxRecDepth 10000
set_option linter.unusedVariables false
set_option linter.unusedSimpArgs false
/-! ### boulter/boulterref06.Same -/
noncomputable def M_boulterref06_Same_L0 (p0 : List S_api_Pair) (p1 : List S_api_Pair) (s : Int) : Option ((Int) ⊕ ((Unit) ⊕ (Bool))) :=
 match s with
 | x1 => iteB (decide (x1 < (p0.length : Int))) ((ixV p0 x1).bind fun x3 => (ixV p1 x1).bind fun x4 => (eqG cfg.P 40 [.str x3.Key, .str x3.Value] [.str x4.Key, .str x4.Value]).bind fun x5 => iteB (!x5) (some (.inr (.inr false))) (some (.inl (IntKind.i64.wrap (x1 + (1 : Int)))))) (some (.inr (.inl ())))
noncomputable def M_boulterref06_Same (p0 : List S_api_Pair) (p1 : List S_api_Pair) : Option (Bool) :=
 iteB ((p0.length : Int) != (p1.length : Int)) (some false) ((loop (M_boulterref06_Same_L0 p0 p1) (0 : Int)).bind fun o1 => (match o1 with | .inl _ => some true | .inr x2 => some x2))
theorem ok_boulterref06_Same {g : Gd} {h : AHeap} {F : List Ck} {p0 : List S_api_Pair} {p1 : List S_api_Pair} {q0 : Bool} {av : List AVal} (hm : M_boulterref06_Same p0 p1 = some q0) (hc : canL (cfg.still 13) av = [vs e_S_api_Pair p0, vs e_S_api_Pair p1]) (A : HH g h [] F) : ∃ v h', Runs cfg g h 13 av v h' ∧ v = .bool q0 ∧ HH g h' [] F := by
 refine runsQ1 (n := 26) (rs := [.tmp 4]) (by kernel_rfl) hc (by kernel_rfl) ?_
 clear hc
 unfold M_boulterref06_Same at hm
 refine start (n := 26) [(0, vs e_S_api_Pair p0), (1, vs e_S_api_Pair p1)] (by kernel_rfl) (by kernel_rfl) ?_
 intro fr H
 refine aw_seq (by kernel_rfl) ?_
 refine aw_reg (id := 0) (n := 1) [(0, [])] (by kernel_rfl) (by kernel_rfl) ?_
 refine at_seg [(0, [])] [(0, vs e_S_api_Pair p0), (1, vs e_S_api_Pair p1)] H (noU_all rfl) (fun fr => by kernel_rfl) ?_
 intro fr H
 refine at_nil ?_
 show AW cfg 13 g (right (bodyC cfg.P 13)) fr h _
 refine aw_seq (by kernel_rfl) ?_
 refine aw_seq (by kernel_rfl) ?_
 refine aw_reg (id := 1) (n := 5) [(0, []), (1, []), (2, []), (3, []), (4, [])] (by kernel_rfl) (by kernel_rfl) ?_
 refine at_seg [(0, []), (1, []), (2, []), (3, []), (4, [])] [(0, vs e_S_api_Pair p0), (1, vs e_S_api_Pair p1), (10, .bool ((p0.length : Int) != (p1.length : Int)))] H (noU_all rfl) (fun fr => by kernel_rfl) ?_
 intro fr H
 refine at_nil ?_
 show AW cfg 13 g (right (left (right (bodyC cfg.P 13)))) fr h _
 rcases iteB_some hm with ⟨hb, hm⟩ | ⟨hb, hm⟩
 ·replace H := H.know 10 hb (by kernel_rfl)
  refine aw_true (x := .tmp 10) (by kernel_rfl) H (fun fr => by kernel_rfl) ?_
  refine aw_seq (by kernel_rfl) ?_
  refine aw_reg (id := 2) (n := 1) [(0, [])] (by kernel_rfl) (by kernel_rfl) ?_
  refine at_seg [(0, [])] [(4, .bool false)] H (noU_all rfl) (fun fr => by kernel_rfl) ?_
  intro fr H
  refine at_nil ?_
  show AW cfg 13 g (right (left (right (left (right (bodyC cfg.P 13)))))) fr h _
  refine aw_ret (by kernel_rfl) ?_
  have e1 := Option.some.inj hm
  subst e1
  refine ⟨.inl rfl, .bool false, resH H (fun fr => by kernel_rfl), ?_⟩
  exact ⟨rfl, A⟩
 ·replace H := H.know 10 hb (by kernel_rfl)
  refine aw_false (x := .tmp 10) (by kernel_rfl) H (fun fr => by kernel_rfl) ?_
  refine aw_skip (by kernel_rfl) ?_
  show AW cfg 13 g (right (right (bodyC cfg.P 13))) fr h _
  refine aw_seq (by kernel_rfl) ?_
  refine aw_seq (by kernel_rfl) ?_
  refine aw_reg (id := 3) (n := 1) [(0, [])] (by kernel_rfl) (by kernel_rfl) ?_
  refine at_seg [(0, [])] [(0, vs e_S_api_Pair p0), (1, vs e_S_api_Pair p1), (5, .int .i64 (0 : Int))] H (noU_all rfl) (fun fr => by kernel_rfl) ?_
  intro fr H
  refine at_nil ?_
  show AW cfg 13 g (right (left (right (right (bodyC cfg.P 13))))) fr h _
  refine aw_block (id := 0) (by kernel_rfl) ?_
  obtain ⟨o1, ho, hm⟩ := bind_some hm
  refine aw_mono (Q' := fun e fr' h' => (e = .exit 0 ∧ .inl () = o1 ∧ Has fr' 26 [] ∧ HH g h' [] F) ∨ (∃ (x2 : Bool), e = .ret ∧ .inr x2 = o1 ∧ Has fr' 26 [(4, .bool x2)] ∧ HH g h' [] F) ∨ False) ?_ ?_
  ·refine aw_loop (by kernel_rfl) (fun (s : Int) fr' h' => ∃ (x1 : Int), x1 = s ∧ Has fr' 26 [(0, vs e_S_api_Pair p0), (1, vs e_S_api_Pair p1), (5, .int .i64 x1)] ∧ HH g h' [] F) ho ⟨(0 : Int), rfl, H.less _ (fun fr => by kernel_rfl), A⟩ ?_
   clear ho hm H A
   intro s q fr h1 hI hm
   obtain ⟨x1, rfl, H, A⟩ := hI
   unfold M_boulterref06_Same_L0 at hm
   refine aw_seq (by kernel_rfl) ?_
   refine aw_seq (by kernel_rfl) ?_
   refine aw_reg (id := 4) (n := 4) [(0, []), (1, []), (2, []), (3, [])] (by kernel_rfl) (by kernel_rfl) ?_
   refine at_seg [(0, []), (1, []), (2, []), (3, [])] [(0, vs e_S_api_Pair p0), (1, vs e_S_api_Pair p1), (5, .int .i64 x1), (14, .bool (decide (x1 < (p0.length : Int))))] H (noU_all rfl) (fun fr => by kernel_rfl) ?_
   intro fr H
   refine at_nil ?_
   show AW cfg 13 g (right (left (left (left (right (left (right (right (bodyC cfg.P 13))))))))) fr h1 _
   rcases iteB_some hm with ⟨hb, hm⟩ | ⟨hb, hm⟩
   ·replace H := H.know 14 hb (by kernel_rfl)
    refine aw_true (x := .tmp 14) (by kernel_rfl) H (fun fr => by kernel_rfl) ?_
    refine aw_skip (by kernel_rfl) ?_
    show AW cfg 13 g (right (left (left (right (left (right (right (bodyC cfg.P 13)))))))) fr h1 _
    refine aw_seq (by kernel_rfl) ?_
    refine aw_block (id := 1) (by kernel_rfl) ?_
    refine aw_seq (by kernel_rfl) ?_
    refine aw_draw (id := 6) (n := 9) (by kernel_rfl) [(0, []), (1, []), (2, []), (3, []), (4, []), (5, []), (6, []), (7, []), (8, [])] (by kernel_rfl) ?_
    refine at_seg [(0, []), (1, [])] [(0, vs e_S_api_Pair p0), (1, vs e_S_api_Pair p1), (5, .int .i64 x1), (17, vs e_S_api_Pair p0), (18, .int .i64 x1)] H (noU_all rfl) (fun fr => by kernel_rfl) ?_
    intro fr H
    obtain ⟨x3, hx, hm⟩ := bind_some hm
    refine at_step (v := .vptr [.str x3.Key, .str x3.Value]) (h1 := h1) [(0, vs e_S_api_Pair p0), (1, vs e_S_api_Pair p1), (5, .int .i64 x1), (19, .vptr [.str x3.Key, .str x3.Value])] H (fun fr => by kernel_rfl) (fun fr => .of (s_ixV (e := e_S_api_Pair) (x := x3) enc_S_api_Pair (by decide) (by kernel_rfl) hx)) ?_
    intro fr t H
    refine at_step (v := .agg [.str x3.Key, .str x3.Value]) (h1 := h1) [(0, vs e_S_api_Pair p0), (1, vs e_S_api_Pair p1), (5, .int .i64 x1), (20, .agg [.str x3.Key, .str x3.Value])] H (fun fr => by kernel_rfl) (fun fr => .of (s_lv (by kernel_rfl))) ?_
    intro fr t H
    refine at_seg [(4, []), (5, [])] [(0, vs e_S_api_Pair p0), (1, vs e_S_api_Pair p1), (5, .int .i64 x1), (20, .agg [.str x3.Key, .str x3.Value]), (21, vs e_S_api_Pair p1), (22, .int .i64 x1)] H (noU_all rfl) (fun fr => by kernel_rfl) ?_
    intro fr H
    obtain ⟨x4, hx, hm⟩ := bind_some hm
    refine at_step (v := .vptr [.str x4.Key, .str x4.Value]) (h1 := h1) [(0, vs e_S_api_Pair p0), (1, vs e_S_api_Pair p1), (5, .int .i64 x1), (20, .agg [.str x3.Key, .str x3.Value]), (23, .vptr [.str x4.Key, .str x4.Value])] H (fun fr => by kernel_rfl) (fun fr => .of (s_ixV (e := e_S_api_Pair) (x := x4) enc_S_api_Pair (by decide) (by kernel_rfl) hx)) ?_
    intro fr t H
    refine at_step (v := .agg [.str x4.Key, .str x4.Value]) (h1 := h1) [(0, vs e_S_api_Pair p0), (1, vs e_S_api_Pair p1), (5, .int .i64 x1), (20, .agg [.str x3.Key, .str x3.Value]), (24, .agg [.str x4.Key, .str x4.Value])] H (fun fr => by kernel_rfl) (fun fr => .of (s_lv (by kernel_rfl))) ?_
    intro fr t H
    obtain ⟨x5, hx, hm⟩ := bind_some hm
    refine at_step (v := .bool (!x5)) (h1 := h1) [(0, vs e_S_api_Pair p0), (1, vs e_S_api_Pair p1), (5, .int .i64 x1), (25, .bool (!x5))] H (fun fr => by kernel_rfl) (fun fr => .of (s_neG (by kernel_rfl) hx)) ?_
    intro fr t H
    refine at_nil ?_
    show AW cfg 13 g (right (left (left (right (left (left (right (left (right (right (bodyC cfg.P 13))))))))))) fr h1 _
    rcases iteB_some hm with ⟨hb, hm⟩ | ⟨hb, hm⟩
    ·replace H := H.know 25 hb (by kernel_rfl)
     refine aw_true (x := .tmp 25) (by kernel_rfl) H (fun fr => by kernel_rfl) ?_
     refine aw_seq (by kernel_rfl) ?_
     refine aw_reg (id := 7) (n := 1) [(0, [])] (by kernel_rfl) (by kernel_rfl) ?_
     refine at_seg [(0, [])] [(4, .bool false)] H (noU_all rfl) (fun fr => by kernel_rfl) ?_
     intro fr H
     refine at_nil ?_
     show AW cfg 13 g (right (left (right (left (left (right (left (left (right (left (right (right (bodyC cfg.P 13))))))))))))) fr h1 _
     refine aw_ret (by kernel_rfl) ?_
     exact Exists.intro _ (And.intro (Option.some.inj hm).symm (fun e => Or.inr (Or.inl ⟨false, rfl, e, H.less _ (fun fr => by kernel_rfl), A⟩)))
    ·replace H := H.know 25 hb (by kernel_rfl)
     refine aw_false (x := .tmp 25) (by kernel_rfl) H (fun fr => by kernel_rfl) ?_
     refine aw_skip (by kernel_rfl) ?_
     show AW cfg 13 g (right (right (left (left (right (left (right (right (bodyC cfg.P 13))))))))) fr h1 _
     refine aw_reg (id := 5) (n := 3) [(0, []), (1, []), (2, [])] (by kernel_rfl) (by kernel_rfl) ?_
     refine at_seg [(0, []), (1, []), (2, [])] [(0, vs e_S_api_Pair p0), (1, vs e_S_api_Pair p1), (5, .int .i64 (IntKind.i64.wrap (x1 + (1 : Int))))] H (noU_all rfl) (fun fr => by kernel_rfl) ?_
     intro fr H
     refine at_nil ?_
     exact Exists.intro (IntKind.i64.wrap (x1 + (1 : Int))) (And.intro (Option.some.inj hm).symm ⟨IntKind.i64.wrap (x1 + (1 : Int)), rfl, H.less _ (fun fr => by kernel_rfl), A⟩)
   ·replace H := H.know 14 hb (by kernel_rfl)
    refine aw_false (x := .tmp 14) (by kernel_rfl) H (fun fr => by kernel_rfl) ?_
    refine aw_exit (i := 0) (by kernel_rfl) ?_
    exact Exists.intro _ (And.intro (Option.some.inj hm).symm (fun e => Or.inl ⟨rfl, e, H.less _ (fun fr => by kernel_rfl), A⟩))
  ·clear ho
   clear A
   intro e fr h2 hQ
   rcases hQ with ⟨rfl, rfl, H, A⟩ | ⟨x2, rfl, rfl, H, A⟩ | hF
   ·skip
    show AW cfg 13 g (right (right (right (bodyC cfg.P 13)))) fr h2 _
    refine aw_seq (by kernel_rfl) ?_
    refine aw_reg (id := 8) (n := 1) [(0, [])] (by kernel_rfl) (by kernel_rfl) ?_
    refine at_seg [(0, [])] [(4, .bool true)] H (noU_all rfl) (fun fr => by kernel_rfl) ?_
    intro fr H
    refine at_nil ?_
    show AW cfg 13 g (right (right (right (right (bodyC cfg.P 13))))) fr h2 _
    refine aw_ret (by kernel_rfl) ?_
    have e1 := Option.some.inj hm
    subst e1
    refine ⟨.inl rfl, .bool true, resH H (fun fr => by kernel_rfl), ?_⟩
    exact ⟨rfl, A⟩
   ·skip
    have e1 := Option.some.inj hm
    subst e1
    refine ⟨.inl rfl, .bool x2, resH H (fun fr => by kernel_rfl), ?_⟩
    exact ⟨rfl, A⟩
   ·exact hF.elim
/-! ### boulter/boulterref07.Same -/
noncomputable def M_boulterref07_Same (p0 : S_api_Member) (p1 : S_api_Member) : Option (Bool) :=
 (iteB ((((((((((p0.Name == p1.Name) && (p0.Link == p1.Link)) && (p0.Kind == p1.Kind)) && (p0.Mode == p1.Mode)) && (p0.Uid == p1.Uid)) && (p0.Gid == p1.Gid)) && (p0.Uname == p1.Uname)) && (p0.Gname == p1.Gname)) && (p0.Major == p1.Major)) && (p0.Minor == p1.Minor)) ((eqG cfg.P 29 [.int .i64 p0.Time.Sec, .int .i64 p0.Time.Nsec] [.int .i64 p1.Time.Sec, .int .i64 p1.Time.Nsec]).bind fun x2 => some x2) (some false) : Option (Bool)).bind fun x1 => (iteB x1 ((M_boulterref06_Same p0.Extra p1.Extra).bind fun x4 => some x4) (some false) : Option (Bool)).bind fun x3 => some (x3 && (p0.Data == p1.Data))
theorem ok_boulterref07_Same {g : Gd} {h : AHeap} {F : List Ck} {p0 : S_api_Member} {p1 : S_api_Member} {q0 : Bool} {av : List AVal} (hm : M_boulterref07_Same p0 p1 = some q0) (hc : canL (cfg.still 11) av = [.agg (e_S_api_Member p0), .agg (e_S_api_Member p1)]) (A : HH g h [] F) : ∃ v h', Runs cfg g h 11 av v h' ∧ v = .bool q0 ∧ HH g h' [] F := by
 refine runsQ1 (n := 94) (rs := [.tmp 4]) (by kernel_rfl) hc (by kernel_rfl) ?_
 clear hc
 unfold M_boulterref07_Same at hm
 refine start (n := 94) [(0, .agg (e_S_api_Member p0)), (1, .agg (e_S_api_Member p1))] (by kernel_rfl) (by kernel_rfl) ?_
 intro fr H
 refine aw_seq (by kernel_rfl) ?_
 refine aw_reg (id := 0) (n := 3) [(0, []), (1, []), (2, [])] (by kernel_rfl) (by kernel_rfl) ?_
 obtain ⟨h1, e1⟩ : ∃ x, x = h.push (.cells none 2 (e_S_api_Member p0)) := ⟨_, rfl⟩
 replace A := (A.push _).to e1
 refine at_step (v := .ptr (some (h.size, 0))) (h1 := h1) [(1, .agg (e_S_api_Member p1)), (2, .ptr (some (h.size, 0)))] H (fun fr => by kernel_rfl) (fun fr => .of (s_n' (by kernel_rfl) (congrArg some e1.symm))) ?_
 intro fr t H
 obtain ⟨h2, e2⟩ : ∃ x, x = h1.push (.cells none 2 (e_S_api_Member p1)) := ⟨_, rfl⟩
 replace A := (A.push _).to e2
 refine at_step (v := .ptr (some (h1.size, 0))) (h1 := h2) [(2, .ptr (some (h.size, 0))), (3, .ptr (some (h1.size, 0)))] H (fun fr => by kernel_rfl) (fun fr => .of (s_n' (by kernel_rfl) (congrArg some e2.symm))) ?_
 intro fr t H
 refine at_seg [(2, [])] [(2, .ptr (some (h.size, 0))), (3, .ptr (some (h1.size, 0)))] H (noU_all rfl) (fun fr => by kernel_rfl) ?_
 intro fr H
 refine at_nil ?_
 show AW cfg 11 g (right (bodyC cfg.P 11)) fr h2 _
 refine aw_seq (by kernel_rfl) ?_
 refine aw_reg (id := 1) (n := 90) [(0, []), (1, []), (2, []), (3, []), (4, []), (5, []), (6, []), (7, []), (8, []), (9, []), (10, []), (11, []), (12, []), (13, []), (14, []), (15, []), (16, []), (17, []), (18, []), (19, []), (20, []), (21, []), (22, []), (23, []), (24, []), (25, []), (26, []), (27, []), (28, []), (29, []), (30, []), (31, []), (32, []), (33, []), (34, []), (35, []), (36, []), (37, []), (38, []), (39, []), (40, []), (41, []), (42, []), (43, []), (44, []), (45, []), (46, []), (47, []), (48, []), (49, []), (50, []), (51, []), (52, []), (53, []), (54, []), (55, []), (56, []), (57, []), (58, []), (59, []), (60, []), (61, []), (62, []), (63, []), (64, []), (65, []), (66, []), (67, []), (68, []), (69, []), (70, []), (71, []), (72, []), (73, []), (74, []), (75, []), (76, []), (77, []), (78, []), (79, []), (80, []), (81, []), (82, []), (83, []), (84, []), (85, []), (86, []), (87, []), (88, []), (89, [])] (by kernel_rfl) (by kernel_rfl) ?_
 refine at_seg [(0, [])] [(2, .ptr (some (h.size, 0))), (3, .ptr (some (h1.size, 0))), (5, .ptr (some (h.size, 0)))] H (noU_all rfl) (fun fr => by kernel_rfl) ?_
 intro fr H
 refine at_step (v := .str p0.Name) (h1 := h2) [(2, .ptr (some (h.size, 0))), (3, .ptr (some (h1.size, 0))), (6, .str p0.Name)] H (fun fr => by kernel_rfl) (fun fr => .of (s_ld (by kernel_rfl) (A.ld1 1 rfl (o := 0) rfl))) ?_
 intro fr t H
 refine at_seg [(2, [])] [(2, .ptr (some (h.size, 0))), (3, .ptr (some (h1.size, 0))), (6, .str p0.Name), (7, .ptr (some (h1.size, 0)))] H (noU_all rfl) (fun fr => by kernel_rfl) ?_
 intro fr H
 refine at_step (v := .str p1.Name) (h1 := h2) [(2, .ptr (some (h.size, 0))), (3, .ptr (some (h1.size, 0))), (6, .str p0.Name), (8, .str p1.Name)] H (fun fr => by kernel_rfl) (fun fr => .of (s_ld (by kernel_rfl) (A.ld1 0 rfl (o := 0) rfl))) ?_
 intro fr t H
 refine at_seg [(4, []), (5, [])] [(2, .ptr (some (h.size, 0))), (3, .ptr (some (h1.size, 0))), (10, .bool (p0.Name == p1.Name))] H (noU_all rfl) (fun fr => by kernel_rfl) ?_
 intro fr H
 refine at_cut [(6, []), (7, []), (8, []), (9, []), (10, []), (11, [])] (fun fr' h' => h2 = h' ∧ Has fr' 94 [(2, .ptr (some (h.size, 0))), (3, .ptr (some (h1.size, 0))), (16, .bool ((p0.Name == p1.Name) && (p0.Link == p1.Link)))]) ?_ ?_
 ·cases hb : (p0.Name == p1.Name : Bool) with
  | true =>
   replace H := H.know 10 hb (by kernel_rfl)
   refine at_seg [(6, [])] [(2, .ptr (some (h.size, 0))), (3, .ptr (some (h1.size, 0))), (10, .bool true), (11, .ptr (some (h.size, 1)))] H (noU_all rfl) (fun fr => by kernel_rfl) ?_
   intro fr H
   refine at_step (v := .str p0.Link) (h1 := h2) [(2, .ptr (some (h.size, 0))), (3, .ptr (some (h1.size, 0))), (10, .bool true), (12, .str p0.Link)] H (fun fr => by kernel_rfl) (fun fr => .of (s_ld (by kernel_rfl) (A.ld1 1 rfl (o := 1) rfl))) ?_
   intro fr t H
   refine at_seg [(8, [])] [(2, .ptr (some (h.size, 0))), (3, .ptr (some (h1.size, 0))), (10, .bool true), (12, .str p0.Link), (13, .ptr (some (h1.size, 1)))] H (noU_all rfl) (fun fr => by kernel_rfl) ?_
   intro fr H
   refine at_step (v := .str p1.Link) (h1 := h2) [(2, .ptr (some (h.size, 0))), (3, .ptr (some (h1.size, 0))), (10, .bool true), (12, .str p0.Link), (14, .str p1.Link)] H (fun fr => by kernel_rfl) (fun fr => .of (s_ld (by kernel_rfl) (A.ld1 0 rfl (o := 1) rfl))) ?_
   intro fr t H
   refine at_seg [(10, []), (11, [])] [(2, .ptr (some (h.size, 0))), (3, .ptr (some (h1.size, 0))), (16, .bool (p0.Link == p1.Link))] H (noU_all rfl) (fun fr => by kernel_rfl) ?_
   intro fr H
   exact at_nil ⟨rfl, by first | exact H.less _ (fun fr => by rfl) | exact H.less _ (fun fr => by rw [hb]; rfl)⟩
  | false =>
   replace H := H.know 10 hb (by kernel_rfl)
   refine at_seg [(6, []), (7, []), (8, []), (9, []), (10, []), (11, [])] [(2, .ptr (some (h.size, 0))), (3, .ptr (some (h1.size, 0))), (16, .bool false)] H (noU_all rfl) (fun fr => by kernel_rfl) ?_
   intro fr H
   exact at_nil ⟨rfl, by first | exact H.less _ (fun fr => by rfl) | exact H.less _ (fun fr => by rw [hb]; rfl)⟩
 ·intro t fr h' hK
  obtain ⟨e, H⟩ := hK
  subst e
  refine at_seg [(12, [])] [(2, .ptr (some (h.size, 0))), (3, .ptr (some (h1.size, 0))), (17, .bool ((p0.Name == p1.Name) && (p0.Link == p1.Link)))] H (noU_all rfl) (fun fr => by kernel_rfl) ?_
  intro fr H
  refine at_cut [(13, []), (14, []), (15, []), (16, []), (17, []), (18, [])] (fun fr' h' => h2 = h' ∧ Has fr' 94 [(2, .ptr (some (h.size, 0))), (3, .ptr (some (h1.size, 0))), (23, .bool (((p0.Name == p1.Name) && (p0.Link == p1.Link)) && (p0.Kind == p1.Kind)))]) ?_ ?_
  ·cases hb : ((p0.Name == p1.Name) && (p0.Link == p1.Link) : Bool) with
   | true =>
    replace H := H.know 17 hb (by kernel_rfl)
    refine at_seg [(13, [])] [(2, .ptr (some (h.size, 0))), (3, .ptr (some (h1.size, 0))), (17, .bool true), (18, .ptr (some (h.size, 2)))] H (noU_all rfl) (fun fr => by kernel_rfl) ?_
    intro fr H
    refine at_step (v := .int .u8 p0.Kind) (h1 := h2) [(2, .ptr (some (h.size, 0))), (3, .ptr (some (h1.size, 0))), (17, .bool true), (19, .int .u8 p0.Kind)] H (fun fr => by kernel_rfl) (fun fr => .of (s_ld (by kernel_rfl) (A.ld1 1 rfl (o := 2) rfl))) ?_
    intro fr t H
    refine at_seg [(15, [])] [(2, .ptr (some (h.size, 0))), (3, .ptr (some (h1.size, 0))), (17, .bool true), (19, .int .u8 p0.Kind), (20, .ptr (some (h1.size, 2)))] H (noU_all rfl) (fun fr => by kernel_rfl) ?_
    intro fr H
    refine at_step (v := .int .u8 p1.Kind) (h1 := h2) [(2, .ptr (some (h.size, 0))), (3, .ptr (some (h1.size, 0))), (17, .bool true), (19, .int .u8 p0.Kind), (21, .int .u8 p1.Kind)] H (fun fr => by kernel_rfl) (fun fr => .of (s_ld (by kernel_rfl) (A.ld1 0 rfl (o := 2) rfl))) ?_
    intro fr t H
    refine at_seg [(17, []), (18, [])] [(2, .ptr (some (h.size, 0))), (3, .ptr (some (h1.size, 0))), (23, .bool (p0.Kind == p1.Kind))] H (noU_all rfl) (fun fr => by kernel_rfl) ?_
    intro fr H
    exact at_nil ⟨rfl, by first | exact H.less _ (fun fr => by rfl) | exact H.less _ (fun fr => by rw [hb]; rfl)⟩
   | false =>
    replace H := H.know 17 hb (by kernel_rfl)
    refine at_seg [(13, []), (14, []), (15, []), (16, []), (17, []), (18, [])] [(2, .ptr (some (h.size, 0))), (3, .ptr (some (h1.size, 0))), (23, .bool false)] H (noU_all rfl) (fun fr => by kernel_rfl) ?_
    intro fr H
    exact at_nil ⟨rfl, by first | exact H.less _ (fun fr => by rfl) | exact H.less _ (fun fr => by rw [hb]; rfl)⟩
  ·intro t fr h' hK
   obtain ⟨e, H⟩ := hK
   subst e
   refine at_seg [(19, [])] [(2, .ptr (some (h.size, 0))), (3, .ptr (some (h1.size, 0))), (24, .bool (((p0.Name == p1.Name) && (p0.Link == p1.Link)) && (p0.Kind == p1.Kind)))] H (noU_all rfl) (fun fr => by kernel_rfl) ?_
   intro fr H
   refine at_cut [(20, []), (21, []), (22, []), (23, []), (24, []), (25, [])] (fun fr' h' => h2 = h' ∧ Has fr' 94 [(2, .ptr (some (h.size, 0))), (3, .ptr (some (h1.size, 0))), (30, .bool ((((p0.Name == p1.Name) && (p0.Link == p1.Link)) && (p0.Kind == p1.Kind)) && (p0.Mode == p1.Mode)))]) ?_ ?_
   ·cases hb : (((p0.Name == p1.Name) && (p0.Link == p1.Link)) && (p0.Kind == p1.Kind) : Bool) with
    | true =>
     replace H := H.know 24 hb (by kernel_rfl)
     refine at_seg [(20, [])] [(2, .ptr (some (h.size, 0))), (3, .ptr (some (h1.size, 0))), (24, .bool true), (25, .ptr (some (h.size, 3)))] H (noU_all rfl) (fun fr => by kernel_rfl) ?_
     intro fr H
     refine at_step (v := .int .i64 p0.Mode) (h1 := h2) [(2, .ptr (some (h.size, 0))), (3, .ptr (some (h1.size, 0))), (24, .bool true), (26, .int .i64 p0.Mode)] H (fun fr => by kernel_rfl) (fun fr => .of (s_ld (by kernel_rfl) (A.ld1 1 rfl (o := 3) rfl))) ?_
     intro fr t H
     refine at_seg [(22, [])] [(2, .ptr (some (h.size, 0))), (3, .ptr (some (h1.size, 0))), (24, .bool true), (26, .int .i64 p0.Mode), (27, .ptr (some (h1.size, 3)))] H (noU_all rfl) (fun fr => by kernel_rfl) ?_
     intro fr H
     refine at_step (v := .int .i64 p1.Mode) (h1 := h2) [(2, .ptr (some (h.size, 0))), (3, .ptr (some (h1.size, 0))), (24, .bool true), (26, .int .i64 p0.Mode), (28, .int .i64 p1.Mode)] H (fun fr => by kernel_rfl) (fun fr => .of (s_ld (by kernel_rfl) (A.ld1 0 rfl (o := 3) rfl))) ?_
     intro fr t H
     refine at_seg [(24, []), (25, [])] [(2, .ptr (some (h.size, 0))), (3, .ptr (some (h1.size, 0))), (30, .bool (p0.Mode == p1.Mode))] H (noU_all rfl) (fun fr => by kernel_rfl) ?_
     intro fr H
     exact at_nil ⟨rfl, by first | exact H.less _ (fun fr => by rfl) | exact H.less _ (fun fr => by rw [hb]; rfl)⟩
    | false =>
     replace H := H.know 24 hb (by kernel_rfl)
     refine at_seg [(20, []), (21, []), (22, []), (23, []), (24, []), (25, [])] [(2, .ptr (some (h.size, 0))), (3, .ptr (some (h1.size, 0))), (30, .bool false)] H (noU_all rfl) (fun fr => by kernel_rfl) ?_
     intro fr H
     exact at_nil ⟨rfl, by first | exact H.less _ (fun fr => by rfl) | exact H.less _ (fun fr => by rw [hb]; rfl)⟩
   ·intro t fr h' hK
    obtain ⟨e, H⟩ := hK
    subst e
    refine at_seg [(26, [])] [(2, .ptr (some (h.size, 0))), (3, .ptr (some (h1.size, 0))), (31, .bool ((((p0.Name == p1.Name) && (p0.Link == p1.Link)) && (p0.Kind == p1.Kind)) && (p0.Mode == p1.Mode)))] H (noU_all rfl) (fun fr => by kernel_rfl) ?_
    intro fr H
    refine at_cut [(27, []), (28, []), (29, []), (30, []), (31, []), (32, [])] (fun fr' h' => h2 = h' ∧ Has fr' 94 [(2, .ptr (some (h.size, 0))), (3, .ptr (some (h1.size, 0))), (37, .bool (((((p0.Name == p1.Name) && (p0.Link == p1.Link)) && (p0.Kind == p1.Kind)) && (p0.Mode == p1.Mode)) && (p0.Uid == p1.Uid)))]) ?_ ?_
    ·cases hb : ((((p0.Name == p1.Name) && (p0.Link == p1.Link)) && (p0.Kind == p1.Kind)) && (p0.Mode == p1.Mode) : Bool) with
     | true =>
      replace H := H.know 31 hb (by kernel_rfl)
      refine at_seg [(27, [])] [(2, .ptr (some (h.size, 0))), (3, .ptr (some (h1.size, 0))), (31, .bool true), (32, .ptr (some (h.size, 4)))] H (noU_all rfl) (fun fr => by kernel_rfl) ?_
      intro fr H
      refine at_step (v := .int .i64 p0.Uid) (h1 := h2) [(2, .ptr (some (h.size, 0))), (3, .ptr (some (h1.size, 0))), (31, .bool true), (33, .int .i64 p0.Uid)] H (fun fr => by kernel_rfl) (fun fr => .of (s_ld (by kernel_rfl) (A.ld1 1 rfl (o := 4) rfl))) ?_
      intro fr t H
      refine at_seg [(29, [])] [(2, .ptr (some (h.size, 0))), (3, .ptr (some (h1.size, 0))), (31, .bool true), (33, .int .i64 p0.Uid), (34, .ptr (some (h1.size, 4)))] H (noU_all rfl) (fun fr => by kernel_rfl) ?_
      intro fr H
      refine at_step (v := .int .i64 p1.Uid) (h1 := h2) [(2, .ptr (some (h.size, 0))), (3, .ptr (some (h1.size, 0))), (31, .bool true), (33, .int .i64 p0.Uid), (35, .int .i64 p1.Uid)] H (fun fr => by kernel_rfl) (fun fr => .of (s_ld (by kernel_rfl) (A.ld1 0 rfl (o := 4) rfl))) ?_
      intro fr t H
      refine at_seg [(31, []), (32, [])] [(2, .ptr (some (h.size, 0))), (3, .ptr (some (h1.size, 0))), (37, .bool (p0.Uid == p1.Uid))] H (noU_all rfl) (fun fr => by kernel_rfl) ?_
      intro fr H
      exact at_nil ⟨rfl, by first | exact H.less _ (fun fr => by rfl) | exact H.less _ (fun fr => by rw [hb]; rfl)⟩
     | false =>
      replace H := H.know 31 hb (by kernel_rfl)
      refine at_seg [(27, []), (28, []), (29, []), (30, []), (31, []), (32, [])] [(2, .ptr (some (h.size, 0))), (3, .ptr (some (h1.size, 0))), (37, .bool false)] H (noU_all rfl) (fun fr => by kernel_rfl) ?_
      intro fr H
      exact at_nil ⟨rfl, by first | exact H.less _ (fun fr => by rfl) | exact H.less _ (fun fr => by rw [hb]; rfl)⟩
    ·intro t fr h' hK
     obtain ⟨e, H⟩ := hK
     subst e
     refine at_seg [(33, [])] [(2, .ptr (some (h.size, 0))), (3, .ptr (some (h1.size, 0))), (38, .bool (((((p0.Name == p1.Name) && (p0.Link == p1.Link)) && (p0.Kind == p1.Kind)) && (p0.Mode == p1.Mode)) && (p0.Uid == p1.Uid)))] H (noU_all rfl) (fun fr => by kernel_rfl) ?_
     intro fr H
     refine at_cut [(34, []), (35, []), (36, []), (37, []), (38, []), (39, [])] (fun fr' h' => h2 = h' ∧ Has fr' 94 [(2, .ptr (some (h.size, 0))), (3, .ptr (some (h1.size, 0))), (44, .bool ((((((p0.Name == p1.Name) && (p0.Link == p1.Link)) && (p0.Kind == p1.Kind)) && (p0.Mode == p1.Mode)) && (p0.Uid == p1.Uid)) && (p0.Gid == p1.Gid)))]) ?_ ?_
     ·cases hb : (((((p0.Name == p1.Name) && (p0.Link == p1.Link)) && (p0.Kind == p1.Kind)) && (p0.Mode == p1.Mode)) && (p0.Uid == p1.Uid) : Bool) with
      | true =>
       replace H := H.know 38 hb (by kernel_rfl)
       refine at_seg [(34, [])] [(2, .ptr (some (h.size, 0))), (3, .ptr (some (h1.size, 0))), (38, .bool true), (39, .ptr (some (h.size, 5)))] H (noU_all rfl) (fun fr => by kernel_rfl) ?_
       intro fr H
       refine at_step (v := .int .i64 p0.Gid) (h1 := h2) [(2, .ptr (some (h.size, 0))), (3, .ptr (some (h1.size, 0))), (38, .bool true), (40, .int .i64 p0.Gid)] H (fun fr => by kernel_rfl) (fun fr => .of (s_ld (by kernel_rfl) (A.ld1 1 rfl (o := 5) rfl))) ?_
       intro fr t H
       refine at_seg [(36, [])] [(2, .ptr (some (h.size, 0))), (3, .ptr (some (h1.size, 0))), (38, .bool true), (40, .int .i64 p0.Gid), (41, .ptr (some (h1.size, 5)))] H (noU_all rfl) (fun fr => by kernel_rfl) ?_
       intro fr H
       refine at_step (v := .int .i64 p1.Gid) (h1 := h2) [(2, .ptr (some (h.size, 0))), (3, .ptr (some (h1.size, 0))), (38, .bool true), (40, .int .i64 p0.Gid), (42, .int .i64 p1.Gid)] H (fun fr => by kernel_rfl) (fun fr => .of (s_ld (by kernel_rfl) (A.ld1 0 rfl (o := 5) rfl))) ?_
       intro fr t H
       refine at_seg [(38, []), (39, [])] [(2, .ptr (some (h.size, 0))), (3, .ptr (some (h1.size, 0))), (44, .bool (p0.Gid == p1.Gid))] H (noU_all rfl) (fun fr => by kernel_rfl) ?_
       intro fr H
       exact at_nil ⟨rfl, by first | exact H.less _ (fun fr => by rfl) | exact H.less _ (fun fr => by rw [hb]; rfl)⟩
      | false =>
       replace H := H.know 38 hb (by kernel_rfl)
       refine at_seg [(34, []), (35, []), (36, []), (37, []), (38, []), (39, [])] [(2, .ptr (some (h.size, 0))), (3, .ptr (some (h1.size, 0))), (44, .bool false)] H (noU_all rfl) (fun fr => by kernel_rfl) ?_
       intro fr H
       exact at_nil ⟨rfl, by first | exact H.less _ (fun fr => by rfl) | exact H.less _ (fun fr => by rw [hb]; rfl)⟩
     ·intro t fr h' hK
      obtain ⟨e, H⟩ := hK
      subst e
      refine at_seg [(40, [])] [(2, .ptr (some (h.size, 0))), (3, .ptr (some (h1.size, 0))), (45, .bool ((((((p0.Name == p1.Name) && (p0.Link == p1.Link)) && (p0.Kind == p1.Kind)) && (p0.Mode == p1.Mode)) && (p0.Uid == p1.Uid)) && (p0.Gid == p1.Gid)))] H (noU_all rfl) (fun fr => by kernel_rfl) ?_
      intro fr H
      refine at_cut [(41, []), (42, []), (43, []), (44, []), (45, []), (46, [])] (fun fr' h' => h2 = h' ∧ Has fr' 94 [(2, .ptr (some (h.size, 0))), (3, .ptr (some (h1.size, 0))), (51, .bool (((((((p0.Name == p1.Name) && (p0.Link == p1.Link)) && (p0.Kind == p1.Kind)) && (p0.Mode == p1.Mode)) && (p0.Uid == p1.Uid)) && (p0.Gid == p1.Gid)) && (p0.Uname == p1.Uname)))]) ?_ ?_
      ·cases hb : ((((((p0.Name == p1.Name) && (p0.Link == p1.Link)) && (p0.Kind == p1.Kind)) && (p0.Mode == p1.Mode)) && (p0.Uid == p1.Uid)) && (p0.Gid == p1.Gid) : Bool) with
       | true =>
        replace H := H.know 45 hb (by kernel_rfl)
        refine at_seg [(41, [])] [(2, .ptr (some (h.size, 0))), (3, .ptr (some (h1.size, 0))), (45, .bool true), (46, .ptr (some (h.size, 6)))] H (noU_all rfl) (fun fr => by kernel_rfl) ?_
        intro fr H
        refine at_step (v := .str p0.Uname) (h1 := h2) [(2, .ptr (some (h.size, 0))), (3, .ptr (some (h1.size, 0))), (45, .bool true), (47, .str p0.Uname)] H (fun fr => by kernel_rfl) (fun fr => .of (s_ld (by kernel_rfl) (A.ld1 1 rfl (o := 6) rfl))) ?_
        intro fr t H
        refine at_seg [(43, [])] [(2, .ptr (some (h.size, 0))), (3, .ptr (some (h1.size, 0))), (45, .bool true), (47, .str p0.Uname), (48, .ptr (some (h1.size, 6)))] H (noU_all rfl) (fun fr => by kernel_rfl) ?_
        intro fr H
        refine at_step (v := .str p1.Uname) (h1 := h2) [(2, .ptr (some (h.size, 0))), (3, .ptr (some (h1.size, 0))), (45, .bool true), (47, .str p0.Uname), (49, .str p1.Uname)] H (fun fr => by kernel_rfl) (fun fr => .of (s_ld (by kernel_rfl) (A.ld1 0 rfl (o := 6) rfl))) ?_
        intro fr t H
        refine at_seg [(45, []), (46, [])] [(2, .ptr (some (h.size, 0))), (3, .ptr (some (h1.size, 0))), (51, .bool (p0.Uname == p1.Uname))] H (noU_all rfl) (fun fr => by kernel_rfl) ?_
        intro fr H
        exact at_nil ⟨rfl, by first | exact H.less _ (fun fr => by rfl) | exact H.less _ (fun fr => by rw [hb]; rfl)⟩
       | false =>
        replace H := H.know 45 hb (by kernel_rfl)
        refine at_seg [(41, []), (42, []), (43, []), (44, []), (45, []), (46, [])] [(2, .ptr (some (h.size, 0))), (3, .ptr (some (h1.size, 0))), (51, .bool false)] H (noU_all rfl) (fun fr => by kernel_rfl) ?_
        intro fr H
        exact at_nil ⟨rfl, by first | exact H.less _ (fun fr => by rfl) | exact H.less _ (fun fr => by rw [hb]; rfl)⟩
      ·intro t fr h' hK
       obtain ⟨e, H⟩ := hK
       subst e
       refine at_seg [(47, [])] [(2, .ptr (some (h.size, 0))), (3, .ptr (some (h1.size, 0))), (52, .bool (((((((p0.Name == p1.Name) && (p0.Link == p1.Link)) && (p0.Kind == p1.Kind)) && (p0.Mode == p1.Mode)) && (p0.Uid == p1.Uid)) && (p0.Gid == p1.Gid)) && (p0.Uname == p1.Uname)))] H (noU_all rfl) (fun fr => by kernel_rfl) ?_
       intro fr H
       refine at_cut [(48, []), (49, []), (50, []), (51, []), (52, []), (53, [])] (fun fr' h' => h2 = h' ∧ Has fr' 94 [(2, .ptr (some (h.size, 0))), (3, .ptr (some (h1.size, 0))), (58, .bool ((((((((p0.Name == p1.Name) && (p0.Link == p1.Link)) && (p0.Kind == p1.Kind)) && (p0.Mode == p1.Mode)) && (p0.Uid == p1.Uid)) && (p0.Gid == p1.Gid)) && (p0.Uname == p1.Uname)) && (p0.Gname == p1.Gname)))]) ?_ ?_
       ·cases hb : (((((((p0.Name == p1.Name) && (p0.Link == p1.Link)) && (p0.Kind == p1.Kind)) && (p0.Mode == p1.Mode)) && (p0.Uid == p1.Uid)) && (p0.Gid == p1.Gid)) && (p0.Uname == p1.Uname) : Bool) with
        | true =>
         replace H := H.know 52 hb (by kernel_rfl)
         refine at_seg [(48, [])] [(2, .ptr (some (h.size, 0))), (3, .ptr (some (h1.size, 0))), (52, .bool true), (53, .ptr (some (h.size, 7)))] H (noU_all rfl) (fun fr => by kernel_rfl) ?_
         intro fr H
         refine at_step (v := .str p0.Gname) (h1 := h2) [(2, .ptr (some (h.size, 0))), (3, .ptr (some (h1.size, 0))), (52, .bool true), (54, .str p0.Gname)] H (fun fr => by kernel_rfl) (fun fr => .of (s_ld (by kernel_rfl) (A.ld1 1 rfl (o := 7) rfl))) ?_
         intro fr t H
         refine at_seg [(50, [])] [(2, .ptr (some (h.size, 0))), (3, .ptr (some (h1.size, 0))), (52, .bool true), (54, .str p0.Gname), (55, .ptr (some (h1.size, 7)))] H (noU_all rfl) (fun fr => by kernel_rfl) ?_
         intro fr H
         refine at_step (v := .str p1.Gname) (h1 := h2) [(2, .ptr (some (h.size, 0))), (3, .ptr (some (h1.size, 0))), (52, .bool true), (54, .str p0.Gname), (56, .str p1.Gname)] H (fun fr => by kernel_rfl) (fun fr => .of (s_ld (by kernel_rfl) (A.ld1 0 rfl (o := 7) rfl))) ?_
         intro fr t H
         refine at_seg [(52, []), (53, [])] [(2, .ptr (some (h.size, 0))), (3, .ptr (some (h1.size, 0))), (58, .bool (p0.Gname == p1.Gname))] H (noU_all rfl) (fun fr => by kernel_rfl) ?_
         intro fr H
         exact at_nil ⟨rfl, by first | exact H.less _ (fun fr => by rfl) | exact H.less _ (fun fr => by rw [hb]; rfl)⟩
        | false =>
         replace H := H.know 52 hb (by kernel_rfl)
         refine at_seg [(48, []), (49, []), (50, []), (51, []), (52, []), (53, [])] [(2, .ptr (some (h.size, 0))), (3, .ptr (some (h1.size, 0))), (58, .bool false)] H (noU_all rfl) (fun fr => by kernel_rfl) ?_
         intro fr H
         exact at_nil ⟨rfl, by first | exact H.less _ (fun fr => by rfl) | exact H.less _ (fun fr => by rw [hb]; rfl)⟩
       ·intro t fr h' hK
        obtain ⟨e, H⟩ := hK
        subst e
        refine at_seg [(54, [])] [(2, .ptr (some (h.size, 0))), (3, .ptr (some (h1.size, 0))), (59, .bool ((((((((p0.Name == p1.Name) && (p0.Link == p1.Link)) && (p0.Kind == p1.Kind)) && (p0.Mode == p1.Mode)) && (p0.Uid == p1.Uid)) && (p0.Gid == p1.Gid)) && (p0.Uname == p1.Uname)) && (p0.Gname == p1.Gname)))] H (noU_all rfl) (fun fr => by kernel_rfl) ?_
        intro fr H
        refine at_cut [(55, []), (56, []), (57, []), (58, []), (59, []), (60, [])] (fun fr' h' => h2 = h' ∧ Has fr' 94 [(2, .ptr (some (h.size, 0))), (3, .ptr (some (h1.size, 0))), (65, .bool (((((((((p0.Name == p1.Name) && (p0.Link == p1.Link)) && (p0.Kind == p1.Kind)) && (p0.Mode == p1.Mode)) && (p0.Uid == p1.Uid)) && (p0.Gid == p1.Gid)) && (p0.Uname == p1.Uname)) && (p0.Gname == p1.Gname)) && (p0.Major == p1.Major)))]) ?_ ?_
        ·cases hb : ((((((((p0.Name == p1.Name) && (p0.Link == p1.Link)) && (p0.Kind == p1.Kind)) && (p0.Mode == p1.Mode)) && (p0.Uid == p1.Uid)) && (p0.Gid == p1.Gid)) && (p0.Uname == p1.Uname)) && (p0.Gname == p1.Gname) : Bool) with
         | true =>
          replace H := H.know 59 hb (by kernel_rfl)
          refine at_seg [(55, [])] [(2, .ptr (some (h.size, 0))), (3, .ptr (some (h1.size, 0))), (59, .bool true), (60, .ptr (some (h.size, 8)))] H (noU_all rfl) (fun fr => by kernel_rfl) ?_
          intro fr H
          refine at_step (v := .int .i64 p0.Major) (h1 := h2) [(2, .ptr (some (h.size, 0))), (3, .ptr (some (h1.size, 0))), (59, .bool true), (61, .int .i64 p0.Major)] H (fun fr => by kernel_rfl) (fun fr => .of (s_ld (by kernel_rfl) (A.ld1 1 rfl (o := 8) rfl))) ?_
          intro fr t H
          refine at_seg [(57, [])] [(2, .ptr (some (h.size, 0))), (3, .ptr (some (h1.size, 0))), (59, .bool true), (61, .int .i64 p0.Major), (62, .ptr (some (h1.size, 8)))] H (noU_all rfl) (fun fr => by kernel_rfl) ?_
          intro fr H
          refine at_step (v := .int .i64 p1.Major) (h1 := h2) [(2, .ptr (some (h.size, 0))), (3, .ptr (some (h1.size, 0))), (59, .bool true), (61, .int .i64 p0.Major), (63, .int .i64 p1.Major)] H (fun fr => by kernel_rfl) (fun fr => .of (s_ld (by kernel_rfl) (A.ld1 0 rfl (o := 8) rfl))) ?_
          intro fr t H
          refine at_seg [(59, []), (60, [])] [(2, .ptr (some (h.size, 0))), (3, .ptr (some (h1.size, 0))), (65, .bool (p0.Major == p1.Major))] H (noU_all rfl) (fun fr => by kernel_rfl) ?_
          intro fr H
          exact at_nil ⟨rfl, by first | exact H.less _ (fun fr => by rfl) | exact H.less _ (fun fr => by rw [hb]; rfl)⟩
         | false =>
          replace H := H.know 59 hb (by kernel_rfl)
          refine at_seg [(55, []), (56, []), (57, []), (58, []), (59, []), (60, [])] [(2, .ptr (some (h.size, 0))), (3, .ptr (some (h1.size, 0))), (65, .bool false)] H (noU_all rfl) (fun fr => by kernel_rfl) ?_
          intro fr H
          exact at_nil ⟨rfl, by first | exact H.less _ (fun fr => by rfl) | exact H.less _ (fun fr => by rw [hb]; rfl)⟩
        ·intro t fr h' hK
         obtain ⟨e, H⟩ := hK
         subst e
         refine at_seg [(61, [])] [(2, .ptr (some (h.size, 0))), (3, .ptr (some (h1.size, 0))), (66, .bool (((((((((p0.Name == p1.Name) && (p0.Link == p1.Link)) && (p0.Kind == p1.Kind)) && (p0.Mode == p1.Mode)) && (p0.Uid == p1.Uid)) && (p0.Gid == p1.Gid)) && (p0.Uname == p1.Uname)) && (p0.Gname == p1.Gname)) && (p0.Major == p1.Major)))] H (noU_all rfl) (fun fr => by kernel_rfl) ?_
         intro fr H
         refine at_cut [(62, []), (63, []), (64, []), (65, []), (66, []), (67, [])] (fun fr' h' => h2 = h' ∧ Has fr' 94 [(2, .ptr (some (h.size, 0))), (3, .ptr (some (h1.size, 0))), (72, .bool ((((((((((p0.Name == p1.Name) && (p0.Link == p1.Link)) && (p0.Kind == p1.Kind)) && (p0.Mode == p1.Mode)) && (p0.Uid == p1.Uid)) && (p0.Gid == p1.Gid)) && (p0.Uname == p1.Uname)) && (p0.Gname == p1.Gname)) && (p0.Major == p1.Major)) && (p0.Minor == p1.Minor)))]) ?_ ?_
         ·cases hb : (((((((((p0.Name == p1.Name) && (p0.Link == p1.Link)) && (p0.Kind == p1.Kind)) && (p0.Mode == p1.Mode)) && (p0.Uid == p1.Uid)) && (p0.Gid == p1.Gid)) && (p0.Uname == p1.Uname)) && (p0.Gname == p1.Gname)) && (p0.Major == p1.Major) : Bool) with
          | true =>
           replace H := H.know 66 hb (by kernel_rfl)
           refine at_seg [(62, [])] [(2, .ptr (some (h.size, 0))), (3, .ptr (some (h1.size, 0))), (66, .bool true), (67, .ptr (some (h.size, 9)))] H (noU_all rfl) (fun fr => by kernel_rfl) ?_
           intro fr H
           refine at_step (v := .int .i64 p0.Minor) (h1 := h2) [(2, .ptr (some (h.size, 0))), (3, .ptr (some (h1.size, 0))), (66, .bool true), (68, .int .i64 p0.Minor)] H (fun fr => by kernel_rfl) (fun fr => .of (s_ld (by kernel_rfl) (A.ld1 1 rfl (o := 9) rfl))) ?_
           intro fr t H
           refine at_seg [(64, [])] [(2, .ptr (some (h.size, 0))), (3, .ptr (some (h1.size, 0))), (66, .bool true), (68, .int .i64 p0.Minor), (69, .ptr (some (h1.size, 9)))] H (noU_all rfl) (fun fr => by kernel_rfl) ?_
           intro fr H
           refine at_step (v := .int .i64 p1.Minor) (h1 := h2) [(2, .ptr (some (h.size, 0))), (3, .ptr (some (h1.size, 0))), (66, .bool true), (68, .int .i64 p0.Minor), (70, .int .i64 p1.Minor)] H (fun fr => by kernel_rfl) (fun fr => .of (s_ld (by kernel_rfl) (A.ld1 0 rfl (o := 9) rfl))) ?_
           intro fr t H
           refine at_seg [(66, []), (67, [])] [(2, .ptr (some (h.size, 0))), (3, .ptr (some (h1.size, 0))), (72, .bool (p0.Minor == p1.Minor))] H (noU_all rfl) (fun fr => by kernel_rfl) ?_
           intro fr H
           exact at_nil ⟨rfl, by first | exact H.less _ (fun fr => by rfl) | exact H.less _ (fun fr => by rw [hb]; rfl)⟩
          | false =>
           replace H := H.know 66 hb (by kernel_rfl)
           refine at_seg [(62, []), (63, []), (64, []), (65, []), (66, []), (67, [])] [(2, .ptr (some (h.size, 0))), (3, .ptr (some (h1.size, 0))), (72, .bool false)] H (noU_all rfl) (fun fr => by kernel_rfl) ?_
           intro fr H
           exact at_nil ⟨rfl, by first | exact H.less _ (fun fr => by rfl) | exact H.less _ (fun fr => by rw [hb]; rfl)⟩
         ·intro t fr h' hK
          obtain ⟨e, H⟩ := hK
          subst e
          refine at_seg [(68, [])] [(2, .ptr (some (h.size, 0))), (3, .ptr (some (h1.size, 0))), (73, .bool ((((((((((p0.Name == p1.Name) && (p0.Link == p1.Link)) && (p0.Kind == p1.Kind)) && (p0.Mode == p1.Mode)) && (p0.Uid == p1.Uid)) && (p0.Gid == p1.Gid)) && (p0.Uname == p1.Uname)) && (p0.Gname == p1.Gname)) && (p0.Major == p1.Major)) && (p0.Minor == p1.Minor)))] H (noU_all rfl) (fun fr => by kernel_rfl) ?_
          intro fr H
          obtain ⟨x1, ho, hm⟩ := bind_some hm
          refine at_cut [(69, []), (70, []), (71, []), (72, []), (73, []), (74, [])] (fun fr' h' => Has fr' 94 [(2, .ptr (some (h.size, 0))), (3, .ptr (some (h1.size, 0))), (79, .bool x1)] ∧ HH g h' [.obj h1.size (.cells none 2 (e_S_api_Member p1)), .obj h.size (.cells none 2 (e_S_api_Member p0))] F) ?_ ?_
          ·rcases iteB_some ho with ⟨hb, hm⟩ | ⟨hb, hm⟩
           ·replace H := H.know 73 hb (by kernel_rfl)
            refine at_seg [(69, [])] [(2, .ptr (some (h.size, 0))), (3, .ptr (some (h1.size, 0))), (73, .bool true), (74, .ptr (some (h.size, 10)))] H (noU_all rfl) (fun fr => by kernel_rfl) ?_
            intro fr H
            refine at_step (v := .agg [.int .i64 p0.Time.Sec, .int .i64 p0.Time.Nsec]) (h1 := h2) [(2, .ptr (some (h.size, 0))), (3, .ptr (some (h1.size, 0))), (73, .bool true), (75, .agg [.int .i64 p0.Time.Sec, .int .i64 p0.Time.Nsec])] H (fun fr => by kernel_rfl) (fun fr => .of (s_ldA (by kernel_rfl) (A.ldA 1 rfl (o := 10) (n := 2) ⟨Nat.le_of_ble_eq_true rfl, rfl⟩))) ?_
            intro fr t H
            refine at_seg [(71, [])] [(2, .ptr (some (h.size, 0))), (3, .ptr (some (h1.size, 0))), (73, .bool true), (75, .agg [.int .i64 p0.Time.Sec, .int .i64 p0.Time.Nsec]), (76, .ptr (some (h1.size, 10)))] H (noU_all rfl) (fun fr => by kernel_rfl) ?_
            intro fr H
            refine at_step (v := .agg [.int .i64 p1.Time.Sec, .int .i64 p1.Time.Nsec]) (h1 := h2) [(2, .ptr (some (h.size, 0))), (3, .ptr (some (h1.size, 0))), (73, .bool true), (75, .agg [.int .i64 p0.Time.Sec, .int .i64 p0.Time.Nsec]), (77, .agg [.int .i64 p1.Time.Sec, .int .i64 p1.Time.Nsec])] H (fun fr => by kernel_rfl) (fun fr => .of (s_ldA (by kernel_rfl) (A.ldA 0 rfl (o := 10) (n := 2) ⟨Nat.le_of_ble_eq_true rfl, rfl⟩))) ?_
            intro fr t H
            obtain ⟨x2, hx, hm⟩ := bind_some hm
            refine at_step (v := .bool x2) (h1 := h2) [(2, .ptr (some (h.size, 0))), (3, .ptr (some (h1.size, 0))), (73, .bool true), (78, .bool x2)] H (fun fr => by kernel_rfl) (fun fr => .of (s_eqG (by kernel_rfl) hx)) ?_
            intro fr t H
            refine at_seg [(74, [])] [(2, .ptr (some (h.size, 0))), (3, .ptr (some (h1.size, 0))), (79, .bool x2)] H (noU_all rfl) (fun fr => by kernel_rfl) ?_
            intro fr H
            have e1 := Option.some.inj hm
            subst e1
            exact at_nil ⟨H.less _ (fun fr => by kernel_rfl), A⟩
           ·replace H := H.know 73 hb (by kernel_rfl)
            refine at_seg [(69, []), (70, []), (71, []), (72, []), (73, []), (74, [])] [(2, .ptr (some (h.size, 0))), (3, .ptr (some (h1.size, 0))), (79, .bool false)] H (noU_all rfl) (fun fr => by kernel_rfl) ?_
            intro fr H
            have e1 := Option.some.inj hm
            subst e1
            exact at_nil ⟨H.less _ (fun fr => by kernel_rfl), A⟩
          ·clear A
           intro t fr h3 hK
           obtain ⟨H, A⟩ := hK
           refine at_seg [(75, [])] [(2, .ptr (some (h.size, 0))), (3, .ptr (some (h1.size, 0))), (80, .bool x1)] H (noU_all rfl) (fun fr => by kernel_rfl) ?_
           intro fr H
           obtain ⟨x3, ho, hm⟩ := bind_some hm
           refine at_cut [(76, []), (77, []), (78, []), (79, []), (80, []), (81, [])] (fun fr' h' => Has fr' 94 [(2, .ptr (some (h.size, 0))), (3, .ptr (some (h1.size, 0))), (86, .bool x3)] ∧ HH g h' [.obj h1.size (.cells none 2 (e_S_api_Member p1)), .obj h.size (.cells none 2 (e_S_api_Member p0))] F) ?_ ?_
           ·rcases iteB_some ho with ⟨hb, hm⟩ | ⟨hb, hm⟩
            ·replace H := H.know 80 hb (by kernel_rfl)
             refine at_seg [(76, [])] [(2, .ptr (some (h.size, 0))), (3, .ptr (some (h1.size, 0))), (80, .bool true), (81, .ptr (some (h.size, 12)))] H (noU_all rfl) (fun fr => by kernel_rfl) ?_
             intro fr H
             refine at_step (v := vs e_S_api_Pair p0.Extra) (h1 := h3) [(2, .ptr (some (h.size, 0))), (3, .ptr (some (h1.size, 0))), (80, .bool true), (82, vs e_S_api_Pair p0.Extra)] H (fun fr => by kernel_rfl) (fun fr => .of (s_ld (by kernel_rfl) (A.ld1 1 rfl (o := 12) rfl))) ?_
             intro fr t H
             refine at_seg [(78, [])] [(2, .ptr (some (h.size, 0))), (3, .ptr (some (h1.size, 0))), (80, .bool true), (82, vs e_S_api_Pair p0.Extra), (83, .ptr (some (h1.size, 12)))] H (noU_all rfl) (fun fr => by kernel_rfl) ?_
             intro fr H
             refine at_step (v := vs e_S_api_Pair p1.Extra) (h1 := h3) [(2, .ptr (some (h.size, 0))), (3, .ptr (some (h1.size, 0))), (80, .bool true), (82, vs e_S_api_Pair p0.Extra), (84, vs e_S_api_Pair p1.Extra)] H (fun fr => by kernel_rfl) (fun fr => .of (s_ld (by kernel_rfl) (A.ld1 0 rfl (o := 12) rfl))) ?_
             intro fr t H
             have A1 := A.cut 0
             obtain ⟨x4, hx, hm⟩ := bind_some hm
             obtain ⟨v1, h5, hr, rfl, A1⟩ := ok_boulterref06_Same (av := [vs e_S_api_Pair p0.Extra, vs e_S_api_Pair p1.Extra]) hx (by kernel_rfl) A1
             replace A : HH g h5 [.obj h1.size (.cells none 2 (e_S_api_Member p1)), .obj h.size (.cells none 2 (e_S_api_Member p0))] F := A.glue0 (n := 0) A1
             refine at_step (v := .bool x4) (h1 := h5) [(2, .ptr (some (h.size, 0))), (3, .ptr (some (h1.size, 0))), (80, .bool true), (85, .bool x4)] H (fun fr => by kernel_rfl) (fun fr => Steps.call (by kernel_rfl) hr) ?_
             intro fr t H
             refine at_seg [(81, [])] [(2, .ptr (some (h.size, 0))), (3, .ptr (some (h1.size, 0))), (86, .bool x4)] H (noU_all rfl) (fun fr => by kernel_rfl) ?_
             intro fr H
             have e1 := Option.some.inj hm
             subst e1
             exact at_nil ⟨H.less _ (fun fr => by kernel_rfl), A⟩
            ·replace H := H.know 80 hb (by kernel_rfl)
             refine at_seg [(76, []), (77, []), (78, []), (79, []), (80, []), (81, [])] [(2, .ptr (some (h.size, 0))), (3, .ptr (some (h1.size, 0))), (86, .bool false)] H (noU_all rfl) (fun fr => by kernel_rfl) ?_
             intro fr H
             have e1 := Option.some.inj hm
             subst e1
             exact at_nil ⟨H.less _ (fun fr => by kernel_rfl), A⟩
           ·clear A
            intro t fr h4 hK
            obtain ⟨H, A⟩ := hK
            refine at_seg [(82, [])] [(2, .ptr (some (h.size, 0))), (3, .ptr (some (h1.size, 0))), (87, .bool x3)] H (noU_all rfl) (fun fr => by kernel_rfl) ?_
            intro fr H
            refine at_cut [(83, []), (84, []), (85, []), (86, []), (87, []), (88, [])] (fun fr' h' => h4 = h' ∧ Has fr' 94 [(93, .bool (x3 && (p0.Data == p1.Data)))]) ?_ ?_
            ·cases hb : (x3 : Bool) with
             | true =>
              replace H := H.know 87 hb (by kernel_rfl)
              refine at_seg [(83, [])] [(3, .ptr (some (h1.size, 0))), (87, .bool true), (88, .ptr (some (h.size, 13)))] H (noU_all rfl) (fun fr => by kernel_rfl) ?_
              intro fr H
              refine at_step (v := .str p0.Data) (h1 := h4) [(3, .ptr (some (h1.size, 0))), (87, .bool true), (89, .str p0.Data)] H (fun fr => by kernel_rfl) (fun fr => .of (s_ld (by kernel_rfl) (A.ld1 1 rfl (o := 13) rfl))) ?_
              intro fr t H
              refine at_seg [(85, [])] [(87, .bool true), (89, .str p0.Data), (90, .ptr (some (h1.size, 13)))] H (noU_all rfl) (fun fr => by kernel_rfl) ?_
              intro fr H
              refine at_step (v := .str p1.Data) (h1 := h4) [(87, .bool true), (89, .str p0.Data), (91, .str p1.Data)] H (fun fr => by kernel_rfl) (fun fr => .of (s_ld (by kernel_rfl) (A.ld1 0 rfl (o := 13) rfl))) ?_
              intro fr t H
              refine at_seg [(87, []), (88, [])] [(93, .bool (p0.Data == p1.Data))] H (noU_all rfl) (fun fr => by kernel_rfl) ?_
              intro fr H
              exact at_nil ⟨rfl, by first | exact H.less _ (fun fr => by rfl) | exact H.less _ (fun fr => by rw [hb]; rfl)⟩
             | false =>
              replace H := H.know 87 hb (by kernel_rfl)
              refine at_seg [(83, []), (84, []), (85, []), (86, []), (87, []), (88, [])] [(93, .bool false)] H (noU_all rfl) (fun fr => by kernel_rfl) ?_
              intro fr H
              exact at_nil ⟨rfl, by first | exact H.less _ (fun fr => by rfl) | exact H.less _ (fun fr => by rw [hb]; rfl)⟩
            ·intro t fr h' hK
             obtain ⟨e, H⟩ := hK
             subst e
             refine at_seg [(89, [])] [(4, .bool (x3 && (p0.Data == p1.Data)))] H (noU_all rfl) (fun fr => by kernel_rfl) ?_
             intro fr H
             refine at_nil ?_
             show AW cfg 11 g (right (right (bodyC cfg.P 11))) fr h4 _
             refine aw_ret (by kernel_rfl) ?_
             have e1 := Option.some.inj hm
             subst e1
             refine ⟨.inl rfl, .bool (x3 && (p0.Data == p1.Data)), resH H (fun fr => by kernel_rfl), ?_⟩
             replace A : HH g h4 [] F := (HH.dropF A 0)
             exact ⟨rfl, A⟩
/-! ### boulter/archive.Find -/
noncomputable def M_archive_Find_L0 (p0 : List S_api_Member) (p1 : List UInt8) (s : Int) : Option ((Int) ⊕ ((Unit) ⊕ (Int × Bool))) :=
 match s with
 | x1 => iteB (decide (x1 ≥ (0 : Int))) ((ixV p0 x1).bind fun x4 => iteB (x4.Name == p1) (some (.inr (.inr (x1, true)))) (some (.inl (IntKind.i64.wrap (x1 - (1 : Int)))))) (some (.inr (.inl ())))
noncomputable def M_archive_Find (p0 : List S_api_Member) (p1 : List UInt8) : Option (Int × Bool) :=
 (loop (M_archive_Find_L0 p0 p1) (IntKind.i64.wrap ((p0.length : Int) - (1 : Int)))).bind fun o1 => (match o1 with | .inl _ => some ((0 : Int), false) | .inr (x2, x3) => some (x2, x3))
theorem ok_archive_Find {g : Gd} {h : AHeap} {F : List Ck} {p0 : List S_api_Member} {p1 : List UInt8} {q0 : Int} {q1 : Bool} {av : List AVal} (hm : M_archive_Find p0 p1 = some (q0, q1)) (hc : canL (cfg.still 17) av = [vs e_S_api_Member p0, .str p1]) (A : HH g h [] F) : ∃ v h', Runs cfg g h 17 av v h' ∧ v = .tuple [.int .i64 q0, .bool q1] ∧ HH g h' [] F := by
 refine runsQ1 (n := 22) (rs := [.tmp 4, .tmp 5]) (by kernel_rfl) hc (by kernel_rfl) ?_
 clear hc
 unfold M_archive_Find at hm
 refine start (n := 22) [(0, vs e_S_api_Member p0), (1, .str p1)] (by kernel_rfl) (by kernel_rfl) ?_
 intro fr H
 refine aw_seq (by kernel_rfl) ?_
 refine aw_reg (id := 0) (n := 2) [(0, []), (1, [])] (by kernel_rfl) (by kernel_rfl) ?_
 refine at_seg [(0, []), (1, [])] [(0, vs e_S_api_Member p0), (1, .str p1)] H (noU_all rfl) (fun fr => by kernel_rfl) ?_
 intro fr H
 refine at_nil ?_
 show AW cfg 17 g (right (bodyC cfg.P 17)) fr h _
 refine aw_seq (by kernel_rfl) ?_
 refine aw_seq (by kernel_rfl) ?_
 refine aw_reg (id := 1) (n := 4) [(0, []), (1, []), (2, []), (3, [])] (by kernel_rfl) (by kernel_rfl) ?_
 refine at_seg [(0, []), (1, []), (2, []), (3, [])] [(0, vs e_S_api_Member p0), (1, .str p1), (6, .int .i64 (IntKind.i64.wrap ((p0.length : Int) - (1 : Int))))] H (noU_all rfl) (fun fr => by kernel_rfl) ?_
 intro fr H
 refine at_nil ?_
 show AW cfg 17 g (right (left (right (bodyC cfg.P 17)))) fr h _
 refine aw_block (id := 0) (by kernel_rfl) ?_
 obtain ⟨o1, ho, hm⟩ := bind_some hm
 refine aw_mono (Q' := fun e fr' h' => (e = .exit 0 ∧ .inl () = o1 ∧ Has fr' 22 [] ∧ HH g h' [] F) ∨ (∃ (x2 : Int) (x3 : Bool), e = .ret ∧ .inr (x2, x3) = o1 ∧ Has fr' 22 [(4, .int .i64 x2), (5, .bool x3)] ∧ HH g h' [] F) ∨ False) ?_ ?_
 ·refine aw_loop (by kernel_rfl) (fun (s : Int) fr' h' => ∃ (x1 : Int), x1 = s ∧ Has fr' 22 [(0, vs e_S_api_Member p0), (1, .str p1), (6, .int .i64 x1)] ∧ HH g h' [] F) ho ⟨IntKind.i64.wrap ((p0.length : Int) - (1 : Int)), rfl, H.less _ (fun fr => by kernel_rfl), A⟩ ?_
  clear ho hm H A
  intro s q fr h1 hI hm
  obtain ⟨x1, rfl, H, A⟩ := hI
  unfold M_archive_Find_L0 at hm
  refine aw_seq (by kernel_rfl) ?_
  refine aw_seq (by kernel_rfl) ?_
  refine aw_reg (id := 2) (n := 2) [(0, []), (1, [])] (by kernel_rfl) (by kernel_rfl) ?_
  refine at_seg [(0, []), (1, [])] [(0, vs e_S_api_Member p0), (1, .str p1), (6, .int .i64 x1), (11, .bool (decide (x1 ≥ (0 : Int))))] H (noU_all rfl) (fun fr => by kernel_rfl) ?_
  intro fr H
  refine at_nil ?_
  show AW cfg 17 g (right (left (left (left (right (left (right (bodyC cfg.P 17)))))))) fr h1 _
  rcases iteB_some hm with ⟨hb, hm⟩ | ⟨hb, hm⟩
  ·replace H := H.know 11 hb (by kernel_rfl)
   refine aw_true (x := .tmp 11) (by kernel_rfl) H (fun fr => by kernel_rfl) ?_
   refine aw_skip (by kernel_rfl) ?_
   show AW cfg 17 g (right (left (left (right (left (right (bodyC cfg.P 17))))))) fr h1 _
   refine aw_seq (by kernel_rfl) ?_
   refine aw_block (id := 1) (by kernel_rfl) ?_
   refine aw_seq (by kernel_rfl) ?_
   refine aw_reg (id := 4) (n := 7) [(0, []), (1, []), (2, []), (3, []), (4, []), (5, []), (6, [])] (by kernel_rfl) (by kernel_rfl) ?_
   refine at_seg [(0, []), (1, [])] [(0, vs e_S_api_Member p0), (1, .str p1), (6, .int .i64 x1), (14, vs e_S_api_Member p0), (15, .int .i64 x1)] H (noU_all rfl) (fun fr => by kernel_rfl) ?_
   intro fr H
   obtain ⟨x4, hx, hm⟩ := bind_some hm
   refine at_step (v := .vptr (e_S_api_Member x4)) (h1 := h1) [(0, vs e_S_api_Member p0), (1, .str p1), (6, .int .i64 x1), (16, .vptr (e_S_api_Member x4))] H (fun fr => by kernel_rfl) (fun fr => .of (s_ixV (e := e_S_api_Member) (x := x4) enc_S_api_Member (by decide) (by kernel_rfl) hx)) ?_
   intro fr t H
   refine at_seg [(3, [])] [(0, vs e_S_api_Member p0), (1, .str p1), (6, .int .i64 x1), (17, .vptr [.str x4.Name, .str x4.Link, .int .u8 x4.Kind, .int .i64 x4.Mode, .int .i64 x4.Uid, .int .i64 x4.Gid, .str x4.Uname, .str x4.Gname, .int .i64 x4.Major, .int .i64 x4.Minor, .int .i64 x4.Time.Sec, .int .i64 x4.Time.Nsec, vs e_S_api_Pair x4.Extra, .str x4.Data])] H (noU_all rfl) (fun fr => by kernel_rfl) ?_
   intro fr H
   refine at_step (v := .str x4.Name) (h1 := h1) [(0, vs e_S_api_Member p0), (1, .str p1), (6, .int .i64 x1), (18, .str x4.Name)] H (fun fr => by kernel_rfl) (fun fr => .of (s_lv (by kernel_rfl))) ?_
   intro fr t H
   refine at_seg [(5, []), (6, [])] [(0, vs e_S_api_Member p0), (1, .str p1), (6, .int .i64 x1), (20, .bool (x4.Name == p1))] H (noU_all rfl) (fun fr => by kernel_rfl) ?_
   intro fr H
   refine at_nil ?_
   show AW cfg 17 g (right (left (left (right (left (left (right (left (right (bodyC cfg.P 17)))))))))) fr h1 _
   rcases iteB_some hm with ⟨hb, hm⟩ | ⟨hb, hm⟩
   ·replace H := H.know 20 hb (by kernel_rfl)
    refine aw_true (x := .tmp 20) (by kernel_rfl) H (fun fr => by kernel_rfl) ?_
    refine aw_seq (by kernel_rfl) ?_
    refine aw_reg (id := 5) (n := 3) [(0, []), (1, []), (2, [])] (by kernel_rfl) (by kernel_rfl) ?_
    refine at_seg [(0, []), (1, []), (2, [])] [(4, .int .i64 x1), (5, .bool true)] H (noU_all rfl) (fun fr => by kernel_rfl) ?_
    intro fr H
    refine at_nil ?_
    show AW cfg 17 g (right (left (right (left (left (right (left (left (right (left (right (bodyC cfg.P 17)))))))))))) fr h1 _
    refine aw_ret (by kernel_rfl) ?_
    exact Exists.intro _ (And.intro (Option.some.inj hm).symm (fun e => Or.inr (Or.inl ⟨x1, true, rfl, e, H.less _ (fun fr => by kernel_rfl), A⟩)))
   ·replace H := H.know 20 hb (by kernel_rfl)
    refine aw_false (x := .tmp 20) (by kernel_rfl) H (fun fr => by kernel_rfl) ?_
    refine aw_skip (by kernel_rfl) ?_
    show AW cfg 17 g (right (right (left (left (right (left (right (bodyC cfg.P 17)))))))) fr h1 _
    refine aw_reg (id := 3) (n := 3) [(0, []), (1, []), (2, [])] (by kernel_rfl) (by kernel_rfl) ?_
    refine at_seg [(0, []), (1, []), (2, [])] [(0, vs e_S_api_Member p0), (1, .str p1), (6, .int .i64 (IntKind.i64.wrap (x1 - (1 : Int))))] H (noU_all rfl) (fun fr => by kernel_rfl) ?_
    intro fr H
    refine at_nil ?_
    exact Exists.intro (IntKind.i64.wrap (x1 - (1 : Int))) (And.intro (Option.some.inj hm).symm ⟨IntKind.i64.wrap (x1 - (1 : Int)), rfl, H.less _ (fun fr => by kernel_rfl), A⟩)
  ·replace H := H.know 11 hb (by kernel_rfl)
   refine aw_false (x := .tmp 11) (by kernel_rfl) H (fun fr => by kernel_rfl) ?_
   refine aw_exit (i := 0) (by kernel_rfl) ?_
   exact Exists.intro _ (And.intro (Option.some.inj hm).symm (fun e => Or.inl ⟨rfl, e, H.less _ (fun fr => by kernel_rfl), A⟩))
 ·clear ho
  clear A
  intro e fr h2 hQ
  rcases hQ with ⟨rfl, rfl, H, A⟩ | ⟨x2, x3, rfl, rfl, H, A⟩ | hF
  ·skip
   show AW cfg 17 g (right (right (bodyC cfg.P 17))) fr h2 _
   refine aw_seq (by kernel_rfl) ?_
   refine aw_reg (id := 6) (n := 2) [(0, []), (1, [])] (by kernel_rfl) (by kernel_rfl) ?_
   refine at_seg [(0, []), (1, [])] [(4, .int .i64 (0 : Int)), (5, .bool false)] H (noU_all rfl) (fun fr => by kernel_rfl) ?_
   intro fr H
   refine at_nil ?_
   show AW cfg 17 g (right (right (right (bodyC cfg.P 17)))) fr h2 _
   refine aw_ret (by kernel_rfl) ?_
   have e0 := Option.some.inj hm
   obtain ⟨y0, z0⟩ := Prod.mk.inj e0
   subst y0
   subst z0
   refine ⟨.inl rfl, .tuple [.int .i64 (0 : Int), .bool false], resH H (fun fr => by kernel_rfl), ?_⟩
   exact ⟨rfl, A⟩
  ·skip
   have e0 := Option.some.inj hm
   obtain ⟨y0, z0⟩ := Prod.mk.inj e0
   subst y0
   subst z0
   refine ⟨.inl rfl, .tuple [.int .i64 x2, .bool x3], resH H (fun fr => by kernel_rfl), ?_⟩
   exact ⟨rfl, A⟩
  ·exact hF.elim
/-! ### boulter/boulterref12.Find -/
noncomputable def M_boulterref12_Find_L0 (p0 : List S_api_Member) (p1 : List UInt8) (s : Int × Int) : Option ((Int × Int) ⊕ ((Int))) :=
 match s with
 | (x1, x2) => iteB (decide (x2 < (p0.length : Int))) (((ixV p0 x2).bind fun x5 => iteB (x5.Name == p1) (some x2) (some x1) : Option ((Int))).bind fun x4 => some (.inl (x4, IntKind.i64.wrap (x2 + (1 : Int))))) (some (.inr x1))
noncomputable def M_boulterref12_Find (p0 : List S_api_Member) (p1 : List UInt8) : Option (Int) :=
 (loop (M_boulterref12_Find_L0 p0 p1) ((-1 : Int), (0 : Int))).bind fun x3 => some x3
theorem ok_boulterref12_Find {g : Gd} {h : AHeap} {F : List Ck} {p0 : List S_api_Member} {p1 : List UInt8} {q0 : Int} {av : List AVal} (hm : M_boulterref12_Find p0 p1 = some q0) (hc : canL (cfg.still 18) av = [vs e_S_api_Member p0, .str p1]) (A : HH g h [] F) : ∃ v h', Runs cfg g h 18 av v h' ∧ v = .int .i64 q0 ∧ HH g h' [] F := by
 refine runsQ1 (n := 22) (rs := [.tmp 4]) (by kernel_rfl) hc (by kernel_rfl) ?_
 clear hc
 unfold M_boulterref12_Find at hm
 refine start (n := 22) [(0, vs e_S_api_Member p0), (1, .str p1)] (by kernel_rfl) (by kernel_rfl) ?_
 intro fr H
 refine aw_seq (by kernel_rfl) ?_
 refine aw_reg (id := 0) (n := 1) [(0, [])] (by kernel_rfl) (by kernel_rfl) ?_
 refine at_seg [(0, [])] [(0, vs e_S_api_Member p0), (1, .str p1)] H (noU_all rfl) (fun fr => by kernel_rfl) ?_
 intro fr H
 refine at_nil ?_
 show AW cfg 18 g (right (bodyC cfg.P 18)) fr h _
 refine aw_seq (by kernel_rfl) ?_
 refine aw_reg (id := 1) (n := 1) [(0, [])] (by kernel_rfl) (by kernel_rfl) ?_
 refine at_seg [(0, [])] [(0, vs e_S_api_Member p0), (1, .str p1), (5, .int .i64 (-1 : Int))] H (noU_all rfl) (fun fr => by kernel_rfl) ?_
 intro fr H
 refine at_nil ?_
 show AW cfg 18 g (right (right (bodyC cfg.P 18))) fr h _
 refine aw_seq (by kernel_rfl) ?_
 refine aw_seq (by kernel_rfl) ?_
 refine aw_reg (id := 2) (n := 1) [(0, [])] (by kernel_rfl) (by kernel_rfl) ?_
 refine at_seg [(0, [])] [(0, vs e_S_api_Member p0), (1, .str p1), (5, .int .i64 (-1 : Int)), (6, .int .i64 (0 : Int))] H (noU_all rfl) (fun fr => by kernel_rfl) ?_
 intro fr H
 refine at_nil ?_
 show AW cfg 18 g (right (left (right (right (bodyC cfg.P 18))))) fr h _
 refine aw_block (id := 0) (by kernel_rfl) ?_
 obtain ⟨o1, ho, hm⟩ := bind_some hm
 refine aw_mono (Q' := fun e fr' h' => (∃ (x3 : Int), e = .exit 0 ∧ x3 = o1 ∧ Has fr' 22 [(5, .int .i64 x3)] ∧ HH g h' [] F) ∨ False) ?_ ?_
 ·refine aw_loop (by kernel_rfl) (fun (s : Int × Int) fr' h' => ∃ (x1 : Int) (x2 : Int), (x1, x2) = s ∧ Has fr' 22 [(0, vs e_S_api_Member p0), (1, .str p1), (5, .int .i64 x1), (6, .int .i64 x2)] ∧ HH g h' [] F) ho ⟨(-1 : Int), (0 : Int), rfl, H.less _ (fun fr => by kernel_rfl), A⟩ ?_
  clear ho hm H A
  intro s q fr h1 hI hm
  obtain ⟨x1, x2, rfl, H, A⟩ := hI
  unfold M_boulterref12_Find_L0 at hm
  refine aw_seq (by kernel_rfl) ?_
  refine aw_seq (by kernel_rfl) ?_
  refine aw_reg (id := 3) (n := 4) [(0, []), (1, []), (2, []), (3, [])] (by kernel_rfl) (by kernel_rfl) ?_
  refine at_seg [(0, []), (1, []), (2, []), (3, [])] [(0, vs e_S_api_Member p0), (1, .str p1), (5, .int .i64 x1), (6, .int .i64 x2), (10, .bool (decide (x2 < (p0.length : Int))))] H (noU_all rfl) (fun fr => by kernel_rfl) ?_
  intro fr H
  refine at_nil ?_
  show AW cfg 18 g (right (left (left (left (right (left (right (right (bodyC cfg.P 18))))))))) fr h1 _
  rcases iteB_some hm with ⟨hb, hm⟩ | ⟨hb, hm⟩
  ·replace H := H.know 10 hb (by kernel_rfl)
   refine aw_true (x := .tmp 10) (by kernel_rfl) H (fun fr => by kernel_rfl) ?_
   refine aw_skip (by kernel_rfl) ?_
   show AW cfg 18 g (right (left (left (right (left (right (right (bodyC cfg.P 18)))))))) fr h1 _
   refine aw_seq (by kernel_rfl) ?_
   obtain ⟨o2, ho, hm⟩ := bind_some hm
   refine aw_mono (Q' := fun e fr' h' => (∃ (x4 : Int), e = .normal ∧ x4 = o2 ∧ Has fr' 22 [(0, vs e_S_api_Member p0), (1, .str p1), (5, .int .i64 x4), (6, .int .i64 x2)] ∧ HH g h' [] F) ∨ False) ?_ ?_
   ·replace hm := ho
    clear ho
    refine aw_block (id := 1) (by kernel_rfl) ?_
    refine aw_seq (by kernel_rfl) ?_
    refine aw_reg (id := 5) (n := 7) [(0, []), (1, []), (2, []), (3, []), (4, []), (5, []), (6, [])] (by kernel_rfl) (by kernel_rfl) ?_
    refine at_seg [(0, []), (1, [])] [(0, vs e_S_api_Member p0), (1, .str p1), (5, .int .i64 x1), (6, .int .i64 x2), (13, vs e_S_api_Member p0), (14, .int .i64 x2)] H (noU_all rfl) (fun fr => by kernel_rfl) ?_
    intro fr H
    obtain ⟨x5, hx, hm⟩ := bind_some hm
    refine at_step (v := .vptr (e_S_api_Member x5)) (h1 := h1) [(0, vs e_S_api_Member p0), (1, .str p1), (5, .int .i64 x1), (6, .int .i64 x2), (15, .vptr (e_S_api_Member x5))] H (fun fr => by kernel_rfl) (fun fr => .of (s_ixV (e := e_S_api_Member) (x := x5) enc_S_api_Member (by decide) (by kernel_rfl) hx)) ?_
    intro fr t H
    refine at_seg [(3, [])] [(0, vs e_S_api_Member p0), (1, .str p1), (5, .int .i64 x1), (6, .int .i64 x2), (16, .vptr [.str x5.Name, .str x5.Link, .int .u8 x5.Kind, .int .i64 x5.Mode, .int .i64 x5.Uid, .int .i64 x5.Gid, .str x5.Uname, .str x5.Gname, .int .i64 x5.Major, .int .i64 x5.Minor, .int .i64 x5.Time.Sec, .int .i64 x5.Time.Nsec, vs e_S_api_Pair x5.Extra, .str x5.Data])] H (noU_all rfl) (fun fr => by kernel_rfl) ?_
    intro fr H
    refine at_step (v := .str x5.Name) (h1 := h1) [(0, vs e_S_api_Member p0), (1, .str p1), (5, .int .i64 x1), (6, .int .i64 x2), (17, .str x5.Name)] H (fun fr => by kernel_rfl) (fun fr => .of (s_lv (by kernel_rfl))) ?_
    intro fr t H
    refine at_seg [(5, []), (6, [])] [(0, vs e_S_api_Member p0), (1, .str p1), (5, .int .i64 x1), (6, .int .i64 x2), (19, .bool (x5.Name == p1))] H (noU_all rfl) (fun fr => by kernel_rfl) ?_
    intro fr H
    refine at_nil ?_
    show AW cfg 18 g (right (left (left (right (left (left (right (left (right (right (bodyC cfg.P 18))))))))))) fr h1 _
    rcases iteB_some hm with ⟨hb, hm⟩ | ⟨hb, hm⟩
    ·replace H := H.know 19 hb (by kernel_rfl)
     refine aw_true (x := .tmp 19) (by kernel_rfl) H (fun fr => by kernel_rfl) ?_
     refine aw_reg (id := 6) (n := 2) [(0, []), (1, [])] (by kernel_rfl) (by kernel_rfl) ?_
     refine at_seg [(0, []), (1, [])] [(0, vs e_S_api_Member p0), (1, .str p1), (5, .int .i64 x2), (6, .int .i64 x2)] H (noU_all rfl) (fun fr => by kernel_rfl) ?_
     intro fr H
     refine at_nil ?_
     exact Or.inl ⟨x2, rfl, Option.some.inj hm, H.less _ (fun fr => by kernel_rfl), A⟩
    ·replace H := H.know 19 hb (by kernel_rfl)
     refine aw_false (x := .tmp 19) (by kernel_rfl) H (fun fr => by kernel_rfl) ?_
     refine aw_skip (by kernel_rfl) ?_
     exact Or.inl ⟨x1, rfl, Option.some.inj hm, H.less _ (fun fr => by kernel_rfl), A⟩
   ·clear ho
    clear A
    intro e fr h2 hQ
    rcases hQ with ⟨x4, rfl, rfl, H, A⟩ | hF
    ·skip
     show AW cfg 18 g (right (right (left (left (right (left (right (right (bodyC cfg.P 18))))))))) fr h2 _
     refine aw_reg (id := 4) (n := 3) [(0, []), (1, []), (2, [])] (by kernel_rfl) (by kernel_rfl) ?_
     refine at_seg [(0, []), (1, []), (2, [])] [(0, vs e_S_api_Member p0), (1, .str p1), (5, .int .i64 x4), (6, .int .i64 (IntKind.i64.wrap (x2 + (1 : Int))))] H (noU_all rfl) (fun fr => by kernel_rfl) ?_
     intro fr H
     refine at_nil ?_
     exact Exists.intro (x4, IntKind.i64.wrap (x2 + (1 : Int))) (And.intro (Option.some.inj hm).symm ⟨x4, IntKind.i64.wrap (x2 + (1 : Int)), rfl, H.less _ (fun fr => by kernel_rfl), A⟩)
    ·exact hF.elim
  ·replace H := H.know 10 hb (by kernel_rfl)
   refine aw_false (x := .tmp 10) (by kernel_rfl) H (fun fr => by kernel_rfl) ?_
   refine aw_exit (i := 0) (by kernel_rfl) ?_
   exact Exists.intro _ (And.intro (Option.some.inj hm).symm (fun e => Or.inl ⟨x1, rfl, e, H.less _ (fun fr => by kernel_rfl), A⟩))
 ·clear ho
  clear A
  intro e fr h3 hQ
  rcases hQ with ⟨x3, rfl, rfl, H, A⟩ | hF
  ·skip
   show AW cfg 18 g (right (right (right (bodyC cfg.P 18)))) fr h3 _
   refine aw_seq (by kernel_rfl) ?_
   refine aw_reg (id := 7) (n := 2) [(0, []), (1, [])] (by kernel_rfl) (by kernel_rfl) ?_
   refine at_seg [(0, []), (1, [])] [(4, .int .i64 x3)] H (noU_all rfl) (fun fr => by kernel_rfl) ?_
   intro fr H
   refine at_nil ?_
   show AW cfg 18 g (right (right (right (right (bodyC cfg.P 18))))) fr h3 _
   refine aw_ret (by kernel_rfl) ?_
   have e1 := Option.some.inj hm
   subst e1
   refine ⟨.inl rfl, .int .i64 x3, resH H (fun fr => by kernel_rfl), ?_⟩
   exact ⟨rfl, A⟩
  ·exact hF.elim
/-! ### slices.EqualFunc[[]boulter/api.Member,[]boulter/api.Member,boulter/api.Member,boulter/api.Member] -/
noncomputable def M_slices_EqualFunc_boulter_api_Member_boulter_api_Member_boulter_api_Member_boulter_api_Member_sVVF_L0 (p0 : List S_api_Member) (p1 : List S_api_Member) (s : Int) : Option ((Int) ⊕ ((Unit) ⊕ (Bool))) :=
 match s with
 | x1 => iteB (decide (x1 < (p0.length : Int))) ((ixV p0 x1).bind fun x3 => (ixV p1 x1).bind fun x4 => (M_archive_Same x3 x4).bind fun x5 => iteB (!x5) (some (.inr (.inr false))) (some (.inl (IntKind.i64.wrap (x1 + (1 : Int)))))) (some (.inr (.inl ())))
noncomputable def M_slices_EqualFunc_boulter_api_Member_boulter_api_Member_boulter_api_Member_boulter_api_Member_sVVF (p0 : List S_api_Member) (p1 : List S_api_Member) : Option (Bool) :=
 iteB ((p0.length : Int) != (p1.length : Int)) (some false) ((loop (M_slices_EqualFunc_boulter_api_Member_boulter_api_Member_boulter_api_Member_boulter_api_Member_sVVF_L0 p0 p1) (0 : Int)).bind fun o1 => (match o1 with | .inl _ => some true | .inr x2 => some x2))
theorem ok_slices_EqualFunc_boulter_api_Member_boulter_api_Member_boulter_api_Member_boulter_api_Member_sVVF {g : Gd} {h : AHeap} {F : List Ck} {p0 : List S_api_Member} {p1 : List S_api_Member} {q0 : Bool} {av : List AVal} (hm : M_slices_EqualFunc_boulter_api_Member_boulter_api_Member_boulter_api_Member_boulter_api_Member_sVVF p0 p1 = some q0) (hc : canL (cfg.still 36) av = [vs e_S_api_Member p0, vs e_S_api_Member p1, .func (.func 16) [] []]) (A : HH g h [] F) : ∃ v h', Runs cfg g h 36 av v h' ∧ v = .bool q0 ∧ HH g h' [] F := by
 refine runsQ1 (n := 32) (rs := [.tmp 6]) (by kernel_rfl) hc (by kernel_rfl) ?_
 clear hc
 unfold M_slices_EqualFunc_boulter_api_Member_boulter_api_Member_boulter_api_Member_boulter_api_Member_sVVF at hm
 refine start (n := 32) [(0, vs e_S_api_Member p0), (1, vs e_S_api_Member p1), (2, .func (.func 16) [] [])] (by kernel_rfl) (by kernel_rfl) ?_
 intro fr H
 refine aw_seq (by kernel_rfl) ?_
 refine aw_reg (id := 0) (n := 1) [(0, [])] (by kernel_rfl) (by kernel_rfl) ?_
 refine at_seg [(0, [])] [(0, vs e_S_api_Member p0), (1, vs e_S_api_Member p1), (2, .func (.func 16) [] [])] H (noU_all rfl) (fun fr => by kernel_rfl) ?_
 intro fr H
 refine at_nil ?_
 show AW cfg 36 g (right (bodyC cfg.P 36)) fr h _
 refine aw_seq (by kernel_rfl) ?_
 refine aw_seq (by kernel_rfl) ?_
 refine aw_reg (id := 1) (n := 5) [(0, []), (1, []), (2, []), (3, []), (4, [])] (by kernel_rfl) (by kernel_rfl) ?_
 refine at_seg [(0, []), (1, []), (2, []), (3, []), (4, [])] [(0, vs e_S_api_Member p0), (1, vs e_S_api_Member p1), (2, .func (.func 16) [] []), (14, .bool ((p0.length : Int) != (p1.length : Int)))] H (noU_all rfl) (fun fr => by kernel_rfl) ?_
 intro fr H
 refine at_nil ?_
 show AW cfg 36 g (right (left (right (bodyC cfg.P 36)))) fr h _
 rcases iteB_some hm with ⟨hb, hm⟩ | ⟨hb, hm⟩
 ·replace H := H.know 14 hb (by kernel_rfl)
  refine aw_true (x := .tmp 14) (by kernel_rfl) H (fun fr => by kernel_rfl) ?_
  refine aw_seq (by kernel_rfl) ?_
  refine aw_reg (id := 2) (n := 1) [(0, [])] (by kernel_rfl) (by kernel_rfl) ?_
  refine at_seg [(0, [])] [(6, .bool false)] H (noU_all rfl) (fun fr => by kernel_rfl) ?_
  intro fr H
  refine at_nil ?_
  show AW cfg 36 g (right (left (right (left (right (bodyC cfg.P 36)))))) fr h _
  refine aw_ret (by kernel_rfl) ?_
  have e1 := Option.some.inj hm
  subst e1
  refine ⟨.inl rfl, .bool false, resH H (fun fr => by kernel_rfl), ?_⟩
  exact ⟨rfl, A⟩
 ·replace H := H.know 14 hb (by kernel_rfl)
  refine aw_false (x := .tmp 14) (by kernel_rfl) H (fun fr => by kernel_rfl) ?_
  refine aw_skip (by kernel_rfl) ?_
  show AW cfg 36 g (right (right (bodyC cfg.P 36))) fr h _
  refine aw_seq (by kernel_rfl) ?_
  refine aw_seq (by kernel_rfl) ?_
  refine aw_reg (id := 3) (n := 3) [(0, []), (1, []), (2, [])] (by kernel_rfl) (by kernel_rfl) ?_
  refine at_seg [(0, []), (1, []), (2, [])] [(1, vs e_S_api_Member p1), (2, .func (.func 16) [] []), (15, vs e_S_api_Member p0), (16, .int .i64 (p0.length : Int)), (17, .int .i64 (0 : Int))] H (noU_all rfl) (fun fr => by kernel_rfl) ?_
  intro fr H
  refine at_nil ?_
  show AW cfg 36 g (right (left (right (right (bodyC cfg.P 36))))) fr h _
  refine aw_block (id := 0) (by kernel_rfl) ?_
  obtain ⟨o1, ho, hm⟩ := bind_some hm
  refine aw_mono (Q' := fun e fr' h' => (e = .exit 0 ∧ .inl () = o1 ∧ Has fr' 32 [] ∧ HH g h' [] F) ∨ (∃ (x2 : Bool), e = .ret ∧ .inr x2 = o1 ∧ Has fr' 32 [(6, .bool x2)] ∧ HH g h' [] F) ∨ False) ?_ ?_
  ·refine aw_loop (by kernel_rfl) (fun (s : Int) fr' h' => ∃ (x1 : Int), x1 = s ∧ Has fr' 32 [(1, vs e_S_api_Member p1), (2, .func (.func 16) [] []), (15, vs e_S_api_Member p0), (16, .int .i64 (p0.length : Int)), (17, .int .i64 x1)] ∧ HH g h' [] F) ho ⟨(0 : Int), rfl, H.less _ (fun fr => by kernel_rfl), A⟩ ?_
   clear ho hm H A
   intro s q fr h1 hI hm
   obtain ⟨x1, rfl, H, A⟩ := hI
   unfold M_slices_EqualFunc_boulter_api_Member_boulter_api_Member_boulter_api_Member_boulter_api_Member_sVVF_L0 at hm
   refine aw_seq (by kernel_rfl) ?_
   refine aw_reg (id := 4) (n := 1) [(0, [])] (by kernel_rfl) (by kernel_rfl) ?_
   refine at_seg [(0, [])] [(1, vs e_S_api_Member p1), (2, .func (.func 16) [] []), (15, vs e_S_api_Member p0), (16, .int .i64 (p0.length : Int)), (17, .int .i64 x1), (18, .bool (decide (x1 < (p0.length : Int))))] H (noU_all rfl) (fun fr => by kernel_rfl) ?_
   intro fr H
   refine at_nil ?_
   show AW cfg 36 g (right (left (left (right (left (right (right (bodyC cfg.P 36)))))))) fr h1 _
   refine aw_seq (by kernel_rfl) ?_
   rcases iteB_some hm with ⟨hb, hm⟩ | ⟨hb, hm⟩
   ·replace H := H.know 18 hb (by kernel_rfl)
    refine aw_true (x := .tmp 18) (by kernel_rfl) H (fun fr => by kernel_rfl) ?_
    refine aw_skip (by kernel_rfl) ?_
    show AW cfg 36 g (right (right (left (left (right (left (right (right (bodyC cfg.P 36))))))))) fr h1 _
    refine aw_seq (by kernel_rfl) ?_
    refine aw_block (id := 1) (by kernel_rfl) ?_
    refine aw_seq (by kernel_rfl) ?_
    refine aw_reg (id := 5) (n := 6) [(0, []), (1, []), (2, []), (3, []), (4, []), (5, [])] (by kernel_rfl) (by kernel_rfl) ?_
    refine at_seg [(0, [])] [(1, vs e_S_api_Member p1), (2, .func (.func 16) [] []), (15, vs e_S_api_Member p0), (16, .int .i64 (p0.length : Int)), (17, .int .i64 x1), (19, .int .i64 x1)] H (noU_all rfl) (fun fr => by kernel_rfl) ?_
    intro fr H
    obtain ⟨x3, hx, hm⟩ := bind_some hm
    refine at_step (v := .vptr (e_S_api_Member x3)) (h1 := h1) [(1, vs e_S_api_Member p1), (2, .func (.func 16) [] []), (15, vs e_S_api_Member p0), (16, .int .i64 (p0.length : Int)), (17, .int .i64 x1), (19, .int .i64 x1), (20, .vptr (e_S_api_Member x3))] H (fun fr => by kernel_rfl) (fun fr => .of (s_ixV (e := e_S_api_Member) (x := x3) enc_S_api_Member (by decide) (by kernel_rfl) hx)) ?_
    intro fr t H
    refine at_step (v := .agg (e_S_api_Member x3)) (h1 := h1) [(1, vs e_S_api_Member p1), (2, .func (.func 16) [] []), (15, vs e_S_api_Member p0), (16, .int .i64 (p0.length : Int)), (17, .int .i64 x1), (19, .int .i64 x1), (21, .agg (e_S_api_Member x3))] H (fun fr => by kernel_rfl) (fun fr => .of (s_lv (by kernel_rfl))) ?_
    intro fr t H
    obtain ⟨h2, e1⟩ : ∃ x, x = h1.push (.cells none 2 [.str ([] : List UInt8), .str ([] : List UInt8), .int .u8 (0 : Int), .int .i64 (0 : Int), .int .i64 (0 : Int), .int .i64 (0 : Int), .str ([] : List UInt8), .str ([] : List UInt8), .int .i64 (0 : Int), .int .i64 (0 : Int), .int .i64 (0 : Int), .int .i64 (0 : Int), .slice none 0, .str ([] : List UInt8)]) := ⟨_, rfl⟩
    replace A := (A.push _).to e1
    refine at_step (v := .ptr (some (h1.size, 0))) (h1 := h2) [(1, vs e_S_api_Member p1), (2, .func (.func 16) [] []), (8, .ptr (some (h1.size, 0))), (15, vs e_S_api_Member p0), (16, .int .i64 (p0.length : Int)), (17, .int .i64 x1), (19, .int .i64 x1), (21, .agg (e_S_api_Member x3))] H (fun fr => by kernel_rfl) (fun fr => .of (s_n' (by kernel_rfl) (congrArg some e1.symm))) ?_
    intro fr t H
    refine at_seg [(4, [])] [(1, vs e_S_api_Member p1), (2, .func (.func 16) [] []), (7, .int .i64 x1), (8, .ptr (some (h1.size, 0))), (15, vs e_S_api_Member p0), (16, .int .i64 (p0.length : Int)), (17, .int .i64 x1), (21, .agg (e_S_api_Member x3))] H (noU_all rfl) (fun fr => by kernel_rfl) ?_
    intro fr H
    obtain ⟨h3, hx, A1⟩ := A.st 0 rfl (o := 0) (new := [.str x3.Name, .str x3.Link, .int .u8 x3.Kind, .int .i64 x3.Mode, .int .i64 x3.Uid, .int .i64 x3.Gid, .str x3.Uname, .str x3.Gname, .int .i64 x3.Major, .int .i64 x3.Minor, .int .i64 x3.Time.Sec, .int .i64 x3.Time.Nsec, vs e_S_api_Pair x3.Extra, .str x3.Data]) (ds := [.str x3.Name, .str x3.Link, .int .u8 x3.Kind, .int .i64 x3.Mode, .int .i64 x3.Uid, .int .i64 x3.Gid, .str x3.Uname, .str x3.Gname, .int .i64 x3.Major, .int .i64 x3.Minor, .int .i64 x3.Time.Sec, .int .i64 x3.Time.Nsec, vs e_S_api_Pair x3.Extra, .str x3.Data]) (Nat.le_of_ble_eq_true rfl) rfl rfl
    replace A : HH g h3 [.obj h1.size (.cells none 2 (e_S_api_Member x3))] F := A1
    refine at_step (v := .tuple []) (h1 := h3) [(1, vs e_S_api_Member p1), (2, .func (.func 16) [] []), (7, .int .i64 x1), (8, .ptr (some (h1.size, 0))), (15, vs e_S_api_Member p0), (16, .int .i64 (p0.length : Int)), (17, .int .i64 x1)] H (fun fr => by kernel_rfl) (fun fr => .of (s_stG (by kernel_rfl) (stG_st hx rfl))) ?_
    intro fr t H
    refine at_nil ?_
    show AW cfg 36 g (right (left (left (right (right (left (left (right (left (right (right (bodyC cfg.P 36)))))))))))) fr h3 _
    refine aw_seq (by kernel_rfl) ?_
    refine aw_reg (id := 6) (n := 6) [(0, []), (1, []), (2, []), (3, []), (4, []), (5, [])] (by kernel_rfl) (by kernel_rfl) ?_
    refine at_seg [(0, []), (1, [])] [(1, vs e_S_api_Member p1), (2, .func (.func 16) [] []), (8, .ptr (some (h1.size, 0))), (15, vs e_S_api_Member p0), (16, .int .i64 (p0.length : Int)), (17, .int .i64 x1), (22, vs e_S_api_Member p1), (23, .int .i64 x1)] H (noU_all rfl) (fun fr => by kernel_rfl) ?_
    intro fr H
    obtain ⟨x4, hx, hm⟩ := bind_some hm
    refine at_step (v := .vptr (e_S_api_Member x4)) (h1 := h3) [(1, vs e_S_api_Member p1), (2, .func (.func 16) [] []), (8, .ptr (some (h1.size, 0))), (15, vs e_S_api_Member p0), (16, .int .i64 (p0.length : Int)), (17, .int .i64 x1), (24, .vptr (e_S_api_Member x4))] H (fun fr => by kernel_rfl) (fun fr => .of (s_ixV (e := e_S_api_Member) (x := x4) enc_S_api_Member (by decide) (by kernel_rfl) hx)) ?_
    intro fr t H
    refine at_step (v := .agg (e_S_api_Member x4)) (h1 := h3) [(1, vs e_S_api_Member p1), (2, .func (.func 16) [] []), (8, .ptr (some (h1.size, 0))), (15, vs e_S_api_Member p0), (16, .int .i64 (p0.length : Int)), (17, .int .i64 x1), (25, .agg (e_S_api_Member x4))] H (fun fr => by kernel_rfl) (fun fr => .of (s_lv (by kernel_rfl))) ?_
    intro fr t H
    obtain ⟨h4, e2⟩ : ∃ x, x = h3.push (.cells none 2 [.str ([] : List UInt8), .str ([] : List UInt8), .int .u8 (0 : Int), .int .i64 (0 : Int), .int .i64 (0 : Int), .int .i64 (0 : Int), .str ([] : List UInt8), .str ([] : List UInt8), .int .i64 (0 : Int), .int .i64 (0 : Int), .int .i64 (0 : Int), .int .i64 (0 : Int), .slice none 0, .str ([] : List UInt8)]) := ⟨_, rfl⟩
    replace A := (A.push _).to e2
    refine at_step (v := .ptr (some (h3.size, 0))) (h1 := h4) [(1, vs e_S_api_Member p1), (2, .func (.func 16) [] []), (8, .ptr (some (h1.size, 0))), (9, .ptr (some (h3.size, 0))), (15, vs e_S_api_Member p0), (16, .int .i64 (p0.length : Int)), (17, .int .i64 x1), (25, .agg (e_S_api_Member x4))] H (fun fr => by kernel_rfl) (fun fr => .of (s_n' (by kernel_rfl) (congrArg some e2.symm))) ?_
    intro fr t H
    obtain ⟨h5, hx, A1⟩ := A.st 0 rfl (o := 0) (new := [.str x4.Name, .str x4.Link, .int .u8 x4.Kind, .int .i64 x4.Mode, .int .i64 x4.Uid, .int .i64 x4.Gid, .str x4.Uname, .str x4.Gname, .int .i64 x4.Major, .int .i64 x4.Minor, .int .i64 x4.Time.Sec, .int .i64 x4.Time.Nsec, vs e_S_api_Pair x4.Extra, .str x4.Data]) (ds := [.str x4.Name, .str x4.Link, .int .u8 x4.Kind, .int .i64 x4.Mode, .int .i64 x4.Uid, .int .i64 x4.Gid, .str x4.Uname, .str x4.Gname, .int .i64 x4.Major, .int .i64 x4.Minor, .int .i64 x4.Time.Sec, .int .i64 x4.Time.Nsec, vs e_S_api_Pair x4.Extra, .str x4.Data]) (Nat.le_of_ble_eq_true rfl) rfl rfl
    replace A : HH g h5 [.obj h3.size (.cells none 2 (e_S_api_Member x4)), .obj h1.size (.cells none 2 (e_S_api_Member x3))] F := A1
    refine at_step (v := .tuple []) (h1 := h5) [(1, vs e_S_api_Member p1), (2, .func (.func 16) [] []), (8, .ptr (some (h1.size, 0))), (9, .ptr (some (h3.size, 0))), (15, vs e_S_api_Member p0), (16, .int .i64 (p0.length : Int)), (17, .int .i64 x1)] H (fun fr => by kernel_rfl) (fun fr => .of (s_stG (by kernel_rfl) (stG_st hx rfl))) ?_
    intro fr t H
    refine at_nil ?_
    show AW cfg 36 g (right (right (left (left (right (right (left (left (right (left (right (right (bodyC cfg.P 36))))))))))))) fr h5 _
    refine aw_seq (by kernel_rfl) ?_
    refine aw_reg (id := 7) (n := 5) [(0, []), (1, []), (2, []), (3, []), (4, [])] (by kernel_rfl) (by kernel_rfl) ?_
    refine at_seg [(0, [])] [(1, vs e_S_api_Member p1), (2, .func (.func 16) [] []), (8, .ptr (some (h1.size, 0))), (9, .ptr (some (h3.size, 0))), (15, vs e_S_api_Member p0), (16, .int .i64 (p0.length : Int)), (17, .int .i64 x1), (26, .func (.func 16) [] [])] H (noU_all rfl) (fun fr => by kernel_rfl) ?_
    intro fr H
    refine at_step (v := .agg (e_S_api_Member x3)) (h1 := h5) [(1, vs e_S_api_Member p1), (2, .func (.func 16) [] []), (9, .ptr (some (h3.size, 0))), (15, vs e_S_api_Member p0), (16, .int .i64 (p0.length : Int)), (17, .int .i64 x1), (26, .func (.func 16) [] []), (27, .agg (e_S_api_Member x3))] H (fun fr => by kernel_rfl) (fun fr => .of (s_ldA (by kernel_rfl) (A.ldA 1 rfl (o := 0) (n := 14) ⟨Nat.le_of_ble_eq_true rfl, rfl⟩))) ?_
    intro fr t H
    refine at_step (v := .agg (e_S_api_Member x4)) (h1 := h5) [(1, vs e_S_api_Member p1), (2, .func (.func 16) [] []), (15, vs e_S_api_Member p0), (16, .int .i64 (p0.length : Int)), (17, .int .i64 x1), (26, .func (.func 16) [] []), (27, .agg (e_S_api_Member x3)), (28, .agg (e_S_api_Member x4))] H (fun fr => by kernel_rfl) (fun fr => .of (s_ldA (by kernel_rfl) (A.ldA 0 rfl (o := 0) (n := 14) ⟨Nat.le_of_ble_eq_true rfl, rfl⟩))) ?_
    intro fr t H
    have A1 := A.cut 0
    obtain ⟨x5, hx, hm⟩ := bind_some hm
    obtain ⟨v1, h6, hr, rfl, A1⟩ := ok_archive_Same (av := [.agg (e_S_api_Member x3), .agg (e_S_api_Member x4)]) hx (by kernel_rfl) A1
    replace A : HH g h6 [.obj h3.size (.cells none 2 (e_S_api_Member x4)), .obj h1.size (.cells none 2 (e_S_api_Member x3))] F := A.glue0 (n := 0) A1
    refine at_step (v := .bool x5) (h1 := h6) [(1, vs e_S_api_Member p1), (2, .func (.func 16) [] []), (15, vs e_S_api_Member p0), (16, .int .i64 (p0.length : Int)), (17, .int .i64 x1), (29, .bool x5)] H (fun fr => by kernel_rfl) (fun fr => Steps.call (by kernel_rfl) hr) ?_
    intro fr t H
    refine at_seg [(4, [])] [(1, vs e_S_api_Member p1), (2, .func (.func 16) [] []), (15, vs e_S_api_Member p0), (16, .int .i64 (p0.length : Int)), (17, .int .i64 x1), (30, .bool (!x5))] H (noU_all rfl) (fun fr => by kernel_rfl) ?_
    intro fr H
    refine at_nil ?_
    show AW cfg 36 g (right (right (right (left (left (right (right (left (left (right (left (right (right (bodyC cfg.P 36)))))))))))))) fr h6 _
    rcases iteB_some hm with ⟨hb, hm⟩ | ⟨hb, hm⟩
    ·replace H := H.know 30 hb (by kernel_rfl)
     refine aw_true (x := .tmp 30) (by kernel_rfl) H (fun fr => by kernel_rfl) ?_
     refine aw_seq (by kernel_rfl) ?_
     refine aw_reg (id := 8) (n := 1) [(0, [])] (by kernel_rfl) (by kernel_rfl) ?_
     refine at_seg [(0, [])] [(6, .bool false)] H (noU_all rfl) (fun fr => by kernel_rfl) ?_
     intro fr H
     refine at_nil ?_
     show AW cfg 36 g (right (left (right (right (right (left (left (right (right (left (left (right (left (right (right (bodyC cfg.P 36)))))))))))))))) fr h6 _
     refine aw_ret (by kernel_rfl) ?_
     replace A : HH g h6 [] F := (HH.dropF A 0)
     exact Exists.intro _ (And.intro (Option.some.inj hm).symm (fun e => Or.inr (Or.inl ⟨false, rfl, e, H.less _ (fun fr => by kernel_rfl), A⟩)))
    ·replace H := H.know 30 hb (by kernel_rfl)
     refine aw_false (x := .tmp 30) (by kernel_rfl) H (fun fr => by kernel_rfl) ?_
     refine aw_skip (by kernel_rfl) ?_
     show AW cfg 36 g (right (right (right (left (left (right (left (right (right (bodyC cfg.P 36)))))))))) fr h6 _
     refine aw_reg (id := 9) (n := 2) [(0, []), (1, [])] (by kernel_rfl) (by kernel_rfl) ?_
     refine at_seg [(0, []), (1, [])] [(1, vs e_S_api_Member p1), (2, .func (.func 16) [] []), (15, vs e_S_api_Member p0), (16, .int .i64 (p0.length : Int)), (17, .int .i64 (IntKind.i64.wrap (x1 + (1 : Int))))] H (noU_all rfl) (fun fr => by kernel_rfl) ?_
     intro fr H
     refine at_nil ?_
     replace A : HH g h6 [] F := (HH.dropF A 0)
     exact Exists.intro (IntKind.i64.wrap (x1 + (1 : Int))) (And.intro (Option.some.inj hm).symm ⟨IntKind.i64.wrap (x1 + (1 : Int)), rfl, H.less _ (fun fr => by kernel_rfl), A⟩)
   ·replace H := H.know 18 hb (by kernel_rfl)
    refine aw_false (x := .tmp 18) (by kernel_rfl) H (fun fr => by kernel_rfl) ?_
    refine aw_exit (i := 0) (by kernel_rfl) ?_
    exact Exists.intro _ (And.intro (Option.some.inj hm).symm (fun e => Or.inl ⟨rfl, e, H.less _ (fun fr => by kernel_rfl), A⟩))
  ·clear ho
   clear A
   intro e fr h7 hQ
   rcases hQ with ⟨rfl, rfl, H, A⟩ | ⟨x2, rfl, rfl, H, A⟩ | hF
   ·skip
    show AW cfg 36 g (right (right (right (bodyC cfg.P 36)))) fr h7 _
    refine aw_seq (by kernel_rfl) ?_
    refine aw_reg (id := 10) (n := 1) [(0, [])] (by kernel_rfl) (by kernel_rfl) ?_
    refine at_seg [(0, [])] [(6, .bool true)] H (noU_all rfl) (fun fr => by kernel_rfl) ?_
    intro fr H
    refine at_nil ?_
    show AW cfg 36 g (right (right (right (right (bodyC cfg.P 36))))) fr h7 _
    refine aw_ret (by kernel_rfl) ?_
    have e1 := Option.some.inj hm
    subst e1
    refine ⟨.inl rfl, .bool true, resH H (fun fr => by kernel_rfl), ?_⟩
    exact ⟨rfl, A⟩
   ·skip
    have e1 := Option.some.inj hm
    subst e1
    refine ⟨.inl rfl, .bool x2, resH H (fun fr => by kernel_rfl), ?_⟩
    exact ⟨rfl, A⟩
   ·exact hF.elim
/-! ### boulter/archive.Equal -/
noncomputable def M_archive_Equal (p0 : List S_api_Member) (p1 : List S_api_Member) : Option (Bool) :=
 (M_slices_EqualFunc_boulter_api_Member_boulter_api_Member_boulter_api_Member_boulter_api_Member_sVVF p0 p1).bind fun x1 => some x1
theorem ok_archive_Equal {g : Gd} {h : AHeap} {F : List Ck} {p0 : List S_api_Member} {p1 : List S_api_Member} {q0 : Bool} {av : List AVal} (hm : M_archive_Equal p0 p1 = some q0) (hc : canL (cfg.still 19) av = [vs e_S_api_Member p0, vs e_S_api_Member p1]) (A : HH g h [] F) : ∃ v h', Runs cfg g h 19 av v h' ∧ v = .bool q0 ∧ HH g h' [] F := by
 refine runsQ1 (n := 8) (rs := [.tmp 4]) (by kernel_rfl) hc (by kernel_rfl) ?_
 clear hc
 unfold M_archive_Equal at hm
 refine start (n := 8) [(0, vs e_S_api_Member p0), (1, vs e_S_api_Member p1)] (by kernel_rfl) (by kernel_rfl) ?_
 intro fr H
 refine aw_seq (by kernel_rfl) ?_
 refine aw_reg (id := 0) (n := 1) [(0, [])] (by kernel_rfl) (by kernel_rfl) ?_
 refine at_seg [(0, [])] [(0, vs e_S_api_Member p0), (1, vs e_S_api_Member p1)] H (noU_all rfl) (fun fr => by kernel_rfl) ?_
 intro fr H
 refine at_nil ?_
 show AW cfg 19 g (right (bodyC cfg.P 19)) fr h _
 refine aw_seq (by kernel_rfl) ?_
 refine aw_reg (id := 1) (n := 4) [(0, []), (1, []), (2, []), (3, [])] (by kernel_rfl) (by kernel_rfl) ?_
 refine at_seg [(0, []), (1, [])] [(5, vs e_S_api_Member p0), (6, vs e_S_api_Member p1)] H (noU_all rfl) (fun fr => by kernel_rfl) ?_
 intro fr H
 have A1 := A.cut 0
 obtain ⟨x1, hx, hm⟩ := bind_some hm
 obtain ⟨v1, h1, hr, rfl, A1⟩ := ok_slices_EqualFunc_boulter_api_Member_boulter_api_Member_boulter_api_Member_boulter_api_Member_sVVF (av := [vs e_S_api_Member p0, vs e_S_api_Member p1, .func (.func 16) [] []]) hx (by kernel_rfl) A1
 replace A : HH g h1 [] F := A.glue0 (n := 0) A1
 refine at_step (v := .bool x1) (h1 := h1) [(7, .bool x1)] H (fun fr => by kernel_rfl) (fun fr => Steps.call (by kernel_rfl) hr) ?_
 intro fr t H
 refine at_seg [(3, [])] [(4, .bool x1)] H (noU_all rfl) (fun fr => by kernel_rfl) ?_
 intro fr H
 refine at_nil ?_
 show AW cfg 19 g (right (right (bodyC cfg.P 19))) fr h1 _
 refine aw_ret (by kernel_rfl) ?_
 have e1 := Option.some.inj hm
 subst e1
 refine ⟨.inl rfl, .bool x1, resH H (fun fr => by kernel_rfl), ?_⟩
 exact ⟨rfl, A⟩
/-! ### boulter/boulterref12.Same -/
noncomputable def M_boulterref12_Same_L0 (p0 : List S_api_Member) (p1 : List S_api_Member) (s : Int) : Option ((Int) ⊕ ((Unit) ⊕ (Bool))) :=
 match s with
 | x1 => iteB (decide (x1 < (p0.length : Int))) ((ixV p0 x1).bind fun x3 => (ixV p1 x1).bind fun x4 => (M_boulterref07_Same x3 x4).bind fun x5 => iteB (!x5) (some (.inr (.inr false))) (some (.inl (IntKind.i64.wrap (x1 + (1 : Int)))))) (some (.inr (.inl ())))
noncomputable def M_boulterref12_Same (p0 : List S_api_Member) (p1 : List S_api_Member) : Option (Bool) :=
 iteB ((p0.length : Int) != (p1.length : Int)) (some false) ((loop (M_boulterref12_Same_L0 p0 p1) (0 : Int)).bind fun o1 => (match o1 with | .inl _ => some true | .inr x2 => some x2))
theorem ok_boulterref12_Same {g : Gd} {h : AHeap} {F : List Ck} {p0 : List S_api_Member} {p1 : List S_api_Member} {q0 : Bool} {av : List AVal} (hm : M_boulterref12_Same p0 p1 = some q0) (hc : canL (cfg.still 20) av = [vs e_S_api_Member p0, vs e_S_api_Member p1]) (A : HH g h [] F) : ∃ v h', Runs cfg g h 20 av v h' ∧ v = .bool q0 ∧ HH g h' [] F := by
 refine runsQ1 (n := 27) (rs := [.tmp 4]) (by kernel_rfl) hc (by kernel_rfl) ?_
 clear hc
 unfold M_boulterref12_Same at hm
 refine start (n := 27) [(0, vs e_S_api_Member p0), (1, vs e_S_api_Member p1)] (by kernel_rfl) (by kernel_rfl) ?_
 intro fr H
 refine aw_seq (by kernel_rfl) ?_
 refine aw_reg (id := 0) (n := 1) [(0, [])] (by kernel_rfl) (by kernel_rfl) ?_
 refine at_seg [(0, [])] [(0, vs e_S_api_Member p0), (1, vs e_S_api_Member p1)] H (noU_all rfl) (fun fr => by kernel_rfl) ?_
 intro fr H
 refine at_nil ?_
 show AW cfg 20 g (right (bodyC cfg.P 20)) fr h _
 refine aw_seq (by kernel_rfl) ?_
 refine aw_seq (by kernel_rfl) ?_
 refine aw_reg (id := 1) (n := 5) [(0, []), (1, []), (2, []), (3, []), (4, [])] (by kernel_rfl) (by kernel_rfl) ?_
 refine at_seg [(0, []), (1, []), (2, []), (3, []), (4, [])] [(0, vs e_S_api_Member p0), (1, vs e_S_api_Member p1), (10, .bool ((p0.length : Int) != (p1.length : Int)))] H (noU_all rfl) (fun fr => by kernel_rfl) ?_
 intro fr H
 refine at_nil ?_
 show AW cfg 20 g (right (left (right (bodyC cfg.P 20)))) fr h _
 rcases iteB_some hm with ⟨hb, hm⟩ | ⟨hb, hm⟩
 ·replace H := H.know 10 hb (by kernel_rfl)
  refine aw_true (x := .tmp 10) (by kernel_rfl) H (fun fr => by kernel_rfl) ?_
  refine aw_seq (by kernel_rfl) ?_
  refine aw_reg (id := 2) (n := 1) [(0, [])] (by kernel_rfl) (by kernel_rfl) ?_
  refine at_seg [(0, [])] [(4, .bool false)] H (noU_all rfl) (fun fr => by kernel_rfl) ?_
  intro fr H
  refine at_nil ?_
  show AW cfg 20 g (right (left (right (left (right (bodyC cfg.P 20)))))) fr h _
  refine aw_ret (by kernel_rfl) ?_
  have e1 := Option.some.inj hm
  subst e1
  refine ⟨.inl rfl, .bool false, resH H (fun fr => by kernel_rfl), ?_⟩
  exact ⟨rfl, A⟩
 ·replace H := H.know 10 hb (by kernel_rfl)
  refine aw_false (x := .tmp 10) (by kernel_rfl) H (fun fr => by kernel_rfl) ?_
  refine aw_skip (by kernel_rfl) ?_
  show AW cfg 20 g (right (right (bodyC cfg.P 20))) fr h _
  refine aw_seq (by kernel_rfl) ?_
  refine aw_seq (by kernel_rfl) ?_
  refine aw_reg (id := 3) (n := 1) [(0, [])] (by kernel_rfl) (by kernel_rfl) ?_
  refine at_seg [(0, [])] [(0, vs e_S_api_Member p0), (1, vs e_S_api_Member p1), (5, .int .i64 (0 : Int))] H (noU_all rfl) (fun fr => by kernel_rfl) ?_
  intro fr H
  refine at_nil ?_
  show AW cfg 20 g (right (left (right (right (bodyC cfg.P 20))))) fr h _
  refine aw_block (id := 0) (by kernel_rfl) ?_
  obtain ⟨o1, ho, hm⟩ := bind_some hm
  refine aw_mono (Q' := fun e fr' h' => (e = .exit 0 ∧ .inl () = o1 ∧ Has fr' 27 [] ∧ HH g h' [] F) ∨ (∃ (x2 : Bool), e = .ret ∧ .inr x2 = o1 ∧ Has fr' 27 [(4, .bool x2)] ∧ HH g h' [] F) ∨ False) ?_ ?_
  ·refine aw_loop (by kernel_rfl) (fun (s : Int) fr' h' => ∃ (x1 : Int), x1 = s ∧ Has fr' 27 [(0, vs e_S_api_Member p0), (1, vs e_S_api_Member p1), (5, .int .i64 x1)] ∧ HH g h' [] F) ho ⟨(0 : Int), rfl, H.less _ (fun fr => by kernel_rfl), A⟩ ?_
   clear ho hm H A
   intro s q fr h1 hI hm
   obtain ⟨x1, rfl, H, A⟩ := hI
   unfold M_boulterref12_Same_L0 at hm
   refine aw_seq (by kernel_rfl) ?_
   refine aw_seq (by kernel_rfl) ?_
   refine aw_reg (id := 4) (n := 4) [(0, []), (1, []), (2, []), (3, [])] (by kernel_rfl) (by kernel_rfl) ?_
   refine at_seg [(0, []), (1, []), (2, []), (3, [])] [(0, vs e_S_api_Member p0), (1, vs e_S_api_Member p1), (5, .int .i64 x1), (14, .bool (decide (x1 < (p0.length : Int))))] H (noU_all rfl) (fun fr => by kernel_rfl) ?_
   intro fr H
   refine at_nil ?_
   show AW cfg 20 g (right (left (left (left (right (left (right (right (bodyC cfg.P 20))))))))) fr h1 _
   rcases iteB_some hm with ⟨hb, hm⟩ | ⟨hb, hm⟩
   ·replace H := H.know 14 hb (by kernel_rfl)
    refine aw_true (x := .tmp 14) (by kernel_rfl) H (fun fr => by kernel_rfl) ?_
    refine aw_skip (by kernel_rfl) ?_
    show AW cfg 20 g (right (left (left (right (left (right (right (bodyC cfg.P 20)))))))) fr h1 _
    refine aw_seq (by kernel_rfl) ?_
    refine aw_block (id := 1) (by kernel_rfl) ?_
    refine aw_seq (by kernel_rfl) ?_
    refine aw_draw (id := 6) (n := 10) (by kernel_rfl) [(0, []), (1, []), (2, []), (3, []), (4, []), (5, []), (6, []), (7, []), (8, []), (9, [])] (by kernel_rfl) ?_
    refine at_seg [(0, []), (1, [])] [(0, vs e_S_api_Member p0), (1, vs e_S_api_Member p1), (5, .int .i64 x1), (17, vs e_S_api_Member p0), (18, .int .i64 x1)] H (noU_all rfl) (fun fr => by kernel_rfl) ?_
    intro fr H
    obtain ⟨x3, hx, hm⟩ := bind_some hm
    refine at_step (v := .vptr (e_S_api_Member x3)) (h1 := h1) [(0, vs e_S_api_Member p0), (1, vs e_S_api_Member p1), (5, .int .i64 x1), (19, .vptr (e_S_api_Member x3))] H (fun fr => by kernel_rfl) (fun fr => .of (s_ixV (e := e_S_api_Member) (x := x3) enc_S_api_Member (by decide) (by kernel_rfl) hx)) ?_
    intro fr t H
    refine at_step (v := .agg (e_S_api_Member x3)) (h1 := h1) [(0, vs e_S_api_Member p0), (1, vs e_S_api_Member p1), (5, .int .i64 x1), (20, .agg (e_S_api_Member x3))] H (fun fr => by kernel_rfl) (fun fr => .of (s_lv (by kernel_rfl))) ?_
    intro fr t H
    refine at_seg [(4, []), (5, [])] [(0, vs e_S_api_Member p0), (1, vs e_S_api_Member p1), (5, .int .i64 x1), (20, .agg (e_S_api_Member x3)), (21, vs e_S_api_Member p1), (22, .int .i64 x1)] H (noU_all rfl) (fun fr => by kernel_rfl) ?_
    intro fr H
    obtain ⟨x4, hx, hm⟩ := bind_some hm
    refine at_step (v := .vptr (e_S_api_Member x4)) (h1 := h1) [(0, vs e_S_api_Member p0), (1, vs e_S_api_Member p1), (5, .int .i64 x1), (20, .agg (e_S_api_Member x3)), (23, .vptr (e_S_api_Member x4))] H (fun fr => by kernel_rfl) (fun fr => .of (s_ixV (e := e_S_api_Member) (x := x4) enc_S_api_Member (by decide) (by kernel_rfl) hx)) ?_
    intro fr t H
    refine at_step (v := .agg (e_S_api_Member x4)) (h1 := h1) [(0, vs e_S_api_Member p0), (1, vs e_S_api_Member p1), (5, .int .i64 x1), (20, .agg (e_S_api_Member x3)), (24, .agg (e_S_api_Member x4))] H (fun fr => by kernel_rfl) (fun fr => .of (s_lv (by kernel_rfl))) ?_
    intro fr t H
    have A1 := A.cut 0
    obtain ⟨x5, hx, hm⟩ := bind_some hm
    obtain ⟨v1, h2, hr, rfl, A1⟩ := ok_boulterref07_Same (av := [.agg (e_S_api_Member x3), .agg (e_S_api_Member x4)]) hx (by kernel_rfl) A1
    replace A : HH g h2 [] F := A.glue0 (n := 0) A1
    refine at_step (v := .bool x5) (h1 := h2) [(0, vs e_S_api_Member p0), (1, vs e_S_api_Member p1), (5, .int .i64 x1), (25, .bool x5)] H (fun fr => by kernel_rfl) (fun fr => Steps.call (by kernel_rfl) hr) ?_
    intro fr t H
    refine at_seg [(9, [])] [(0, vs e_S_api_Member p0), (1, vs e_S_api_Member p1), (5, .int .i64 x1), (26, .bool (!x5))] H (noU_all rfl) (fun fr => by kernel_rfl) ?_
    intro fr H
    refine at_nil ?_
    show AW cfg 20 g (right (left (left (right (left (left (right (left (right (right (bodyC cfg.P 20))))))))))) fr h2 _
    rcases iteB_some hm with ⟨hb, hm⟩ | ⟨hb, hm⟩
    ·replace H := H.know 26 hb (by kernel_rfl)
     refine aw_true (x := .tmp 26) (by kernel_rfl) H (fun fr => by kernel_rfl) ?_
     refine aw_seq (by kernel_rfl) ?_
     refine aw_reg (id := 7) (n := 1) [(0, [])] (by kernel_rfl) (by kernel_rfl) ?_
     refine at_seg [(0, [])] [(4, .bool false)] H (noU_all rfl) (fun fr => by kernel_rfl) ?_
     intro fr H
     refine at_nil ?_
     show AW cfg 20 g (right (left (right (left (left (right (left (left (right (left (right (right (bodyC cfg.P 20))))))))))))) fr h2 _
     refine aw_ret (by kernel_rfl) ?_
     exact Exists.intro _ (And.intro (Option.some.inj hm).symm (fun e => Or.inr (Or.inl ⟨false, rfl, e, H.less _ (fun fr => by kernel_rfl), A⟩)))
    ·replace H := H.know 26 hb (by kernel_rfl)
     refine aw_false (x := .tmp 26) (by kernel_rfl) H (fun fr => by kernel_rfl) ?_
     refine aw_skip (by kernel_rfl) ?_
     show AW cfg 20 g (right (right (left (left (right (left (right (right (bodyC cfg.P 20))))))))) fr h2 _
     refine aw_reg (id := 5) (n := 3) [(0, []), (1, []), (2, [])] (by kernel_rfl) (by kernel_rfl) ?_
     refine at_seg [(0, []), (1, []), (2, [])] [(0, vs e_S_api_Member p0), (1, vs e_S_api_Member p1), (5, .int .i64 (IntKind.i64.wrap (x1 + (1 : Int))))] H (noU_all rfl) (fun fr => by kernel_rfl) ?_
     intro fr H
     refine at_nil ?_
     exact Exists.intro (IntKind.i64.wrap (x1 + (1 : Int))) (And.intro (Option.some.inj hm).symm ⟨IntKind.i64.wrap (x1 + (1 : Int)), rfl, H.less _ (fun fr => by kernel_rfl), A⟩)
   ·replace H := H.know 14 hb (by kernel_rfl)
    refine aw_false (x := .tmp 14) (by kernel_rfl) H (fun fr => by kernel_rfl) ?_
    refine aw_exit (i := 0) (by kernel_rfl) ?_
    exact Exists.intro _ (And.intro (Option.some.inj hm).symm (fun e => Or.inl ⟨rfl, e, H.less _ (fun fr => by kernel_rfl), A⟩))
  ·clear ho
   clear A
   intro e fr h3 hQ
   rcases hQ with ⟨rfl, rfl, H, A⟩ | ⟨x2, rfl, rfl, H, A⟩ | hF
   ·skip
    show AW cfg 20 g (right (right (right (bodyC cfg.P 20)))) fr h3 _
    refine aw_seq (by kernel_rfl) ?_
    refine aw_reg (id := 8) (n := 1) [(0, [])] (by kernel_rfl) (by kernel_rfl) ?_
    refine at_seg [(0, [])] [(4, .bool true)] H (noU_all rfl) (fun fr => by kernel_rfl) ?_
    intro fr H
    refine at_nil ?_
    show AW cfg 20 g (right (right (right (right (bodyC cfg.P 20))))) fr h3 _
    refine aw_ret (by kernel_rfl) ?_
    have e1 := Option.some.inj hm
    subst e1
    refine ⟨.inl rfl, .bool true, resH H (fun fr => by kernel_rfl), ?_⟩
    exact ⟨rfl, A⟩
   ·skip
    have e1 := Option.some.inj hm
    subst e1
    refine ⟨.inl rfl, .bool x2, resH H (fun fr => by kernel_rfl), ?_⟩
    exact ⟨rfl, A⟩
   ·exact hF.elim
end Go.Av.L
