/-
  Models of functions, and that the abstract run tells them. Written by lift2.py.
-/
import Derived.Test.YtcmfogjpkkodbaaKCfg
namespace Go.Av.L
open Go.Av Go.Lib
set_option maxRecDepth 10000
set_option linter.unusedVariables false
set_option linter.unusedSimpArgs false
/-! ### boulter/boulterref07.long -/
noncomputable def M_boulterref07_long_L0 (p0 : List S_api_Pair) (s : Int) : Option ((Int) ⊕ ((Unit) ⊕ (Bool))) :=
  match s with
  | x1 => iteB (decide (x1 < (p0.length : Int))) ((ixV p0 x1).bind fun x3 => (iteB (decide ((x3.Key.length : Int) > (300 : Int))) (some true) ((ixV p0 x1).bind fun x5 => some (decide ((x5.Value.length : Int) > (300 : Int)))) : Option (Bool)).bind fun x4 => iteB x4 (some (.inr (.inr true))) (some (.inl (IntKind.i64.wrap (x1 + (1 : Int)))))) (some (.inr (.inl ())))
noncomputable def M_boulterref07_long (p0 : List S_api_Pair) : Option (Bool) :=
 iteB (decide ((p0.length : Int) > (12 : Int))) (some true) ((loop (M_boulterref07_long_L0 p0) (0 : Int)).bind fun o1 => (match o1 with | .inl _ => some false | .inr x2 => some x2))
theorem ok_boulterref07_long {g : Gd} {h : AHeap} {F : List Ck} {p0 : List S_api_Pair} {q0 : Bool} {av : List AVal} (hm : M_boulterref07_long p0 = some q0) (hc : canL (cfg.still 64) av = [vs e_S_api_Pair p0]) (A : HH g h [] F) : ∃ v h', Runs cfg g h 64 av v h' ∧ v = .bool q0 ∧ HH g h' [] F := by
  refine runsQ1 (n := 29) (rs := [.tmp 2]) (by kernel_rfl) hc (by kernel_rfl) ?_
  clear hc
  unfold M_boulterref07_long at hm
  refine start (n := 29) [(0, vs e_S_api_Pair p0)] (by kernel_rfl) (by kernel_rfl) ?_
  intro fr H
  refine aw_seq (by kernel_rfl) ?_
  refine aw_reg (id := 0) (n := 1) [(0, [])] (by kernel_rfl) (by kernel_rfl) ?_
  refine at_seg [(0, [])] [(0, vs e_S_api_Pair p0)] H (noU_all rfl) (fun fr => by kernel_rfl) ?_
  intro fr H
  refine at_nil ?_
  show AW cfg 64 g (right (bodyC cfg.P 64)) fr h _
  refine aw_seq (by kernel_rfl) ?_
  refine aw_seq (by kernel_rfl) ?_
  refine aw_reg (id := 1) (n := 3) [(0, []), (1, []), (2, [])] (by kernel_rfl) (by kernel_rfl) ?_
  refine at_seg [(0, []), (1, []), (2, [])] [(0, vs e_S_api_Pair p0), (6, .bool (decide ((p0.length : Int) > (12 : Int))))] H (noU_all rfl) (fun fr => by kernel_rfl) ?_
  intro fr H
  refine at_nil ?_
  show AW cfg 64 g (right (left (right (bodyC cfg.P 64)))) fr h _
  rcases iteB_some hm with ⟨hb, hm⟩ | ⟨hb, hm⟩
  · replace H := H.know 6 hb (by kernel_rfl)
    refine aw_true (x := .tmp 6) (by kernel_rfl) H (fun fr => by kernel_rfl) ?_
    refine aw_seq (by kernel_rfl) ?_
    refine aw_reg (id := 2) (n := 1) [(0, [])] (by kernel_rfl) (by kernel_rfl) ?_
    refine at_seg [(0, [])] [(2, .bool true)] H (noU_all rfl) (fun fr => by kernel_rfl) ?_
    intro fr H
    refine at_nil ?_
    show AW cfg 64 g (right (left (right (left (right (bodyC cfg.P 64)))))) fr h _
    refine aw_ret (by kernel_rfl) ?_
    have e1 := Option.some.inj hm
    subst e1
    refine ⟨.inl rfl, .bool true, resH H (fun fr => by kernel_rfl), ?_⟩
    exact ⟨rfl, A⟩
  · replace H := H.know 6 hb (by kernel_rfl)
    refine aw_false (x := .tmp 6) (by kernel_rfl) H (fun fr => by kernel_rfl) ?_
    refine aw_skip (by kernel_rfl) ?_
    show AW cfg 64 g (right (right (bodyC cfg.P 64))) fr h _
    refine aw_seq (by kernel_rfl) ?_
    refine aw_seq (by kernel_rfl) ?_
    refine aw_reg (id := 3) (n := 1) [(0, [])] (by kernel_rfl) (by kernel_rfl) ?_
    refine at_seg [(0, [])] [(0, vs e_S_api_Pair p0), (3, .int .i64 (0 : Int))] H (noU_all rfl) (fun fr => by kernel_rfl) ?_
    intro fr H
    refine at_nil ?_
    show AW cfg 64 g (right (left (right (right (bodyC cfg.P 64))))) fr h _
    refine aw_block (id := 0) (by kernel_rfl) ?_
    obtain ⟨o1, ho, hm⟩ := bind_some hm
    refine aw_mono (Q' := fun e fr' h' => (e = .exit 0 ∧ .inl () = o1 ∧ Has fr' 29 [] ∧ HH g h' [] F) ∨ (∃ (x2 : Bool), e = .ret ∧ .inr x2 = o1 ∧ Has fr' 29 [(2, .bool x2)] ∧ HH g h' [] F) ∨ False) ?_ ?_
    · refine aw_loop (by kernel_rfl) (fun (s : Int) fr' h' => ∃ (x1 : Int), x1 = s ∧ Has fr' 29 [(0, vs e_S_api_Pair p0), (3, .int .i64 x1)] ∧ HH g h' [] F) ho ⟨(0 : Int), rfl, H.less _ (fun fr => by kernel_rfl), A⟩ ?_
      clear ho hm H A
      intro s q fr h1 hI hm
      obtain ⟨x1, rfl, H, A⟩ := hI
      unfold M_boulterref07_long_L0 at hm
      refine aw_seq (by kernel_rfl) ?_
      refine aw_seq (by kernel_rfl) ?_
      refine aw_reg (id := 4) (n := 4) [(0, []), (1, []), (2, []), (3, [])] (by kernel_rfl) (by kernel_rfl) ?_
      refine at_seg [(0, []), (1, []), (2, []), (3, [])] [(0, vs e_S_api_Pair p0), (3, .int .i64 x1), (10, .bool (decide (x1 < (p0.length : Int))))] H (noU_all rfl) (fun fr => by kernel_rfl) ?_
      intro fr H
      refine at_nil ?_
      show AW cfg 64 g (right (left (left (left (right (left (right (right (bodyC cfg.P 64))))))))) fr h1 _
      rcases iteB_some hm with ⟨hb, hm⟩ | ⟨hb, hm⟩
      · replace H := H.know 10 hb (by kernel_rfl)
        refine aw_true (x := .tmp 10) (by kernel_rfl) H (fun fr => by kernel_rfl) ?_
        refine aw_skip (by kernel_rfl) ?_
        show AW cfg 64 g (right (left (left (right (left (right (right (bodyC cfg.P 64)))))))) fr h1 _
        refine aw_seq (by kernel_rfl) ?_
        refine aw_block (id := 1) (by kernel_rfl) ?_
        refine aw_seq (by kernel_rfl) ?_
        refine aw_reg (id := 6) (n := 16) [(0, []), (1, []), (2, []), (3, []), (4, []), (5, []), (6, []), (7, []), (8, []), (9, []), (10, []), (11, []), (12, []), (13, []), (14, []), (15, [])] (by kernel_rfl) (by kernel_rfl) ?_
        refine at_seg [(0, []), (1, [])] [(0, vs e_S_api_Pair p0), (3, .int .i64 x1), (13, vs e_S_api_Pair p0), (14, .int .i64 x1)] H (noU_all rfl) (fun fr => by kernel_rfl) ?_
        intro fr H
        obtain ⟨x3, hx, hm⟩ := bind_some hm
        refine at_step (v := .vptr [.str x3.Key, .str x3.Value]) (h1 := h1) [(0, vs e_S_api_Pair p0), (3, .int .i64 x1), (15, .vptr [.str x3.Key, .str x3.Value])] H (fun fr => by kernel_rfl) (fun fr => .of (s_ixV (e := e_S_api_Pair) (x := x3) enc_S_api_Pair (by decide) (by kernel_rfl) hx)) ?_
        intro fr t H
        refine at_seg [(3, [])] [(0, vs e_S_api_Pair p0), (3, .int .i64 x1), (16, .vptr [.str x3.Key, .str x3.Value])] H (noU_all rfl) (fun fr => by kernel_rfl) ?_
        intro fr H
        refine at_step (v := .str x3.Key) (h1 := h1) [(0, vs e_S_api_Pair p0), (3, .int .i64 x1), (17, .str x3.Key)] H (fun fr => by kernel_rfl) (fun fr => .of (s_lv (by kernel_rfl))) ?_
        intro fr t H
        refine at_seg [(5, []), (6, []), (7, [])] [(0, vs e_S_api_Pair p0), (3, .int .i64 x1), (20, .bool (decide ((x3.Key.length : Int) > (300 : Int))))] H (noU_all rfl) (fun fr => by kernel_rfl) ?_
        intro fr H
        obtain ⟨x4, ho, hm⟩ := bind_some hm
        refine at_cut [(8, []), (9, []), (10, []), (11, []), (12, []), (13, []), (14, []), (15, [])] (fun fr' h' => Has fr' 29 [(0, vs e_S_api_Pair p0), (3, .int .i64 x1), (28, .bool x4)] ∧ HH g h' [] F) ?_ ?_
        · rcases iteB_some ho with ⟨hb, hm⟩ | ⟨hb, hm⟩
          · replace H := H.know 20 hb (by kernel_rfl)
            refine at_seg [(8, []), (9, []), (10, []), (11, []), (12, []), (13, []), (14, []), (15, [])] [(0, vs e_S_api_Pair p0), (3, .int .i64 x1), (28, .bool true)] H (noU_all rfl) (fun fr => by kernel_rfl) ?_
            intro fr H
            have e1 := Option.some.inj hm
            subst e1
            exact at_nil ⟨H.less _ (fun fr => by kernel_rfl), A⟩
          · replace H := H.know 20 hb (by kernel_rfl)
            refine at_seg [(8, []), (9, [])] [(0, vs e_S_api_Pair p0), (3, .int .i64 x1), (20, .bool false), (21, vs e_S_api_Pair p0), (22, .int .i64 x1)] H (noU_all rfl) (fun fr => by kernel_rfl) ?_
            intro fr H
            obtain ⟨x5, hx, hm⟩ := bind_some hm
            refine at_step (v := .vptr [.str x5.Key, .str x5.Value]) (h1 := h1) [(0, vs e_S_api_Pair p0), (3, .int .i64 x1), (20, .bool false), (23, .vptr [.str x5.Key, .str x5.Value])] H (fun fr => by kernel_rfl) (fun fr => .of (s_ixV (e := e_S_api_Pair) (x := x5) enc_S_api_Pair (by decide) (by kernel_rfl) hx)) ?_
            intro fr t H
            refine at_seg [(11, [])] [(0, vs e_S_api_Pair p0), (3, .int .i64 x1), (20, .bool false), (24, .vptr [.str x5.Value])] H (noU_all rfl) (fun fr => by kernel_rfl) ?_
            intro fr H
            refine at_step (v := .str x5.Value) (h1 := h1) [(0, vs e_S_api_Pair p0), (3, .int .i64 x1), (20, .bool false), (25, .str x5.Value)] H (fun fr => by kernel_rfl) (fun fr => .of (s_lv (by kernel_rfl))) ?_
            intro fr t H
            refine at_seg [(13, []), (14, []), (15, [])] [(0, vs e_S_api_Pair p0), (3, .int .i64 x1), (28, .bool (decide ((x5.Value.length : Int) > (300 : Int))))] H (noU_all rfl) (fun fr => by kernel_rfl) ?_
            intro fr H
            have e1 := Option.some.inj hm
            subst e1
            exact at_nil ⟨H.less _ (fun fr => by kernel_rfl), A⟩
        · clear A
          intro t fr h2 hK
          obtain ⟨H, A⟩ := hK
          refine at_nil ?_
          show AW cfg 64 g (right (left (left (right (left (left (right (left (right (right (bodyC cfg.P 64))))))))))) fr h2 _
          rcases iteB_some hm with ⟨hb, hm⟩ | ⟨hb, hm⟩
          · replace H := H.know 28 hb (by kernel_rfl)
            refine aw_true (x := .tmp 28) (by kernel_rfl) H (fun fr => by kernel_rfl) ?_
            refine aw_seq (by kernel_rfl) ?_
            refine aw_reg (id := 7) (n := 1) [(0, [])] (by kernel_rfl) (by kernel_rfl) ?_
            refine at_seg [(0, [])] [(2, .bool true)] H (noU_all rfl) (fun fr => by kernel_rfl) ?_
            intro fr H
            refine at_nil ?_
            show AW cfg 64 g (right (left (right (left (left (right (left (left (right (left (right (right (bodyC cfg.P 64))))))))))))) fr h2 _
            refine aw_ret (by kernel_rfl) ?_
            exact Exists.intro _ (And.intro (Option.some.inj hm).symm (fun e => Or.inr (Or.inl ⟨true, rfl, e, H.less _ (fun fr => by kernel_rfl), A⟩)))
          · replace H := H.know 28 hb (by kernel_rfl)
            refine aw_false (x := .tmp 28) (by kernel_rfl) H (fun fr => by kernel_rfl) ?_
            refine aw_skip (by kernel_rfl) ?_
            show AW cfg 64 g (right (right (left (left (right (left (right (right (bodyC cfg.P 64))))))))) fr h2 _
            refine aw_reg (id := 5) (n := 3) [(0, []), (1, []), (2, [])] (by kernel_rfl) (by kernel_rfl) ?_
            refine at_seg [(0, []), (1, []), (2, [])] [(0, vs e_S_api_Pair p0), (3, .int .i64 (IntKind.i64.wrap (x1 + (1 : Int))))] H (noU_all rfl) (fun fr => by kernel_rfl) ?_
            intro fr H
            refine at_nil ?_
            exact Exists.intro (IntKind.i64.wrap (x1 + (1 : Int))) (And.intro (Option.some.inj hm).symm ⟨IntKind.i64.wrap (x1 + (1 : Int)), rfl, H.less _ (fun fr => by kernel_rfl), A⟩)
      · replace H := H.know 10 hb (by kernel_rfl)
        refine aw_false (x := .tmp 10) (by kernel_rfl) H (fun fr => by kernel_rfl) ?_
        refine aw_exit (i := 0) (by kernel_rfl) ?_
        exact Exists.intro _ (And.intro (Option.some.inj hm).symm (fun e => Or.inl ⟨rfl, e, H.less _ (fun fr => by kernel_rfl), A⟩))
    · clear ho
      clear A
      intro e fr h3 hQ
      rcases hQ with ⟨rfl, rfl, H, A⟩ | ⟨x2, rfl, rfl, H, A⟩ | hF
      · skip
        show AW cfg 64 g (right (right (right (bodyC cfg.P 64)))) fr h3 _
        refine aw_seq (by kernel_rfl) ?_
        refine aw_reg (id := 8) (n := 1) [(0, [])] (by kernel_rfl) (by kernel_rfl) ?_
        refine at_seg [(0, [])] [(2, .bool false)] H (noU_all rfl) (fun fr => by kernel_rfl) ?_
        intro fr H
        refine at_nil ?_
        show AW cfg 64 g (right (right (right (right (bodyC cfg.P 64))))) fr h3 _
        refine aw_ret (by kernel_rfl) ?_
        have e1 := Option.some.inj hm
        subst e1
        refine ⟨.inl rfl, .bool false, resH H (fun fr => by kernel_rfl), ?_⟩
        exact ⟨rfl, A⟩
      · skip
        have e1 := Option.some.inj hm
        subst e1
        refine ⟨.inl rfl, .bool x2, resH H (fun fr => by kernel_rfl), ?_⟩
        exact ⟨rfl, A⟩
      · exact hF.elim
/-! ### boulter/boulterref07.Long -/
noncomputable def M_boulterref07_Long (p0 : S_api_Member) : Option (Bool) :=
 (M_boulterref07_long p0.Extra).bind fun x1 => some (((((x1 || (decide ((p0.Name.length : Int) > (600 : Int)))) || (decide ((p0.Link.length : Int) > (600 : Int)))) || (decide ((p0.Uname.length : Int) > (100 : Int)))) || (decide ((p0.Gname.length : Int) > (100 : Int)))) || (decide ((p0.Data.length : Int) > (2000 : Int))))
theorem ok_boulterref07_Long {g : Gd} {h : AHeap} {F : List Ck} {p0 : S_api_Member} {q0 : Bool} {av : List AVal} (hm : M_boulterref07_Long p0 = some q0) (hc : canL (cfg.still 42) av = [.agg (e_S_api_Member p0)]) (A : HH g h [] F) : ∃ v h', Runs cfg g h 42 av v h' ∧ v = .bool q0 ∧ HH g h' [] F := by
  refine runsQ1 (n := 36) (rs := [.tmp 2]) (by kernel_rfl) hc (by kernel_rfl) ?_
  clear hc
  unfold M_boulterref07_Long at hm
  refine start (n := 36) [(0, .agg (e_S_api_Member p0))] (by kernel_rfl) (by kernel_rfl) ?_
  intro fr H
  refine aw_seq (by kernel_rfl) ?_
  refine aw_reg (id := 0) (n := 2) [(0, []), (1, [])] (by kernel_rfl) (by kernel_rfl) ?_
  obtain ⟨h1, e1⟩ : ∃ x, x = h.push (.cells none 2 (e_S_api_Member p0)) := ⟨_, rfl⟩
  replace A := (A.push _).to e1
  refine at_step (v := .ptr (some (h.size, 0))) (h1 := h1) [(1, .ptr (some (h.size, 0)))] H (fun fr => by kernel_rfl) (fun fr => .of (s_n' (by kernel_rfl) (congrArg some e1.symm))) ?_
  intro fr t H
  refine at_seg [(1, [])] [(1, .ptr (some (h.size, 0)))] H (noU_all rfl) (fun fr => by kernel_rfl) ?_
  intro fr H
  refine at_nil ?_
  show AW cfg 42 g (right (bodyC cfg.P 42)) fr h1 _
  refine aw_seq (by kernel_rfl) ?_
  refine aw_reg (id := 1) (n := 34) [(0, []), (1, []), (2, []), (3, []), (4, []), (5, []), (6, []), (7, []), (8, []), (9, []), (10, []), (11, []), (12, []), (13, []), (14, []), (15, []), (16, []), (17, []), (18, []), (19, []), (20, []), (21, []), (22, []), (23, []), (24, []), (25, []), (26, []), (27, []), (28, []), (29, []), (30, []), (31, []), (32, []), (33, [])] (by kernel_rfl) (by kernel_rfl) ?_
  refine at_seg [(0, [])] [(1, .ptr (some (h.size, 0))), (3, .ptr (some (h.size, 12)))] H (noU_all rfl) (fun fr => by kernel_rfl) ?_
  intro fr H
  refine at_step (v := vs e_S_api_Pair p0.Extra) (h1 := h1) [(1, .ptr (some (h.size, 0))), (4, vs e_S_api_Pair p0.Extra)] H (fun fr => by kernel_rfl) (fun fr => .of (s_ld (by kernel_rfl) (A.ld1 0 rfl (o := 12) rfl))) ?_
  intro fr t H
  have A1 := A.cut 0
  obtain ⟨x1, hx, hm⟩ := bind_some hm
  obtain ⟨v1, h2, hr, rfl, A1⟩ := ok_boulterref07_long (av := [vs e_S_api_Pair p0.Extra]) hx (by kernel_rfl) A1
  replace A : HH g h2 [.obj h.size (.cells none 2 (e_S_api_Member p0))] F := A.glue0 (n := 0) A1
  refine at_step (v := .bool x1) (h1 := h2) [(1, .ptr (some (h.size, 0))), (5, .bool x1)] H (fun fr => by kernel_rfl) (fun fr => Steps.call (by kernel_rfl) hr) ?_
  intro fr t H
  refine at_seg [(3, [])] [(1, .ptr (some (h.size, 0))), (6, .bool x1)] H (noU_all rfl) (fun fr => by kernel_rfl) ?_
  intro fr H
  refine at_cut [(4, []), (5, []), (6, []), (7, []), (8, [])] (fun fr' h' => h2 = h' ∧ Has fr' 36 [(1, .ptr (some (h.size, 0))), (11, .bool (x1 || (decide ((p0.Name.length : Int) > (600 : Int)))))]) ?_ ?_
  · cases hb : (x1 : Bool) with
    | true =>
      replace H := H.know 6 hb (by kernel_rfl)
      refine at_seg [(4, []), (5, []), (6, []), (7, []), (8, [])] [(1, .ptr (some (h.size, 0))), (11, .bool true)] H (noU_all rfl) (fun fr => by kernel_rfl) ?_
      intro fr H
      exact at_nil ⟨rfl, by first | exact H.less _ (fun fr => by rfl) | exact H.less _ (fun fr => by rw [hb]; rfl)⟩
    | false =>
      replace H := H.know 6 hb (by kernel_rfl)
      refine at_seg [(4, [])] [(1, .ptr (some (h.size, 0))), (6, .bool false), (7, .ptr (some (h.size, 0)))] H (noU_all rfl) (fun fr => by kernel_rfl) ?_
      intro fr H
      refine at_step (v := .str p0.Name) (h1 := h2) [(1, .ptr (some (h.size, 0))), (6, .bool false), (8, .str p0.Name)] H (fun fr => by kernel_rfl) (fun fr => .of (s_ld (by kernel_rfl) (A.ld1 0 rfl (o := 0) rfl))) ?_
      intro fr t H
      refine at_seg [(6, []), (7, []), (8, [])] [(1, .ptr (some (h.size, 0))), (11, .bool (decide ((p0.Name.length : Int) > (600 : Int))))] H (noU_all rfl) (fun fr => by kernel_rfl) ?_
      intro fr H
      exact at_nil ⟨rfl, by first | exact H.less _ (fun fr => by rfl) | exact H.less _ (fun fr => by rw [hb]; rfl)⟩
  · intro t fr h' hK
    obtain ⟨e, H⟩ := hK
    subst e
    refine at_seg [(9, [])] [(1, .ptr (some (h.size, 0))), (12, .bool (x1 || (decide ((p0.Name.length : Int) > (600 : Int)))))] H (noU_all rfl) (fun fr => by kernel_rfl) ?_
    intro fr H
    refine at_cut [(10, []), (11, []), (12, []), (13, []), (14, [])] (fun fr' h' => h2 = h' ∧ Has fr' 36 [(1, .ptr (some (h.size, 0))), (17, .bool ((x1 || (decide ((p0.Name.length : Int) > (600 : Int)))) || (decide ((p0.Link.length : Int) > (600 : Int)))))]) ?_ ?_
    · cases hb : (x1 || (decide ((p0.Name.length : Int) > (600 : Int))) : Bool) with
      | true =>
        replace H := H.know 12 hb (by kernel_rfl)
        refine at_seg [(10, []), (11, []), (12, []), (13, []), (14, [])] [(1, .ptr (some (h.size, 0))), (17, .bool true)] H (noU_all rfl) (fun fr => by kernel_rfl) ?_
        intro fr H
        exact at_nil ⟨rfl, by first | exact H.less _ (fun fr => by rfl) | exact H.less _ (fun fr => by rw [hb]; rfl)⟩
      | false =>
        replace H := H.know 12 hb (by kernel_rfl)
        refine at_seg [(10, [])] [(1, .ptr (some (h.size, 0))), (12, .bool false), (13, .ptr (some (h.size, 1)))] H (noU_all rfl) (fun fr => by kernel_rfl) ?_
        intro fr H
        refine at_step (v := .str p0.Link) (h1 := h2) [(1, .ptr (some (h.size, 0))), (12, .bool false), (14, .str p0.Link)] H (fun fr => by kernel_rfl) (fun fr => .of (s_ld (by kernel_rfl) (A.ld1 0 rfl (o := 1) rfl))) ?_
        intro fr t H
        refine at_seg [(12, []), (13, []), (14, [])] [(1, .ptr (some (h.size, 0))), (17, .bool (decide ((p0.Link.length : Int) > (600 : Int))))] H (noU_all rfl) (fun fr => by kernel_rfl) ?_
        intro fr H
        exact at_nil ⟨rfl, by first | exact H.less _ (fun fr => by rfl) | exact H.less _ (fun fr => by rw [hb]; rfl)⟩
    · intro t fr h' hK
      obtain ⟨e, H⟩ := hK
      subst e
      refine at_seg [(15, [])] [(1, .ptr (some (h.size, 0))), (18, .bool ((x1 || (decide ((p0.Name.length : Int) > (600 : Int)))) || (decide ((p0.Link.length : Int) > (600 : Int)))))] H (noU_all rfl) (fun fr => by kernel_rfl) ?_
      intro fr H
      refine at_cut [(16, []), (17, []), (18, []), (19, []), (20, [])] (fun fr' h' => h2 = h' ∧ Has fr' 36 [(1, .ptr (some (h.size, 0))), (23, .bool (((x1 || (decide ((p0.Name.length : Int) > (600 : Int)))) || (decide ((p0.Link.length : Int) > (600 : Int)))) || (decide ((p0.Uname.length : Int) > (100 : Int)))))]) ?_ ?_
      · cases hb : ((x1 || (decide ((p0.Name.length : Int) > (600 : Int)))) || (decide ((p0.Link.length : Int) > (600 : Int))) : Bool) with
        | true =>
          replace H := H.know 18 hb (by kernel_rfl)
          refine at_seg [(16, []), (17, []), (18, []), (19, []), (20, [])] [(1, .ptr (some (h.size, 0))), (23, .bool true)] H (noU_all rfl) (fun fr => by kernel_rfl) ?_
          intro fr H
          exact at_nil ⟨rfl, by first | exact H.less _ (fun fr => by rfl) | exact H.less _ (fun fr => by rw [hb]; rfl)⟩
        | false =>
          replace H := H.know 18 hb (by kernel_rfl)
          refine at_seg [(16, [])] [(1, .ptr (some (h.size, 0))), (18, .bool false), (19, .ptr (some (h.size, 6)))] H (noU_all rfl) (fun fr => by kernel_rfl) ?_
          intro fr H
          refine at_step (v := .str p0.Uname) (h1 := h2) [(1, .ptr (some (h.size, 0))), (18, .bool false), (20, .str p0.Uname)] H (fun fr => by kernel_rfl) (fun fr => .of (s_ld (by kernel_rfl) (A.ld1 0 rfl (o := 6) rfl))) ?_
          intro fr t H
          refine at_seg [(18, []), (19, []), (20, [])] [(1, .ptr (some (h.size, 0))), (23, .bool (decide ((p0.Uname.length : Int) > (100 : Int))))] H (noU_all rfl) (fun fr => by kernel_rfl) ?_
          intro fr H
          exact at_nil ⟨rfl, by first | exact H.less _ (fun fr => by rfl) | exact H.less _ (fun fr => by rw [hb]; rfl)⟩
      · intro t fr h' hK
        obtain ⟨e, H⟩ := hK
        subst e
        refine at_seg [(21, [])] [(1, .ptr (some (h.size, 0))), (24, .bool (((x1 || (decide ((p0.Name.length : Int) > (600 : Int)))) || (decide ((p0.Link.length : Int) > (600 : Int)))) || (decide ((p0.Uname.length : Int) > (100 : Int)))))] H (noU_all rfl) (fun fr => by kernel_rfl) ?_
        intro fr H
        refine at_cut [(22, []), (23, []), (24, []), (25, []), (26, [])] (fun fr' h' => h2 = h' ∧ Has fr' 36 [(1, .ptr (some (h.size, 0))), (29, .bool ((((x1 || (decide ((p0.Name.length : Int) > (600 : Int)))) || (decide ((p0.Link.length : Int) > (600 : Int)))) || (decide ((p0.Uname.length : Int) > (100 : Int)))) || (decide ((p0.Gname.length : Int) > (100 : Int)))))]) ?_ ?_
        · cases hb : (((x1 || (decide ((p0.Name.length : Int) > (600 : Int)))) || (decide ((p0.Link.length : Int) > (600 : Int)))) || (decide ((p0.Uname.length : Int) > (100 : Int))) : Bool) with
          | true =>
            replace H := H.know 24 hb (by kernel_rfl)
            refine at_seg [(22, []), (23, []), (24, []), (25, []), (26, [])] [(1, .ptr (some (h.size, 0))), (29, .bool true)] H (noU_all rfl) (fun fr => by kernel_rfl) ?_
            intro fr H
            exact at_nil ⟨rfl, by first | exact H.less _ (fun fr => by rfl) | exact H.less _ (fun fr => by rw [hb]; rfl)⟩
          | false =>
            replace H := H.know 24 hb (by kernel_rfl)
            refine at_seg [(22, [])] [(1, .ptr (some (h.size, 0))), (24, .bool false), (25, .ptr (some (h.size, 7)))] H (noU_all rfl) (fun fr => by kernel_rfl) ?_
            intro fr H
            refine at_step (v := .str p0.Gname) (h1 := h2) [(1, .ptr (some (h.size, 0))), (24, .bool false), (26, .str p0.Gname)] H (fun fr => by kernel_rfl) (fun fr => .of (s_ld (by kernel_rfl) (A.ld1 0 rfl (o := 7) rfl))) ?_
            intro fr t H
            refine at_seg [(24, []), (25, []), (26, [])] [(1, .ptr (some (h.size, 0))), (29, .bool (decide ((p0.Gname.length : Int) > (100 : Int))))] H (noU_all rfl) (fun fr => by kernel_rfl) ?_
            intro fr H
            exact at_nil ⟨rfl, by first | exact H.less _ (fun fr => by rfl) | exact H.less _ (fun fr => by rw [hb]; rfl)⟩
        · intro t fr h' hK
          obtain ⟨e, H⟩ := hK
          subst e
          refine at_seg [(27, [])] [(1, .ptr (some (h.size, 0))), (30, .bool ((((x1 || (decide ((p0.Name.length : Int) > (600 : Int)))) || (decide ((p0.Link.length : Int) > (600 : Int)))) || (decide ((p0.Uname.length : Int) > (100 : Int)))) || (decide ((p0.Gname.length : Int) > (100 : Int)))))] H (noU_all rfl) (fun fr => by kernel_rfl) ?_
          intro fr H
          refine at_cut [(28, []), (29, []), (30, []), (31, []), (32, [])] (fun fr' h' => h2 = h' ∧ Has fr' 36 [(35, .bool (((((x1 || (decide ((p0.Name.length : Int) > (600 : Int)))) || (decide ((p0.Link.length : Int) > (600 : Int)))) || (decide ((p0.Uname.length : Int) > (100 : Int)))) || (decide ((p0.Gname.length : Int) > (100 : Int)))) || (decide ((p0.Data.length : Int) > (2000 : Int)))))]) ?_ ?_
          · cases hb : ((((x1 || (decide ((p0.Name.length : Int) > (600 : Int)))) || (decide ((p0.Link.length : Int) > (600 : Int)))) || (decide ((p0.Uname.length : Int) > (100 : Int)))) || (decide ((p0.Gname.length : Int) > (100 : Int))) : Bool) with
            | true =>
              replace H := H.know 30 hb (by kernel_rfl)
              refine at_seg [(28, []), (29, []), (30, []), (31, []), (32, [])] [(35, .bool true)] H (noU_all rfl) (fun fr => by kernel_rfl) ?_
              intro fr H
              exact at_nil ⟨rfl, by first | exact H.less _ (fun fr => by rfl) | exact H.less _ (fun fr => by rw [hb]; rfl)⟩
            | false =>
              replace H := H.know 30 hb (by kernel_rfl)
              refine at_seg [(28, [])] [(30, .bool false), (31, .ptr (some (h.size, 13)))] H (noU_all rfl) (fun fr => by kernel_rfl) ?_
              intro fr H
              refine at_step (v := .str p0.Data) (h1 := h2) [(30, .bool false), (32, .str p0.Data)] H (fun fr => by kernel_rfl) (fun fr => .of (s_ld (by kernel_rfl) (A.ld1 0 rfl (o := 13) rfl))) ?_
              intro fr t H
              refine at_seg [(30, []), (31, []), (32, [])] [(35, .bool (decide ((p0.Data.length : Int) > (2000 : Int))))] H (noU_all rfl) (fun fr => by kernel_rfl) ?_
              intro fr H
              exact at_nil ⟨rfl, by first | exact H.less _ (fun fr => by rfl) | exact H.less _ (fun fr => by rw [hb]; rfl)⟩
          · intro t fr h' hK
            obtain ⟨e, H⟩ := hK
            subst e
            refine at_seg [(33, [])] [(2, .bool (((((x1 || (decide ((p0.Name.length : Int) > (600 : Int)))) || (decide ((p0.Link.length : Int) > (600 : Int)))) || (decide ((p0.Uname.length : Int) > (100 : Int)))) || (decide ((p0.Gname.length : Int) > (100 : Int)))) || (decide ((p0.Data.length : Int) > (2000 : Int)))))] H (noU_all rfl) (fun fr => by kernel_rfl) ?_
            intro fr H
            refine at_nil ?_
            show AW cfg 42 g (right (right (bodyC cfg.P 42))) fr h2 _
            refine aw_ret (by kernel_rfl) ?_
            have e1 := Option.some.inj hm
            subst e1
            refine ⟨.inl rfl, .bool (((((x1 || (decide ((p0.Name.length : Int) > (600 : Int)))) || (decide ((p0.Link.length : Int) > (600 : Int)))) || (decide ((p0.Uname.length : Int) > (100 : Int)))) || (decide ((p0.Gname.length : Int) > (100 : Int)))) || (decide ((p0.Data.length : Int) > (2000 : Int)))), resH H (fun fr => by kernel_rfl), ?_⟩
            replace A : HH g h2 [] F := (HH.dropF A 0)
            exact ⟨rfl, A⟩
/-! ### boulter/boulterlaw38.long -/
noncomputable def M_boulterlaw38_long_L0 (p0 : List S_api_Member) (s : Int) : Option ((Int) ⊕ ((Unit) ⊕ (Bool))) :=
  match s with
  | x1 => iteB (decide (x1 < (p0.length : Int))) ((ixV p0 x1).bind fun x3 => (M_boulterref07_Long x3).bind fun x4 => iteB x4 (some (.inr (.inr true))) (some (.inl (IntKind.i64.wrap (x1 + (1 : Int)))))) (some (.inr (.inl ())))
noncomputable def M_boulterlaw38_long (p0 : List S_api_Member) : Option (Bool) :=
 iteB (decide ((p0.length : Int) > (10 : Int))) (some true) ((loop (M_boulterlaw38_long_L0 p0) (0 : Int)).bind fun o1 => (match o1 with | .inl _ => some false | .inr x2 => some x2))
theorem ok_boulterlaw38_long {g : Gd} {h : AHeap} {F : List Ck} {p0 : List S_api_Member} {q0 : Bool} {av : List AVal} (hm : M_boulterlaw38_long p0 = some q0) (hc : canL (cfg.still 19) av = [vs e_S_api_Member p0]) (A : HH g h [] F) : ∃ v h', Runs cfg g h 19 av v h' ∧ v = .bool q0 ∧ HH g h' [] F := by
  refine runsQ1 (n := 17) (rs := [.tmp 2]) (by kernel_rfl) hc (by kernel_rfl) ?_
  clear hc
  unfold M_boulterlaw38_long at hm
  refine start (n := 17) [(0, vs e_S_api_Member p0)] (by kernel_rfl) (by kernel_rfl) ?_
  intro fr H
  refine aw_seq (by kernel_rfl) ?_
  refine aw_reg (id := 0) (n := 1) [(0, [])] (by kernel_rfl) (by kernel_rfl) ?_
  refine at_seg [(0, [])] [(0, vs e_S_api_Member p0)] H (noU_all rfl) (fun fr => by kernel_rfl) ?_
  intro fr H
  refine at_nil ?_
  show AW cfg 19 g (right (bodyC cfg.P 19)) fr h _
  refine aw_seq (by kernel_rfl) ?_
  refine aw_seq (by kernel_rfl) ?_
  refine aw_reg (id := 1) (n := 3) [(0, []), (1, []), (2, [])] (by kernel_rfl) (by kernel_rfl) ?_
  refine at_seg [(0, []), (1, []), (2, [])] [(0, vs e_S_api_Member p0), (7, .bool (decide ((p0.length : Int) > (10 : Int))))] H (noU_all rfl) (fun fr => by kernel_rfl) ?_
  intro fr H
  refine at_nil ?_
  show AW cfg 19 g (right (left (right (bodyC cfg.P 19)))) fr h _
  rcases iteB_some hm with ⟨hb, hm⟩ | ⟨hb, hm⟩
  · replace H := H.know 7 hb (by kernel_rfl)
    refine aw_true (x := .tmp 7) (by kernel_rfl) H (fun fr => by kernel_rfl) ?_
    refine aw_seq (by kernel_rfl) ?_
    refine aw_reg (id := 2) (n := 1) [(0, [])] (by kernel_rfl) (by kernel_rfl) ?_
    refine at_seg [(0, [])] [(2, .bool true)] H (noU_all rfl) (fun fr => by kernel_rfl) ?_
    intro fr H
    refine at_nil ?_
    show AW cfg 19 g (right (left (right (left (right (bodyC cfg.P 19)))))) fr h _
    refine aw_ret (by kernel_rfl) ?_
    have e1 := Option.some.inj hm
    subst e1
    refine ⟨.inl rfl, .bool true, resH H (fun fr => by kernel_rfl), ?_⟩
    exact ⟨rfl, A⟩
  · replace H := H.know 7 hb (by kernel_rfl)
    refine aw_false (x := .tmp 7) (by kernel_rfl) H (fun fr => by kernel_rfl) ?_
    refine aw_skip (by kernel_rfl) ?_
    show AW cfg 19 g (right (right (bodyC cfg.P 19))) fr h _
    refine aw_seq (by kernel_rfl) ?_
    refine aw_seq (by kernel_rfl) ?_
    refine aw_reg (id := 3) (n := 3) [(0, []), (1, []), (2, [])] (by kernel_rfl) (by kernel_rfl) ?_
    refine at_seg [(0, []), (1, []), (2, [])] [(8, vs e_S_api_Member p0), (9, .int .i64 (p0.length : Int)), (10, .int .i64 (0 : Int))] H (noU_all rfl) (fun fr => by kernel_rfl) ?_
    intro fr H
    refine at_nil ?_
    show AW cfg 19 g (right (left (right (right (bodyC cfg.P 19))))) fr h _
    refine aw_block (id := 0) (by kernel_rfl) ?_
    obtain ⟨o1, ho, hm⟩ := bind_some hm
    refine aw_mono (Q' := fun e fr' h' => (e = .exit 0 ∧ .inl () = o1 ∧ Has fr' 17 [] ∧ HH g h' [] F) ∨ (∃ (x2 : Bool), e = .ret ∧ .inr x2 = o1 ∧ Has fr' 17 [(2, .bool x2)] ∧ HH g h' [] F) ∨ False) ?_ ?_
    · refine aw_loop (by kernel_rfl) (fun (s : Int) fr' h' => ∃ (x1 : Int), x1 = s ∧ Has fr' 17 [(8, vs e_S_api_Member p0), (9, .int .i64 (p0.length : Int)), (10, .int .i64 x1)] ∧ HH g h' [] F) ho ⟨(0 : Int), rfl, H.less _ (fun fr => by kernel_rfl), A⟩ ?_
      clear ho hm H A
      intro s q fr h1 hI hm
      obtain ⟨x1, rfl, H, A⟩ := hI
      unfold M_boulterlaw38_long_L0 at hm
      refine aw_seq (by kernel_rfl) ?_
      refine aw_reg (id := 4) (n := 1) [(0, [])] (by kernel_rfl) (by kernel_rfl) ?_
      refine at_seg [(0, [])] [(8, vs e_S_api_Member p0), (9, .int .i64 (p0.length : Int)), (10, .int .i64 x1), (11, .bool (decide (x1 < (p0.length : Int))))] H (noU_all rfl) (fun fr => by kernel_rfl) ?_
      intro fr H
      refine at_nil ?_
      show AW cfg 19 g (right (left (left (right (left (right (right (bodyC cfg.P 19)))))))) fr h1 _
      refine aw_seq (by kernel_rfl) ?_
      rcases iteB_some hm with ⟨hb, hm⟩ | ⟨hb, hm⟩
      · replace H := H.know 11 hb (by kernel_rfl)
        refine aw_true (x := .tmp 11) (by kernel_rfl) H (fun fr => by kernel_rfl) ?_
        refine aw_skip (by kernel_rfl) ?_
        show AW cfg 19 g (right (right (left (left (right (left (right (right (bodyC cfg.P 19))))))))) fr h1 _
        refine aw_seq (by kernel_rfl) ?_
        refine aw_block (id := 1) (by kernel_rfl) ?_
        refine aw_seq (by kernel_rfl) ?_
        refine aw_reg (id := 5) (n := 4) [(0, []), (1, []), (2, []), (3, [])] (by kernel_rfl) (by kernel_rfl) ?_
        obtain ⟨x3, hx, hm⟩ := bind_some hm
        refine at_step (v := .vptr [.str x3.Name, .str x3.Link, .int .u8 x3.Kind, .int .i64 x3.Mode, .int .i64 x3.Uid, .int .i64 x3.Gid, .str x3.Uname, .str x3.Gname, .int .i64 x3.Major, .int .i64 x3.Minor, .int .i64 x3.Time.Sec, .int .i64 x3.Time.Nsec, vs e_S_api_Pair x3.Extra, .str x3.Data]) (h1 := h1) [(8, vs e_S_api_Member p0), (9, .int .i64 (p0.length : Int)), (10, .int .i64 x1), (12, .vptr [.str x3.Name, .str x3.Link, .int .u8 x3.Kind, .int .i64 x3.Mode, .int .i64 x3.Uid, .int .i64 x3.Gid, .str x3.Uname, .str x3.Gname, .int .i64 x3.Major, .int .i64 x3.Minor, .int .i64 x3.Time.Sec, .int .i64 x3.Time.Nsec, vs e_S_api_Pair x3.Extra, .str x3.Data])] H (fun fr => by kernel_rfl) (fun fr => .of (s_ixV (e := e_S_api_Member) (x := x3) enc_S_api_Member (by decide) (by kernel_rfl) hx)) ?_
        intro fr t H
        refine at_step (v := .agg (e_S_api_Member x3)) (h1 := h1) [(8, vs e_S_api_Member p0), (9, .int .i64 (p0.length : Int)), (10, .int .i64 x1), (13, .agg (e_S_api_Member x3))] H (fun fr => by kernel_rfl) (fun fr => .of (s_lv (by kernel_rfl))) ?_
        intro fr t H
        obtain ⟨h2, e1⟩ : ∃ x, x = h1.push (.cells none 2 [.str ([] : List UInt8), .str ([] : List UInt8), .int .u8 (0 : Int), .int .i64 (0 : Int), .int .i64 (0 : Int), .int .i64 (0 : Int), .str ([] : List UInt8), .str ([] : List UInt8), .int .i64 (0 : Int), .int .i64 (0 : Int), .int .i64 (0 : Int), .int .i64 (0 : Int), .slice none 0, .str ([] : List UInt8)]) := ⟨_, rfl⟩
        replace A := (A.push _).to e1
        refine at_step (v := .ptr (some (h1.size, 0))) (h1 := h2) [(4, .ptr (some (h1.size, 0))), (8, vs e_S_api_Member p0), (9, .int .i64 (p0.length : Int)), (10, .int .i64 x1), (13, .agg (e_S_api_Member x3))] H (fun fr => by kernel_rfl) (fun fr => .of (s_n' (by kernel_rfl) (congrArg some e1.symm))) ?_
        intro fr t H
        obtain ⟨h3, hx, A1⟩ := A.st 0 rfl (o := 0) (new := [.str x3.Name, .str x3.Link, .int .u8 x3.Kind, .int .i64 x3.Mode, .int .i64 x3.Uid, .int .i64 x3.Gid, .str x3.Uname, .str x3.Gname, .int .i64 x3.Major, .int .i64 x3.Minor, .int .i64 x3.Time.Sec, .int .i64 x3.Time.Nsec, vs e_S_api_Pair x3.Extra, .str x3.Data]) (ds := [.str x3.Name, .str x3.Link, .int .u8 x3.Kind, .int .i64 x3.Mode, .int .i64 x3.Uid, .int .i64 x3.Gid, .str x3.Uname, .str x3.Gname, .int .i64 x3.Major, .int .i64 x3.Minor, .int .i64 x3.Time.Sec, .int .i64 x3.Time.Nsec, vs e_S_api_Pair x3.Extra, .str x3.Data]) (Nat.le_of_ble_eq_true rfl) rfl rfl
        replace A : HH g h3 [.obj h1.size (.cells none 2 (e_S_api_Member x3))] F := A1
        refine at_step (v := .tuple []) (h1 := h3) [(4, .ptr (some (h1.size, 0))), (8, vs e_S_api_Member p0), (9, .int .i64 (p0.length : Int)), (10, .int .i64 x1)] H (fun fr => by kernel_rfl) (fun fr => .of (s_stG (by kernel_rfl) (stG_st hx rfl))) ?_
        intro fr t H
        refine at_nil ?_
        show AW cfg 19 g (right (left (left (right (right (left (left (right (left (right (right (bodyC cfg.P 19)))))))))))) fr h3 _
        refine aw_seq (by kernel_rfl) ?_
        refine aw_reg (id := 6) (n := 2) [(0, []), (1, [])] (by kernel_rfl) (by kernel_rfl) ?_
        refine at_step (v := .agg (e_S_api_Member x3)) (h1 := h3) [(8, vs e_S_api_Member p0), (9, .int .i64 (p0.length : Int)), (10, .int .i64 x1), (14, .agg (e_S_api_Member x3))] H (fun fr => by kernel_rfl) (fun fr => .of (s_ldA (by kernel_rfl) (A.ldA 0 rfl (o := 0) (n := 14) ⟨Nat.le_of_ble_eq_true rfl, rfl⟩))) ?_
        intro fr t H
        have A1 := A.cut 0
        obtain ⟨x4, hx, hm⟩ := bind_some hm
        obtain ⟨v1, h4, hr, rfl, A1⟩ := ok_boulterref07_Long (av := [.agg (e_S_api_Member x3)]) hx (by kernel_rfl) A1
        replace A : HH g h4 [.obj h1.size (.cells none 2 (e_S_api_Member x3))] F := A.glue0 (n := 0) A1
        refine at_step (v := .bool x4) (h1 := h4) [(8, vs e_S_api_Member p0), (9, .int .i64 (p0.length : Int)), (10, .int .i64 x1), (15, .bool x4)] H (fun fr => by kernel_rfl) (fun fr => Steps.call (by kernel_rfl) hr) ?_
        intro fr t H
        refine at_nil ?_
        show AW cfg 19 g (right (right (left (left (right (right (left (left (right (left (right (right (bodyC cfg.P 19))))))))))))) fr h4 _
        rcases iteB_some hm with ⟨hb, hm⟩ | ⟨hb, hm⟩
        · replace H := H.know 15 hb (by kernel_rfl)
          refine aw_true (x := .tmp 15) (by kernel_rfl) H (fun fr => by kernel_rfl) ?_
          refine aw_seq (by kernel_rfl) ?_
          refine aw_reg (id := 7) (n := 1) [(0, [])] (by kernel_rfl) (by kernel_rfl) ?_
          refine at_seg [(0, [])] [(2, .bool true)] H (noU_all rfl) (fun fr => by kernel_rfl) ?_
          intro fr H
          refine at_nil ?_
          show AW cfg 19 g (right (left (right (right (left (left (right (right (left (left (right (left (right (right (bodyC cfg.P 19))))))))))))))) fr h4 _
          refine aw_ret (by kernel_rfl) ?_
          replace A : HH g h4 [] F := (HH.dropF A 0)
          exact Exists.intro _ (And.intro (Option.some.inj hm).symm (fun e => Or.inr (Or.inl ⟨true, rfl, e, H.less _ (fun fr => by kernel_rfl), A⟩)))
        · replace H := H.know 15 hb (by kernel_rfl)
          refine aw_false (x := .tmp 15) (by kernel_rfl) H (fun fr => by kernel_rfl) ?_
          refine aw_skip (by kernel_rfl) ?_
          show AW cfg 19 g (right (right (right (left (left (right (left (right (right (bodyC cfg.P 19)))))))))) fr h4 _
          refine aw_reg (id := 8) (n := 2) [(0, []), (1, [])] (by kernel_rfl) (by kernel_rfl) ?_
          refine at_seg [(0, []), (1, [])] [(8, vs e_S_api_Member p0), (9, .int .i64 (p0.length : Int)), (10, .int .i64 (IntKind.i64.wrap (x1 + (1 : Int))))] H (noU_all rfl) (fun fr => by kernel_rfl) ?_
          intro fr H
          refine at_nil ?_
          replace A : HH g h4 [] F := (HH.dropF A 0)
          exact Exists.intro (IntKind.i64.wrap (x1 + (1 : Int))) (And.intro (Option.some.inj hm).symm ⟨IntKind.i64.wrap (x1 + (1 : Int)), rfl, H.less _ (fun fr => by kernel_rfl), A⟩)
      · replace H := H.know 11 hb (by kernel_rfl)
        refine aw_false (x := .tmp 11) (by kernel_rfl) H (fun fr => by kernel_rfl) ?_
        refine aw_exit (i := 0) (by kernel_rfl) ?_
        exact Exists.intro _ (And.intro (Option.some.inj hm).symm (fun e => Or.inl ⟨rfl, e, H.less _ (fun fr => by kernel_rfl), A⟩))
    · clear ho
      clear A
      intro e fr h5 hQ
      rcases hQ with ⟨rfl, rfl, H, A⟩ | ⟨x2, rfl, rfl, H, A⟩ | hF
      · skip
        show AW cfg 19 g (right (right (right (bodyC cfg.P 19)))) fr h5 _
        refine aw_seq (by kernel_rfl) ?_
        refine aw_reg (id := 9) (n := 1) [(0, [])] (by kernel_rfl) (by kernel_rfl) ?_
        refine at_seg [(0, [])] [(2, .bool false)] H (noU_all rfl) (fun fr => by kernel_rfl) ?_
        intro fr H
        refine at_nil ?_
        show AW cfg 19 g (right (right (right (right (bodyC cfg.P 19))))) fr h5 _
        refine aw_ret (by kernel_rfl) ?_
        have e1 := Option.some.inj hm
        subst e1
        refine ⟨.inl rfl, .bool false, resH H (fun fr => by kernel_rfl), ?_⟩
        exact ⟨rfl, A⟩
      · skip
        have e1 := Option.some.inj hm
        subst e1
        refine ⟨.inl rfl, .bool x2, resH H (fun fr => by kernel_rfl), ?_⟩
        exact ⟨rfl, A⟩
      · exact hF.elim
/-! ### boulter/boulterlaw38.awake -/
def M_boulterlaw38_awake : Option Bool := some true
theorem ok_boulterlaw38_awake {g : Gd} {h : AHeap} {q0 : Bool} (hm : M_boulterlaw38_awake = some q0) : Runs cfg g h 20 [] (.bool q0) h := by
  have e1 := Option.some.inj hm
  subst e1
  exact runs4E (by kernel_rfl) rfl rfl (closed 1000 (by kernel_rfl))
/-! ### boulter/delta.places -/
noncomputable def M_delta_places_L0 (p0 : List S_api_Member) (s : (List ((List UInt8) × Int)) × Int) : Option (((List ((List UInt8) × Int)) × Int) ⊕ (((List ((List UInt8) × Int))))) :=
  match s with
  | (x1, x2) => iteB (decide (x2 < (p0.length : Int))) ((ixV p0 x2).bind fun x4 => some (.inl ((mput x1 x4.Name x2), IntKind.i64.wrap (x2 + (1 : Int))))) (some (.inr x1))
noncomputable def M_delta_places (p0 : List S_api_Member) : Option ((List ((List UInt8) × Int))) :=
 (loop (M_delta_places_L0 p0) (([] : List ((List UInt8) × Int)), (0 : Int))).bind fun x3 => some x3
theorem ok_delta_places {g : Gd} {h : AHeap} {F : List Ck} {p0 : List S_api_Member} {q0 : List ((List UInt8) × Int)} {av : List AVal} (hm : M_delta_places p0 = some q0) (hc : canL (cfg.still 46) av = [vs e_S_api_Member p0]) (A : HH g h [] F) : ∃ v h', Runs cfg g h 46 av v h' ∧ ∃ (bq0 : Nat), v = .map (some bq0) ∧ HH g h' [.obj bq0 (.map 2 (encM (fun k : List UInt8 => .str k) (fun v : Int => .int .i64 v) q0))] F := by
  refine runsQ1 (n := 20) (rs := [.tmp 2]) (by kernel_rfl) hc (by kernel_rfl) ?_
  clear hc
  unfold M_delta_places at hm
  refine start (n := 20) [(0, vs e_S_api_Member p0)] (by kernel_rfl) (by kernel_rfl) ?_
  intro fr H
  refine aw_seq (by kernel_rfl) ?_
  refine aw_reg (id := 0) (n := 1) [(0, [])] (by kernel_rfl) (by kernel_rfl) ?_
  refine at_seg [(0, [])] [(0, vs e_S_api_Member p0)] H (noU_all rfl) (fun fr => by kernel_rfl) ?_
  intro fr H
  refine at_nil ?_
  show AW cfg 46 g (right (bodyC cfg.P 46)) fr h _
  refine aw_seq (by kernel_rfl) ?_
  refine aw_reg (id := 1) (n := 2) [(0, []), (1, [])] (by kernel_rfl) (by kernel_rfl) ?_
  obtain ⟨h1, e1⟩ : ∃ x, x = h.push (.map 2 []) := ⟨_, rfl⟩
  replace A : HH g h1 [.obj h.size (.map 2 (encM (fun k : List UInt8 => .str k) (fun v : Int => .int .i64 v) ([] : List ((List UInt8) × Int))))] F := (A.push _).to e1
  refine at_step (v := .map (some h.size)) (h1 := h1) [(0, vs e_S_api_Member p0), (6, .map (some h.size))] H (fun fr => by kernel_rfl) (fun fr => .of (s_n' (by kernel_rfl) (congrArg some e1.symm))) ?_
  intro fr t H
  refine at_seg [(1, [])] [(0, vs e_S_api_Member p0), (3, .map (some h.size))] H (noU_all rfl) (fun fr => by kernel_rfl) ?_
  intro fr H
  refine at_nil ?_
  show AW cfg 46 g (right (right (bodyC cfg.P 46))) fr h1 _
  refine aw_seq (by kernel_rfl) ?_
  refine aw_seq (by kernel_rfl) ?_
  refine aw_reg (id := 2) (n := 3) [(0, []), (1, []), (2, [])] (by kernel_rfl) (by kernel_rfl) ?_
  refine at_seg [(0, []), (1, []), (2, [])] [(3, .map (some h.size)), (7, vs e_S_api_Member p0), (8, .int .i64 (p0.length : Int)), (9, .int .i64 (0 : Int))] H (noU_all rfl) (fun fr => by kernel_rfl) ?_
  intro fr H
  refine at_nil ?_
  show AW cfg 46 g (right (left (right (right (bodyC cfg.P 46))))) fr h1 _
  refine aw_block (id := 0) (by kernel_rfl) ?_
  obtain ⟨o1, ho, hm⟩ := bind_some hm
  refine aw_mono (Q' := fun e fr' h' => (∃ (x3 : List ((List UInt8) × Int)), e = .exit 0 ∧ x3 = o1 ∧ Has fr' 20 [(3, .map (some h.size))] ∧ HH g h' [.obj h.size (.map 2 (encM (fun k : List UInt8 => .str k) (fun v : Int => .int .i64 v) x3))] F) ∨ False) ?_ ?_
  · refine aw_loop (by kernel_rfl) (fun (s : (List ((List UInt8) × Int)) × Int) fr' h' => ∃ (x1 : List ((List UInt8) × Int)) (x2 : Int), (x1, x2) = s ∧ Has fr' 20 [(3, .map (some h.size)), (7, vs e_S_api_Member p0), (8, .int .i64 (p0.length : Int)), (9, .int .i64 x2)] ∧ HH g h' [.obj h.size (.map 2 (encM (fun k : List UInt8 => .str k) (fun v : Int => .int .i64 v) x1))] F) ho ⟨([] : List ((List UInt8) × Int)), (0 : Int), rfl, H.less _ (fun fr => by kernel_rfl), A⟩ ?_
    clear ho hm H A
    intro s q fr h2 hI hm
    obtain ⟨x1, x2, rfl, H, A⟩ := hI
    unfold M_delta_places_L0 at hm
    refine aw_seq (by kernel_rfl) ?_
    refine aw_reg (id := 3) (n := 1) [(0, [])] (by kernel_rfl) (by kernel_rfl) ?_
    refine at_seg [(0, [])] [(3, .map (some h.size)), (7, vs e_S_api_Member p0), (8, .int .i64 (p0.length : Int)), (9, .int .i64 x2), (10, .bool (decide (x2 < (p0.length : Int))))] H (noU_all rfl) (fun fr => by kernel_rfl) ?_
    intro fr H
    refine at_nil ?_
    show AW cfg 46 g (right (left (left (right (left (right (right (bodyC cfg.P 46)))))))) fr h2 _
    refine aw_seq (by kernel_rfl) ?_
    rcases iteB_some hm with ⟨hb, hm⟩ | ⟨hb, hm⟩
    · replace H := H.know 10 hb (by kernel_rfl)
      refine aw_true (x := .tmp 10) (by kernel_rfl) H (fun fr => by kernel_rfl) ?_
      refine aw_skip (by kernel_rfl) ?_
      show AW cfg 46 g (right (right (left (left (right (left (right (right (bodyC cfg.P 46))))))))) fr h2 _
      refine aw_seq (by kernel_rfl) ?_
      refine aw_block (id := 1) (by kernel_rfl) ?_
      refine aw_seq (by kernel_rfl) ?_
      refine aw_reg (id := 4) (n := 6) [(0, []), (1, []), (2, []), (3, []), (4, []), (5, [])] (by kernel_rfl) (by kernel_rfl) ?_
      refine at_seg [(0, [])] [(3, .map (some h.size)), (7, vs e_S_api_Member p0), (8, .int .i64 (p0.length : Int)), (9, .int .i64 x2), (11, .int .i64 x2)] H (noU_all rfl) (fun fr => by kernel_rfl) ?_
      intro fr H
      obtain ⟨x4, hx, hm⟩ := bind_some hm
      refine at_step (v := .vptr [.str x4.Name, .str x4.Link, .int .u8 x4.Kind, .int .i64 x4.Mode, .int .i64 x4.Uid, .int .i64 x4.Gid, .str x4.Uname, .str x4.Gname, .int .i64 x4.Major, .int .i64 x4.Minor, .int .i64 x4.Time.Sec, .int .i64 x4.Time.Nsec, vs e_S_api_Pair x4.Extra, .str x4.Data]) (h1 := h2) [(3, .map (some h.size)), (7, vs e_S_api_Member p0), (8, .int .i64 (p0.length : Int)), (9, .int .i64 x2), (11, .int .i64 x2), (12, .vptr [.str x4.Name, .str x4.Link, .int .u8 x4.Kind, .int .i64 x4.Mode, .int .i64 x4.Uid, .int .i64 x4.Gid, .str x4.Uname, .str x4.Gname, .int .i64 x4.Major, .int .i64 x4.Minor, .int .i64 x4.Time.Sec, .int .i64 x4.Time.Nsec, vs e_S_api_Pair x4.Extra, .str x4.Data])] H (fun fr => by kernel_rfl) (fun fr => .of (s_ixV (e := e_S_api_Member) (x := x4) enc_S_api_Member (by decide) (by kernel_rfl) hx)) ?_
      intro fr t H
      refine at_step (v := .agg (e_S_api_Member x4)) (h1 := h2) [(3, .map (some h.size)), (7, vs e_S_api_Member p0), (8, .int .i64 (p0.length : Int)), (9, .int .i64 x2), (11, .int .i64 x2), (13, .agg (e_S_api_Member x4))] H (fun fr => by kernel_rfl) (fun fr => .of (s_lv (by kernel_rfl))) ?_
      intro fr t H
      obtain ⟨h3, e2⟩ : ∃ x, x = h2.push (.cells none 2 [.str ([] : List UInt8), .str ([] : List UInt8), .int .u8 (0 : Int), .int .i64 (0 : Int), .int .i64 (0 : Int), .int .i64 (0 : Int), .str ([] : List UInt8), .str ([] : List UInt8), .int .i64 (0 : Int), .int .i64 (0 : Int), .int .i64 (0 : Int), .int .i64 (0 : Int), .slice none 0, .str ([] : List UInt8)]) := ⟨_, rfl⟩
      replace A := (A.push _).to e2
      refine at_step (v := .ptr (some (h2.size, 0))) (h1 := h3) [(3, .map (some h.size)), (5, .ptr (some (h2.size, 0))), (7, vs e_S_api_Member p0), (8, .int .i64 (p0.length : Int)), (9, .int .i64 x2), (11, .int .i64 x2), (13, .agg (e_S_api_Member x4))] H (fun fr => by kernel_rfl) (fun fr => .of (s_n' (by kernel_rfl) (congrArg some e2.symm))) ?_
      intro fr t H
      refine at_seg [(4, [])] [(3, .map (some h.size)), (4, .int .i64 x2), (5, .ptr (some (h2.size, 0))), (7, vs e_S_api_Member p0), (8, .int .i64 (p0.length : Int)), (9, .int .i64 x2), (13, .agg (e_S_api_Member x4))] H (noU_all rfl) (fun fr => by kernel_rfl) ?_
      intro fr H
      obtain ⟨h4, hx, A1⟩ := A.st 0 rfl (o := 0) (new := [.str x4.Name, .str x4.Link, .int .u8 x4.Kind, .int .i64 x4.Mode, .int .i64 x4.Uid, .int .i64 x4.Gid, .str x4.Uname, .str x4.Gname, .int .i64 x4.Major, .int .i64 x4.Minor, .int .i64 x4.Time.Sec, .int .i64 x4.Time.Nsec, vs e_S_api_Pair x4.Extra, .str x4.Data]) (ds := [.str x4.Name, .str x4.Link, .int .u8 x4.Kind, .int .i64 x4.Mode, .int .i64 x4.Uid, .int .i64 x4.Gid, .str x4.Uname, .str x4.Gname, .int .i64 x4.Major, .int .i64 x4.Minor, .int .i64 x4.Time.Sec, .int .i64 x4.Time.Nsec, vs e_S_api_Pair x4.Extra, .str x4.Data]) (Nat.le_of_ble_eq_true rfl) rfl rfl
      replace A : HH g h4 [.obj h2.size (.cells none 2 (e_S_api_Member x4)), .obj h.size (.map 2 (encM (fun k : List UInt8 => .str k) (fun v : Int => .int .i64 v) x1))] F := A1
      refine at_step (v := .tuple []) (h1 := h4) [(3, .map (some h.size)), (4, .int .i64 x2), (5, .ptr (some (h2.size, 0))), (7, vs e_S_api_Member p0), (8, .int .i64 (p0.length : Int)), (9, .int .i64 x2)] H (fun fr => by kernel_rfl) (fun fr => .of (s_stG (by kernel_rfl) (stG_st hx rfl))) ?_
      intro fr t H
      refine at_nil ?_
      show AW cfg 46 g (right (left (left (right (right (left (left (right (left (right (right (bodyC cfg.P 46)))))))))))) fr h4 _
      refine aw_reg (id := 5) (n := 5) [(0, []), (1, []), (2, []), (3, []), (4, [])] (by kernel_rfl) (by kernel_rfl) ?_
      refine at_seg [(0, []), (1, [])] [(3, .map (some h.size)), (4, .int .i64 x2), (7, vs e_S_api_Member p0), (8, .int .i64 (p0.length : Int)), (9, .int .i64 x2), (14, .map (some h.size)), (15, .ptr (some (h2.size, 0)))] H (noU_all rfl) (fun fr => by kernel_rfl) ?_
      intro fr H
      refine at_step (v := .str x4.Name) (h1 := h4) [(3, .map (some h.size)), (4, .int .i64 x2), (7, vs e_S_api_Member p0), (8, .int .i64 (p0.length : Int)), (9, .int .i64 x2), (14, .map (some h.size)), (16, .str x4.Name)] H (fun fr => by kernel_rfl) (fun fr => .of (s_ld (by kernel_rfl) (A.ld1 0 rfl (o := 0) rfl))) ?_
      intro fr t H
      refine at_seg [(3, [])] [(3, .map (some h.size)), (7, vs e_S_api_Member p0), (8, .int .i64 (p0.length : Int)), (9, .int .i64 x2), (14, .map (some h.size)), (16, .str x4.Name), (17, .int .i64 x2)] H (noU_all rfl) (fun fr => by kernel_rfl) ?_
      intro fr H
      obtain ⟨h5, hx, A1⟩ := HH.mset (kt := 9) (et := 3) (ek := fun k : List UInt8 => .str k) (ev := fun v : Int => .int .i64 v) (keyS (by kernel_rfl)) A 1 rfl (t := 68) (by kernel_rfl) x4.Name x2
      replace A : HH g h5 [.obj h2.size (.cells none 2 (e_S_api_Member x4)), .obj h.size (.map 2 (encM (fun k : List UInt8 => .str k) (fun v : Int => .int .i64 v) (mput x1 x4.Name x2)))] F := A1
      refine at_step (v := .tuple []) (h1 := h5) [(3, .map (some h.size)), (7, vs e_S_api_Member p0), (8, .int .i64 (p0.length : Int)), (9, .int .i64 x2)] H (fun fr => by kernel_rfl) (fun fr => .of (s_ms (by kernel_rfl) hx)) ?_
      intro fr t H
      refine at_nil ?_
      show AW cfg 46 g (right (right (right (left (left (right (left (right (right (bodyC cfg.P 46)))))))))) fr h5 _
      refine aw_reg (id := 6) (n := 2) [(0, []), (1, [])] (by kernel_rfl) (by kernel_rfl) ?_
      refine at_seg [(0, []), (1, [])] [(3, .map (some h.size)), (7, vs e_S_api_Member p0), (8, .int .i64 (p0.length : Int)), (9, .int .i64 (IntKind.i64.wrap (x2 + (1 : Int))))] H (noU_all rfl) (fun fr => by kernel_rfl) ?_
      intro fr H
      refine at_nil ?_
      replace A : HH g h5 [.obj h.size (.map 2 (encM (fun k : List UInt8 => .str k) (fun v : Int => .int .i64 v) (mput x1 x4.Name x2)))] F := (HH.dropF (A.front 1 rfl) 1)
      exact Exists.intro ((mput x1 x4.Name x2), IntKind.i64.wrap (x2 + (1 : Int))) (And.intro (Option.some.inj hm).symm ⟨(mput x1 x4.Name x2), IntKind.i64.wrap (x2 + (1 : Int)), rfl, H.less _ (fun fr => by kernel_rfl), A⟩)
    · replace H := H.know 10 hb (by kernel_rfl)
      refine aw_false (x := .tmp 10) (by kernel_rfl) H (fun fr => by kernel_rfl) ?_
      refine aw_exit (i := 0) (by kernel_rfl) ?_
      exact Exists.intro _ (And.intro (Option.some.inj hm).symm (fun e => Or.inl ⟨x1, rfl, e, H.less _ (fun fr => by kernel_rfl), A⟩))
  · clear ho
    clear A
    intro e fr h6 hQ
    rcases hQ with ⟨x3, rfl, rfl, H, A⟩ | hF
    · skip
      show AW cfg 46 g (right (right (right (bodyC cfg.P 46)))) fr h6 _
      refine aw_seq (by kernel_rfl) ?_
      refine aw_reg (id := 7) (n := 2) [(0, []), (1, [])] (by kernel_rfl) (by kernel_rfl) ?_
      refine at_seg [(0, []), (1, [])] [(2, .map (some h.size))] H (noU_all rfl) (fun fr => by kernel_rfl) ?_
      intro fr H
      refine at_nil ?_
      show AW cfg 46 g (right (right (right (right (bodyC cfg.P 46))))) fr h6 _
      refine aw_ret (by kernel_rfl) ?_
      have e1 := Option.some.inj hm
      subst e1
      refine ⟨.inl rfl, .map (some h.size), resH H (fun fr => by kernel_rfl), ?_⟩
      exact ⟨h.size, rfl, A⟩
    · exact hF.elim
/-! ### boulter/delta.kept -/
noncomputable def M_delta_kept_L0 (p0 : List S_api_Member) (p1 : List ((List UInt8) × Int)) (s : (List S_api_Member) × Int) : Option (((List S_api_Member) × Int) ⊕ (((List S_api_Member)))) :=
  match s with
  | (x1, x2) => iteB (decide (x2 < (p0.length : Int))) (((ixV p0 x2).bind fun x5 => iteB (((mfind p1 x5.Name).isSome) && (((mfind p1 x5.Name).getD (0 : Int)) == x2)) (need (okN 32 x5.Extra.length) <| need (okN 168 (x1.length + ([x5] : List S_api_Member).length)) <| some (x1 ++ ([x5] : List S_api_Member))) (some x1) : Option (((List S_api_Member)))).bind fun x4 => some (.inl (x4, IntKind.i64.wrap (x2 + (1 : Int))))) (some (.inr x1))
noncomputable def M_delta_kept (p0 : List S_api_Member) (p1 : List ((List UInt8) × Int)) : Option ((List S_api_Member)) :=
 (loop (M_delta_kept_L0 p0 p1) (([] : List S_api_Member), (0 : Int))).bind fun x3 => some x3
theorem ok_delta_kept {g : Gd} {h : AHeap} {F : List Ck} {p0 : List S_api_Member} {p1 : List ((List UInt8) × Int)} {bp1 : Nat} {q0 : List S_api_Member} {av : List AVal} (hm : M_delta_kept p0 p1 = some q0) (hc : canL (cfg.still 45) av = [vs e_S_api_Member p0, .map (some bp1)]) (A : HH g h [.obj bp1 (.map 2 (encM (fun k : List UInt8 => .str k) (fun v : Int => .int .i64 v) p1))] F) : ∃ v h', Runs cfg g h 45 av v h' ∧ ∃ (rq0 : Option Nat), v = rowV rq0 q0.length ∧ HH g h' [.lst rq0 63 (lst e_S_api_Member q0), .obj bp1 (.map 2 (encM (fun k : List UInt8 => .str k) (fun v : Int => .int .i64 v) p1))] F := by
  refine runsQ1 (n := 40) (rs := [.tmp 4]) (by kernel_rfl) hc (by kernel_rfl) ?_
  clear hc
  unfold M_delta_kept at hm
  refine start (n := 40) [(0, vs e_S_api_Member p0), (1, .map (some bp1))] (by kernel_rfl) (by kernel_rfl) ?_
  intro fr H
  refine aw_seq (by kernel_rfl) ?_
  refine aw_reg (id := 0) (n := 1) [(0, [])] (by kernel_rfl) (by kernel_rfl) ?_
  refine at_seg [(0, [])] [(0, vs e_S_api_Member p0), (1, .map (some bp1))] H (noU_all rfl) (fun fr => by kernel_rfl) ?_
  intro fr H
  refine at_nil ?_
  show AW cfg 45 g (right (bodyC cfg.P 45)) fr h _
  refine aw_seq (by kernel_rfl) ?_
  refine aw_reg (id := 1) (n := 1) [(0, [])] (by kernel_rfl) (by kernel_rfl) ?_
  refine at_seg [(0, [])] [(0, vs e_S_api_Member p0), (1, .map (some bp1)), (5, .slice none 0)] H (noU_all rfl) (fun fr => by kernel_rfl) ?_
  intro fr H
  refine at_nil ?_
  show AW cfg 45 g (right (right (bodyC cfg.P 45))) fr h _
  refine aw_seq (by kernel_rfl) ?_
  refine aw_seq (by kernel_rfl) ?_
  refine aw_reg (id := 2) (n := 3) [(0, []), (1, []), (2, [])] (by kernel_rfl) (by kernel_rfl) ?_
  refine at_seg [(0, []), (1, []), (2, [])] [(1, .map (some bp1)), (5, .slice none 0), (10, vs e_S_api_Member p0), (11, .int .i64 (p0.length : Int)), (12, .int .i64 (0 : Int))] H (noU_all rfl) (fun fr => by kernel_rfl) ?_
  intro fr H
  refine at_nil ?_
  show AW cfg 45 g (right (left (right (right (bodyC cfg.P 45))))) fr h _
  refine aw_block (id := 0) (by kernel_rfl) ?_
  replace A : HH g h [.lst none 63 (lst e_S_api_Member ([] : List S_api_Member)), .obj bp1 (.map 2 (encM (fun k : List UInt8 => .str k) (fun v : Int => .int .i64 v) p1))] F := A.nilL 63
  obtain ⟨o1, ho, hm⟩ := bind_some hm
  refine aw_mono (Q' := fun e fr' h' => (∃ (x3 : List S_api_Member), e = .exit 0 ∧ x3 = o1 ∧ ∃ (r2 : Option Nat), Has fr' 40 [(5, rowV r2 x3.length)] ∧ HH g h' [.lst r2 63 (lst e_S_api_Member x3), .obj bp1 (.map 2 (encM (fun k : List UInt8 => .str k) (fun v : Int => .int .i64 v) p1))] F) ∨ False) ?_ ?_
  · refine aw_loop (by kernel_rfl) (fun (s : (List S_api_Member) × Int) fr' h' => ∃ (x1 : List S_api_Member) (x2 : Int), (x1, x2) = s ∧ ∃ (r1 : Option Nat), Has fr' 40 [(1, .map (some bp1)), (5, rowV r1 x1.length), (10, vs e_S_api_Member p0), (11, .int .i64 (p0.length : Int)), (12, .int .i64 x2)] ∧ HH g h' [.lst r1 63 (lst e_S_api_Member x1), .obj bp1 (.map 2 (encM (fun k : List UInt8 => .str k) (fun v : Int => .int .i64 v) p1))] F) ho ⟨([] : List S_api_Member), (0 : Int), rfl, none, H.less _ (fun fr => by kernel_rfl), A⟩ ?_
    clear ho hm H A
    intro s q fr h1 hI hm
    obtain ⟨x1, x2, rfl, r1, H, A⟩ := hI
    unfold M_delta_kept_L0 at hm
    refine aw_seq (by kernel_rfl) ?_
    refine aw_reg (id := 3) (n := 1) [(0, [])] (by kernel_rfl) (by kernel_rfl) ?_
    refine at_seg [(0, [])] [(1, .map (some bp1)), (5, rowV r1 x1.length), (10, vs e_S_api_Member p0), (11, .int .i64 (p0.length : Int)), (12, .int .i64 x2), (13, .bool (decide (x2 < (p0.length : Int))))] H (noU_all rfl) (fun fr => by kernel_rfl) ?_
    intro fr H
    refine at_nil ?_
    show AW cfg 45 g (right (left (left (right (left (right (right (bodyC cfg.P 45)))))))) fr h1 _
    refine aw_seq (by kernel_rfl) ?_
    rcases iteB_some hm with ⟨hb, hm⟩ | ⟨hb, hm⟩
    · replace H := H.know 13 hb (by kernel_rfl)
      refine aw_true (x := .tmp 13) (by kernel_rfl) H (fun fr => by kernel_rfl) ?_
      refine aw_skip (by kernel_rfl) ?_
      show AW cfg 45 g (right (right (left (left (right (left (right (right (bodyC cfg.P 45))))))))) fr h1 _
      refine aw_seq (by kernel_rfl) ?_
      obtain ⟨o2, ho, hm⟩ := bind_some hm
      refine aw_mono (Q' := fun e fr' h' => (∃ (x4 : List S_api_Member), e = .normal ∧ x4 = o2 ∧ ∃ (r3 : Option Nat), Has fr' 40 [(1, .map (some bp1)), (5, rowV r3 x4.length), (10, vs e_S_api_Member p0), (11, .int .i64 (p0.length : Int)), (12, .int .i64 x2)] ∧ HH g h' [.lst r3 63 (lst e_S_api_Member x4), .obj bp1 (.map 2 (encM (fun k : List UInt8 => .str k) (fun v : Int => .int .i64 v) p1))] F) ∨ False) ?_ ?_
      · replace hm := ho
        clear ho
        refine aw_block (id := 1) (by kernel_rfl) ?_
        refine aw_seq (by kernel_rfl) ?_
        refine aw_reg (id := 4) (n := 6) [(0, []), (1, []), (2, []), (3, []), (4, []), (5, [])] (by kernel_rfl) (by kernel_rfl) ?_
        refine at_seg [(0, [])] [(1, .map (some bp1)), (5, rowV r1 x1.length), (10, vs e_S_api_Member p0), (11, .int .i64 (p0.length : Int)), (12, .int .i64 x2), (14, .int .i64 x2)] H (noU_all rfl) (fun fr => by kernel_rfl) ?_
        intro fr H
        obtain ⟨x5, hx, hm⟩ := bind_some hm
        refine at_step (v := .vptr [.str x5.Name, .str x5.Link, .int .u8 x5.Kind, .int .i64 x5.Mode, .int .i64 x5.Uid, .int .i64 x5.Gid, .str x5.Uname, .str x5.Gname, .int .i64 x5.Major, .int .i64 x5.Minor, .int .i64 x5.Time.Sec, .int .i64 x5.Time.Nsec, vs e_S_api_Pair x5.Extra, .str x5.Data]) (h1 := h1) [(1, .map (some bp1)), (5, rowV r1 x1.length), (10, vs e_S_api_Member p0), (11, .int .i64 (p0.length : Int)), (12, .int .i64 x2), (14, .int .i64 x2), (15, .vptr [.str x5.Name, .str x5.Link, .int .u8 x5.Kind, .int .i64 x5.Mode, .int .i64 x5.Uid, .int .i64 x5.Gid, .str x5.Uname, .str x5.Gname, .int .i64 x5.Major, .int .i64 x5.Minor, .int .i64 x5.Time.Sec, .int .i64 x5.Time.Nsec, vs e_S_api_Pair x5.Extra, .str x5.Data])] H (fun fr => by kernel_rfl) (fun fr => .of (s_ixV (e := e_S_api_Member) (x := x5) enc_S_api_Member (by decide) (by kernel_rfl) hx)) ?_
        intro fr t H
        refine at_step (v := .agg (e_S_api_Member x5)) (h1 := h1) [(1, .map (some bp1)), (5, rowV r1 x1.length), (10, vs e_S_api_Member p0), (11, .int .i64 (p0.length : Int)), (12, .int .i64 x2), (14, .int .i64 x2), (16, .agg (e_S_api_Member x5))] H (fun fr => by kernel_rfl) (fun fr => .of (s_lv (by kernel_rfl))) ?_
        intro fr t H
        obtain ⟨h2, e1⟩ : ∃ x, x = h1.push (.cells none 2 [.str ([] : List UInt8), .str ([] : List UInt8), .int .u8 (0 : Int), .int .i64 (0 : Int), .int .i64 (0 : Int), .int .i64 (0 : Int), .str ([] : List UInt8), .str ([] : List UInt8), .int .i64 (0 : Int), .int .i64 (0 : Int), .int .i64 (0 : Int), .int .i64 (0 : Int), .slice none 0, .str ([] : List UInt8)]) := ⟨_, rfl⟩
        replace A := (A.push _).to e1
        refine at_step (v := .ptr (some (h1.size, 0))) (h1 := h2) [(1, .map (some bp1)), (5, rowV r1 x1.length), (7, .ptr (some (h1.size, 0))), (10, vs e_S_api_Member p0), (11, .int .i64 (p0.length : Int)), (12, .int .i64 x2), (14, .int .i64 x2), (16, .agg (e_S_api_Member x5))] H (fun fr => by kernel_rfl) (fun fr => .of (s_n' (by kernel_rfl) (congrArg some e1.symm))) ?_
        intro fr t H
        refine at_seg [(4, [])] [(1, .map (some bp1)), (5, rowV r1 x1.length), (6, .int .i64 x2), (7, .ptr (some (h1.size, 0))), (10, vs e_S_api_Member p0), (11, .int .i64 (p0.length : Int)), (12, .int .i64 x2), (16, .agg (e_S_api_Member x5))] H (noU_all rfl) (fun fr => by kernel_rfl) ?_
        intro fr H
        obtain ⟨h3, hx, A1⟩ := A.st 0 rfl (o := 0) (new := [.str x5.Name, .str x5.Link, .int .u8 x5.Kind, .int .i64 x5.Mode, .int .i64 x5.Uid, .int .i64 x5.Gid, .str x5.Uname, .str x5.Gname, .int .i64 x5.Major, .int .i64 x5.Minor, .int .i64 x5.Time.Sec, .int .i64 x5.Time.Nsec, vs e_S_api_Pair x5.Extra, .str x5.Data]) (ds := [.str x5.Name, .str x5.Link, .int .u8 x5.Kind, .int .i64 x5.Mode, .int .i64 x5.Uid, .int .i64 x5.Gid, .str x5.Uname, .str x5.Gname, .int .i64 x5.Major, .int .i64 x5.Minor, .int .i64 x5.Time.Sec, .int .i64 x5.Time.Nsec, vs e_S_api_Pair x5.Extra, .str x5.Data]) (Nat.le_of_ble_eq_true rfl) rfl rfl
        replace A : HH g h3 [.obj h1.size (.cells none 2 (e_S_api_Member x5)), .lst r1 63 (lst e_S_api_Member x1), .obj bp1 (.map 2 (encM (fun k : List UInt8 => .str k) (fun v : Int => .int .i64 v) p1))] F := A1
        refine at_step (v := .tuple []) (h1 := h3) [(1, .map (some bp1)), (5, rowV r1 x1.length), (6, .int .i64 x2), (7, .ptr (some (h1.size, 0))), (10, vs e_S_api_Member p0), (11, .int .i64 (p0.length : Int)), (12, .int .i64 x2)] H (fun fr => by kernel_rfl) (fun fr => .of (s_stG (by kernel_rfl) (stG_st hx rfl))) ?_
        intro fr t H
        refine at_nil ?_
        show AW cfg 45 g (right (left (left (right (right (left (left (right (left (right (right (bodyC cfg.P 45)))))))))))) fr h3 _
        refine aw_seq (by kernel_rfl) ?_
        refine aw_reg (id := 5) (n := 9) [(0, []), (1, []), (2, []), (3, []), (4, []), (5, []), (6, []), (7, []), (8, [])] (by kernel_rfl) (by kernel_rfl) ?_
        refine at_seg [(0, []), (1, [])] [(1, .map (some bp1)), (5, rowV r1 x1.length), (6, .int .i64 x2), (7, .ptr (some (h1.size, 0))), (10, vs e_S_api_Member p0), (11, .int .i64 (p0.length : Int)), (12, .int .i64 x2), (18, .map (some bp1)), (19, .ptr (some (h1.size, 0)))] H (noU_all rfl) (fun fr => by kernel_rfl) ?_
        intro fr H
        refine at_step (v := .str x5.Name) (h1 := h3) [(1, .map (some bp1)), (5, rowV r1 x1.length), (6, .int .i64 x2), (7, .ptr (some (h1.size, 0))), (10, vs e_S_api_Member p0), (11, .int .i64 (p0.length : Int)), (12, .int .i64 x2), (18, .map (some bp1)), (20, .str x5.Name)] H (fun fr => by kernel_rfl) (fun fr => .of (s_ld (by kernel_rfl) (A.ld1 0 rfl (o := 0) rfl))) ?_
        intro fr t H
        refine at_step (v := .tuple [.int .i64 ((mfind p1 x5.Name).getD (0 : Int)), .bool ((mfind p1 x5.Name).isSome)]) (h1 := h3) [(1, .map (some bp1)), (5, rowV r1 x1.length), (6, .int .i64 x2), (7, .ptr (some (h1.size, 0))), (10, vs e_S_api_Member p0), (11, .int .i64 (p0.length : Int)), (12, .int .i64 x2), (21, .tuple [.int .i64 ((mfind p1 x5.Name).getD (0 : Int)), .bool ((mfind p1 x5.Name).isSome)])] H (fun fr => by kernel_rfl) (fun fr => .of (s_lkT (by kernel_rfl) (HH.mlook (kt := 9) (et := 3) (ek := fun k : List UInt8 => .str k) (ev := fun v : Int => .int .i64 v) (keyS (by kernel_rfl)) A 2 rfl (t := 68) (by kernel_rfl) (z := (0 : Int)) (by kernel_rfl) x5.Name))) ?_
        intro fr t H
        refine at_seg [(4, []), (5, []), (6, []), (7, []), (8, [])] [(1, .map (some bp1)), (5, rowV r1 x1.length), (6, .int .i64 x2), (7, .ptr (some (h1.size, 0))), (8, .int .i64 ((mfind p1 x5.Name).getD (0 : Int))), (9, .bool ((mfind p1 x5.Name).isSome)), (10, vs e_S_api_Member p0), (11, .int .i64 (p0.length : Int)), (12, .int .i64 x2)] H (noU_all rfl) (fun fr => by kernel_rfl) ?_
        intro fr H
        refine at_nil ?_
        show AW cfg 45 g (right (right (left (left (right (right (left (left (right (left (right (right (bodyC cfg.P 45))))))))))))) fr h3 _
        refine aw_seq (by kernel_rfl) ?_
        refine aw_reg (id := 6) (n := 6) [(0, []), (1, []), (2, []), (3, []), (4, []), (5, [])] (by kernel_rfl) (by kernel_rfl) ?_
        refine at_seg [(0, []), (1, [])] [(1, .map (some bp1)), (5, rowV r1 x1.length), (6, .int .i64 x2), (7, .ptr (some (h1.size, 0))), (8, .int .i64 ((mfind p1 x5.Name).getD (0 : Int))), (10, vs e_S_api_Member p0), (11, .int .i64 (p0.length : Int)), (12, .int .i64 x2), (25, .bool ((mfind p1 x5.Name).isSome))] H (noU_all rfl) (fun fr => by kernel_rfl) ?_
        intro fr H
        refine at_cut [(2, []), (3, []), (4, []), (5, [])] (fun fr' h' => h3 = h' ∧ Has fr' 40 [(1, .map (some bp1)), (5, rowV r1 x1.length), (7, .ptr (some (h1.size, 0))), (10, vs e_S_api_Member p0), (11, .int .i64 (p0.length : Int)), (12, .int .i64 x2), (29, .bool (((mfind p1 x5.Name).isSome) && (((mfind p1 x5.Name).getD (0 : Int)) == x2)))]) ?_ ?_
        · cases hb : ((mfind p1 x5.Name).isSome : Bool) with
          | true =>
            replace H := H.know 25 hb (by kernel_rfl)
            refine at_seg [(2, []), (3, []), (4, []), (5, [])] [(1, .map (some bp1)), (5, rowV r1 x1.length), (7, .ptr (some (h1.size, 0))), (10, vs e_S_api_Member p0), (11, .int .i64 (p0.length : Int)), (12, .int .i64 x2), (29, .bool (((mfind p1 x5.Name).getD (0 : Int)) == x2))] H (noU_all rfl) (fun fr => by kernel_rfl) ?_
            intro fr H
            exact at_nil ⟨rfl, by first | exact H.less _ (fun fr => by rfl) | exact H.less _ (fun fr => by rw [hb]; rfl)⟩
          | false =>
            replace H := H.know 25 hb (by kernel_rfl)
            refine at_seg [(2, []), (3, []), (4, []), (5, [])] [(1, .map (some bp1)), (5, rowV r1 x1.length), (7, .ptr (some (h1.size, 0))), (10, vs e_S_api_Member p0), (11, .int .i64 (p0.length : Int)), (12, .int .i64 x2), (29, .bool false)] H (noU_all rfl) (fun fr => by kernel_rfl) ?_
            intro fr H
            exact at_nil ⟨rfl, by first | exact H.less _ (fun fr => by rfl) | exact H.less _ (fun fr => by rw [hb]; rfl)⟩
        · intro t fr h' hK
          obtain ⟨e, H⟩ := hK
          subst e
          refine at_nil ?_
          show AW cfg 45 g (right (right (right (left (left (right (right (left (left (right (left (right (right (bodyC cfg.P 45)))))))))))))) fr h3 _
          rcases iteB_some hm with ⟨hb, hm⟩ | ⟨hb, hm⟩
          · replace H := H.know 29 hb (by kernel_rfl)
            refine aw_true (x := .tmp 29) (by kernel_rfl) H (fun fr => by kernel_rfl) ?_
            refine aw_seq (by kernel_rfl) ?_
            refine aw_reg (id := 7) (n := 5) [(0, []), (1, []), (2, []), (3, []), (4, [])] (by kernel_rfl) (by kernel_rfl) ?_
            refine at_seg [(0, [])] [(1, .map (some bp1)), (5, rowV r1 x1.length), (7, .ptr (some (h1.size, 0))), (10, vs e_S_api_Member p0), (11, .int .i64 (p0.length : Int)), (12, .int .i64 x2), (30, .ptr (some (h1.size, 12)))] H (noU_all rfl) (fun fr => by kernel_rfl) ?_
            intro fr H
            refine at_step (v := vs e_S_api_Pair x5.Extra) (h1 := h3) [(1, .map (some bp1)), (5, rowV r1 x1.length), (7, .ptr (some (h1.size, 0))), (10, vs e_S_api_Member p0), (11, .int .i64 (p0.length : Int)), (12, .int .i64 x2), (31, vs e_S_api_Pair x5.Extra)] H (fun fr => by kernel_rfl) (fun fr => .of (s_ld (by kernel_rfl) (A.ld1 0 rfl (o := 12) rfl))) ?_
            intro fr t H
            have A1 := A.cut 0
            obtain ⟨hb, hm⟩ := need_some hm
            refine at_step (v := vs e_S_api_Pair x5.Extra) (h1 := h3) [(1, .map (some bp1)), (5, rowV r1 x1.length), (7, .ptr (some (h1.size, 0))), (10, vs e_S_api_Member p0), (11, .int .i64 (p0.length : Int)), (12, .int .i64 x2), (32, vs e_S_api_Pair x5.Extra)] H (fun fr => by kernel_rfl) (fun fr => Steps.call (by kernel_rfl) (runsCloneF (C := cfg) (f := 67) (a := 0) (t := 88) (xs := x5.Extra) enc_S_api_Pair (by decide) (by kernel_rfl) (l := exts) rfl (by kernel_rfl) (by kernel_rfl) rfl (firstV enc_S_api_Pair _ x5.Extra) (enc_S_api_Pair.canL _) hb)) ?_
            intro fr t H
            refine at_seg [(3, [])] [(1, .map (some bp1)), (5, rowV r1 x1.length), (7, .ptr (some (h1.size, 0))), (10, vs e_S_api_Member p0), (11, .int .i64 (p0.length : Int)), (12, .int .i64 x2), (32, vs e_S_api_Pair x5.Extra), (33, .ptr (some (h1.size, 12)))] H (noU_all rfl) (fun fr => by kernel_rfl) ?_
            intro fr H
            obtain ⟨h5, hx, A1⟩ := A.st 0 rfl (o := 12) (new := [vs e_S_api_Pair x5.Extra]) (ds := [.str x5.Name, .str x5.Link, .int .u8 x5.Kind, .int .i64 x5.Mode, .int .i64 x5.Uid, .int .i64 x5.Gid, .str x5.Uname, .str x5.Gname, .int .i64 x5.Major, .int .i64 x5.Minor, .int .i64 x5.Time.Sec, .int .i64 x5.Time.Nsec, vs e_S_api_Pair x5.Extra, .str x5.Data]) (Nat.le_of_ble_eq_true rfl) rfl rfl
            replace A : HH g h5 [.obj h1.size (.cells none 2 (e_S_api_Member x5)), .lst r1 63 (lst e_S_api_Member x1), .obj bp1 (.map 2 (encM (fun k : List UInt8 => .str k) (fun v : Int => .int .i64 v) p1))] F := A1
            refine at_step (v := .tuple []) (h1 := h5) [(1, .map (some bp1)), (5, rowV r1 x1.length), (7, .ptr (some (h1.size, 0))), (10, vs e_S_api_Member p0), (11, .int .i64 (p0.length : Int)), (12, .int .i64 x2)] H (fun fr => by kernel_rfl) (fun fr => .of (s_st (by kernel_rfl) rfl hx)) ?_
            intro fr t H
            refine at_nil ?_
            show AW cfg 45 g (right (left (right (right (right (left (left (right (right (left (left (right (left (right (right (bodyC cfg.P 45)))))))))))))))) fr h5 _
            refine aw_reg (id := 8) (n := 5) [(0, []), (1, []), (2, []), (3, []), (4, [])] (by kernel_rfl) (by kernel_rfl) ?_
            refine at_seg [(0, [])] [(1, .map (some bp1)), (7, .ptr (some (h1.size, 0))), (10, vs e_S_api_Member p0), (11, .int .i64 (p0.length : Int)), (12, .int .i64 x2), (34, rowV r1 x1.length)] H (noU_all rfl) (fun fr => by kernel_rfl) ?_
            intro fr H
            refine at_step (v := .agg (e_S_api_Member x5)) (h1 := h5) [(1, .map (some bp1)), (10, vs e_S_api_Member p0), (11, .int .i64 (p0.length : Int)), (12, .int .i64 x2), (34, rowV r1 x1.length), (35, .agg (e_S_api_Member x5))] H (fun fr => by kernel_rfl) (fun fr => .of (s_ldA (by kernel_rfl) (A.ldA 0 rfl (o := 0) (n := 14) ⟨Nat.le_of_ble_eq_true rfl, rfl⟩))) ?_
            intro fr t H
            obtain ⟨h6, e2⟩ : ∃ x, x = h5.push (.cells (some 63) 2 [.str x5.Name, .str x5.Link, .int .u8 x5.Kind, .int .i64 x5.Mode, .int .i64 x5.Uid, .int .i64 x5.Gid, .str x5.Uname, .str x5.Gname, .int .i64 x5.Major, .int .i64 x5.Minor, .int .i64 x5.Time.Sec, .int .i64 x5.Time.Nsec, vs e_S_api_Pair x5.Extra, .str x5.Data]) := ⟨_, rfl⟩
            replace A := (A.pushL _ _).to e2
            refine at_step (v := rowV (some h5.size) (([x5] : List S_api_Member).length)) (h1 := h6) [(1, .map (some bp1)), (10, vs e_S_api_Member p0), (11, .int .i64 (p0.length : Int)), (12, .int .i64 x2), (34, rowV r1 x1.length), (36, rowV (some h5.size) (([x5] : List S_api_Member).length))] H (fun fr => by kernel_rfl) (fun fr => .of (s_n' (by kernel_rfl) (congrArg some e2.symm))) ?_
            intro fr t H
            obtain ⟨hb, hm⟩ := need_some hm
            obtain ⟨r5, h7, hx, A1⟩ := HH.appO enc_S_api_Member (by decide) A 2 (xs := x1) (ys := ([x5] : List S_api_Member)) rfl (row_first A 0 rfl (n := ([x5] : List S_api_Member).length) (z := 14) rfl (by decide)) rfl rfl hb
            replace A : HH g h7 [.lst (some h5.size) 63 ([.str x5.Name, .str x5.Link, .int .u8 x5.Kind, .int .i64 x5.Mode, .int .i64 x5.Uid, .int .i64 x5.Gid, .str x5.Uname, .str x5.Gname, .int .i64 x5.Major, .int .i64 x5.Minor, .int .i64 x5.Time.Sec, .int .i64 x5.Time.Nsec, vs e_S_api_Pair x5.Extra, .str x5.Data]), .obj h1.size (.cells none 2 (e_S_api_Member x5)), .lst r5 63 (lst e_S_api_Member (x1 ++ ([x5] : List S_api_Member))), .obj bp1 (.map 2 (encM (fun k : List UInt8 => .str k) (fun v : Int => .int .i64 v) p1))] F := A1
            replace A : HH g h7 [.obj h1.size (.cells none 2 (e_S_api_Member x5)), .lst r5 63 (lst e_S_api_Member (x1 ++ ([x5] : List S_api_Member))), .obj bp1 (.map 2 (encM (fun k : List UInt8 => .str k) (fun v : Int => .int .i64 v) p1))] F := (HH.dropF (((A.front 3 rfl).front 3 rfl).front 3 rfl) 3)
            refine at_step (v := rowV r5 ((x1 ++ ([x5] : List S_api_Member)).length)) (h1 := h7) [(1, .map (some bp1)), (10, vs e_S_api_Member p0), (11, .int .i64 (p0.length : Int)), (12, .int .i64 x2), (37, rowV r5 ((x1 ++ ([x5] : List S_api_Member)).length))] H (fun fr => by kernel_rfl) (fun fr => .of (s_app (s := rowS r1 x1.length) (by kernel_rfl) hx)) ?_
            intro fr t H
            refine at_seg [(4, [])] [(1, .map (some bp1)), (5, rowV r5 ((x1 ++ ([x5] : List S_api_Member)).length)), (10, vs e_S_api_Member p0), (11, .int .i64 (p0.length : Int)), (12, .int .i64 x2)] H (noU_all rfl) (fun fr => by kernel_rfl) ?_
            intro fr H
            refine at_nil ?_
            replace A : HH g h7 [.lst r5 63 (lst e_S_api_Member (x1 ++ ([x5] : List S_api_Member))), .obj bp1 (.map 2 (encM (fun k : List UInt8 => .str k) (fun v : Int => .int .i64 v) p1))] F := (HH.dropF ((A.front 2 rfl).front 2 rfl) 2)
            exact Or.inl ⟨(x1 ++ ([x5] : List S_api_Member)), rfl, Option.some.inj hm, r5, H.less _ (fun fr => by kernel_rfl), A⟩
          · replace H := H.know 29 hb (by kernel_rfl)
            refine aw_false (x := .tmp 29) (by kernel_rfl) H (fun fr => by kernel_rfl) ?_
            refine aw_skip (by kernel_rfl) ?_
            replace A : HH g h3 [.lst r1 63 (lst e_S_api_Member x1), .obj bp1 (.map 2 (encM (fun k : List UInt8 => .str k) (fun v : Int => .int .i64 v) p1))] F := (HH.dropF ((A.front 2 rfl).front 2 rfl) 2)
            exact Or.inl ⟨x1, rfl, Option.some.inj hm, r1, H.less _ (fun fr => by kernel_rfl), A⟩
      · clear ho
        clear A
        intro e fr h8 hQ
        rcases hQ with ⟨x4, rfl, rfl, r3, H, A⟩ | hF
        · skip
          show AW cfg 45 g (right (right (right (left (left (right (left (right (right (bodyC cfg.P 45)))))))))) fr h8 _
          refine aw_reg (id := 9) (n := 2) [(0, []), (1, [])] (by kernel_rfl) (by kernel_rfl) ?_
          refine at_seg [(0, []), (1, [])] [(1, .map (some bp1)), (5, rowV r3 x4.length), (10, vs e_S_api_Member p0), (11, .int .i64 (p0.length : Int)), (12, .int .i64 (IntKind.i64.wrap (x2 + (1 : Int))))] H (noU_all rfl) (fun fr => by kernel_rfl) ?_
          intro fr H
          refine at_nil ?_
          exact Exists.intro (x4, IntKind.i64.wrap (x2 + (1 : Int))) (And.intro (Option.some.inj hm).symm ⟨x4, IntKind.i64.wrap (x2 + (1 : Int)), rfl, r3, H.less _ (fun fr => by kernel_rfl), A⟩)
        · exact hF.elim
    · replace H := H.know 13 hb (by kernel_rfl)
      refine aw_false (x := .tmp 13) (by kernel_rfl) H (fun fr => by kernel_rfl) ?_
      refine aw_exit (i := 0) (by kernel_rfl) ?_
      exact Exists.intro _ (And.intro (Option.some.inj hm).symm (fun e => Or.inl ⟨x1, rfl, e, r1, H.less _ (fun fr => by kernel_rfl), A⟩))
  · clear ho
    clear A
    intro e fr h9 hQ
    rcases hQ with ⟨x3, rfl, rfl, r2, H, A⟩ | hF
    · skip
      show AW cfg 45 g (right (right (right (bodyC cfg.P 45)))) fr h9 _
      refine aw_seq (by kernel_rfl) ?_
      refine aw_reg (id := 10) (n := 2) [(0, []), (1, [])] (by kernel_rfl) (by kernel_rfl) ?_
      refine at_seg [(0, []), (1, [])] [(4, rowV r2 x3.length)] H (noU_all rfl) (fun fr => by kernel_rfl) ?_
      intro fr H
      refine at_nil ?_
      show AW cfg 45 g (right (right (right (right (bodyC cfg.P 45))))) fr h9 _
      refine aw_ret (by kernel_rfl) ?_
      have e1 := Option.some.inj hm
      subst e1
      refine ⟨.inl rfl, rowV r2 x3.length, resH H (fun fr => by kernel_rfl), ?_⟩
      exact ⟨r2, rfl, A⟩
    · exact hF.elim
/-! ### boulter/delta.Last -/
noncomputable def M_delta_Last (p0 : List S_api_Member) : Option ((List S_api_Member)) :=
 (M_delta_places p0).bind fun x1 => (M_delta_kept p0 x1).bind fun x2 => some x2
theorem ok_delta_Last {g : Gd} {h : AHeap} {F : List Ck} {p0 : List S_api_Member} {q0 : List S_api_Member} {av : List AVal} (hm : M_delta_Last p0 = some q0) (hc : canL (cfg.still 23) av = [vs e_S_api_Member p0]) (A : HH g h [] F) : ∃ v h', Runs cfg g h 23 av v h' ∧ ∃ (rq0 : Option Nat), v = rowV rq0 q0.length ∧ HH g h' [.lst rq0 63 (lst e_S_api_Member q0)] F := by
  refine runsQ1 (n := 7) (rs := [.tmp 2]) (by kernel_rfl) hc (by kernel_rfl) ?_
  clear hc
  unfold M_delta_Last at hm
  refine start (n := 7) [(0, vs e_S_api_Member p0)] (by kernel_rfl) (by kernel_rfl) ?_
  intro fr H
  refine aw_seq (by kernel_rfl) ?_
  refine aw_reg (id := 0) (n := 1) [(0, [])] (by kernel_rfl) (by kernel_rfl) ?_
  refine at_seg [(0, [])] [(0, vs e_S_api_Member p0)] H (noU_all rfl) (fun fr => by kernel_rfl) ?_
  intro fr H
  refine at_nil ?_
  show AW cfg 23 g (right (bodyC cfg.P 23)) fr h _
  refine aw_seq (by kernel_rfl) ?_
  refine aw_reg (id := 1) (n := 5) [(0, []), (1, []), (2, []), (3, []), (4, [])] (by kernel_rfl) (by kernel_rfl) ?_
  refine at_seg [(0, []), (1, [])] [(3, vs e_S_api_Member p0), (4, vs e_S_api_Member p0)] H (noU_all rfl) (fun fr => by kernel_rfl) ?_
  intro fr H
  have A1 := A.cut 0
  obtain ⟨x1, hx, hm⟩ := bind_some hm
  obtain ⟨v1, h1, hr, bqw1, rfl, A1⟩ := ok_delta_places (av := [vs e_S_api_Member p0]) hx (by kernel_rfl) A1
  replace A : HH g h1 [.obj bqw1 (.map 2 (encM (fun k : List UInt8 => .str k) (fun v : Int => .int .i64 v) x1))] F := A.glue0 (n := 0) A1
  refine at_step (v := .map (some bqw1)) (h1 := h1) [(3, vs e_S_api_Member p0), (5, .map (some bqw1))] H (fun fr => by kernel_rfl) (fun fr => Steps.call (by kernel_rfl) hr) ?_
  intro fr t H
  have A1 := A.cut 1
  obtain ⟨x2, hx, hm⟩ := bind_some hm
  obtain ⟨v1, h2, hr, rqw2, rfl, A1⟩ := ok_delta_kept (av := [vs e_S_api_Member p0, .map (some bqw1)]) hx (by kernel_rfl) A1
  replace A : HH g h2 [.lst rqw2 63 (lst e_S_api_Member x2), .obj bqw1 (.map 2 (encM (fun k : List UInt8 => .str k) (fun v : Int => .int .i64 v) x1))] F := A.glue0 (n := 1) A1
  refine at_step (v := rowV rqw2 x2.length) (h1 := h2) [(6, rowV rqw2 x2.length)] H (fun fr => by kernel_rfl) (fun fr => Steps.call (by kernel_rfl) hr) ?_
  intro fr t H
  refine at_seg [(4, [])] [(2, rowV rqw2 x2.length)] H (noU_all rfl) (fun fr => by kernel_rfl) ?_
  intro fr H
  refine at_nil ?_
  show AW cfg 23 g (right (right (bodyC cfg.P 23))) fr h2 _
  refine aw_ret (by kernel_rfl) ?_
  have e1 := Option.some.inj hm
  subst e1
  refine ⟨.inl rfl, rowV rqw2 x2.length, resH H (fun fr => by kernel_rfl), ?_⟩
  replace A : HH g h2 [.lst rqw2 63 (lst e_S_api_Member x2)] F := (HH.dropF (A.front 0 rfl) 1)
  exact ⟨rqw2, rfl, A⟩
/-! ### boulter/boulterref12.Find -/
noncomputable def M_boulterref12_Find_L0 (p0 : List S_api_Member) (p1 : List UInt8) (s : Int × Int) : Option ((Int × Int) ⊕ ((Int))) :=
  match s with
  | (x1, x2) => iteB (decide (x2 < (p0.length : Int))) (((ixV p0 x2).bind fun x5 => iteB (x5.Name == p1) (some x2) (some x1) : Option ((Int))).bind fun x4 => some (.inl (x4, IntKind.i64.wrap (x2 + (1 : Int))))) (some (.inr x1))
noncomputable def M_boulterref12_Find (p0 : List S_api_Member) (p1 : List UInt8) : Option (Int) :=
 (loop (M_boulterref12_Find_L0 p0 p1) ((-1 : Int), (0 : Int))).bind fun x3 => some x3
theorem ok_boulterref12_Find {g : Gd} {h : AHeap} {F : List Ck} {p0 : List S_api_Member} {p1 : List UInt8} {q0 : Int} {av : List AVal} (hm : M_boulterref12_Find p0 p1 = some q0) (hc : canL (cfg.still 53) av = [vs e_S_api_Member p0, .str p1]) (A : HH g h [] F) : ∃ v h', Runs cfg g h 53 av v h' ∧ v = .int .i64 q0 ∧ HH g h' [] F := by
  refine runsQ1 (n := 22) (rs := [.tmp 4]) (by kernel_rfl) hc (by kernel_rfl) ?_
  clear hc
  unfold M_boulterref12_Find at hm
  refine start (n := 22) [(0, vs e_S_api_Member p0), (1, .str p1)] (by kernel_rfl) (by kernel_rfl) ?_
  intro fr H
  refine aw_seq (by kernel_rfl) ?_
  refine aw_reg (id := 0) (n := 1) [(0, [])] (by kernel_rfl) (by kernel_rfl) ?_
  refine at_seg [(0, [])] [(0, vs e_S_api_Member p0), (1, .str p1)] H (noU_all rfl) (fun fr => by kernel_rfl) ?_
  intro fr H
  refine at_nil ?_
  show AW cfg 53 g (right (bodyC cfg.P 53)) fr h _
  refine aw_seq (by kernel_rfl) ?_
  refine aw_reg (id := 1) (n := 1) [(0, [])] (by kernel_rfl) (by kernel_rfl) ?_
  refine at_seg [(0, [])] [(0, vs e_S_api_Member p0), (1, .str p1), (5, .int .i64 (-1 : Int))] H (noU_all rfl) (fun fr => by kernel_rfl) ?_
  intro fr H
  refine at_nil ?_
  show AW cfg 53 g (right (right (bodyC cfg.P 53))) fr h _
  refine aw_seq (by kernel_rfl) ?_
  refine aw_seq (by kernel_rfl) ?_
  refine aw_reg (id := 2) (n := 1) [(0, [])] (by kernel_rfl) (by kernel_rfl) ?_
  refine at_seg [(0, [])] [(0, vs e_S_api_Member p0), (1, .str p1), (5, .int .i64 (-1 : Int)), (6, .int .i64 (0 : Int))] H (noU_all rfl) (fun fr => by kernel_rfl) ?_
  intro fr H
  refine at_nil ?_
  show AW cfg 53 g (right (left (right (right (bodyC cfg.P 53))))) fr h _
  refine aw_block (id := 0) (by kernel_rfl) ?_
  obtain ⟨o1, ho, hm⟩ := bind_some hm
  refine aw_mono (Q' := fun e fr' h' => (∃ (x3 : Int), e = .exit 0 ∧ x3 = o1 ∧ Has fr' 22 [(5, .int .i64 x3)] ∧ HH g h' [] F) ∨ False) ?_ ?_
  · refine aw_loop (by kernel_rfl) (fun (s : Int × Int) fr' h' => ∃ (x1 : Int) (x2 : Int), (x1, x2) = s ∧ Has fr' 22 [(0, vs e_S_api_Member p0), (1, .str p1), (5, .int .i64 x1), (6, .int .i64 x2)] ∧ HH g h' [] F) ho ⟨(-1 : Int), (0 : Int), rfl, H.less _ (fun fr => by kernel_rfl), A⟩ ?_
    clear ho hm H A
    intro s q fr h1 hI hm
    obtain ⟨x1, x2, rfl, H, A⟩ := hI
    unfold M_boulterref12_Find_L0 at hm
    refine aw_seq (by kernel_rfl) ?_
    refine aw_seq (by kernel_rfl) ?_
    refine aw_reg (id := 3) (n := 4) [(0, []), (1, []), (2, []), (3, [])] (by kernel_rfl) (by kernel_rfl) ?_
    refine at_seg [(0, []), (1, []), (2, []), (3, [])] [(0, vs e_S_api_Member p0), (1, .str p1), (5, .int .i64 x1), (6, .int .i64 x2), (10, .bool (decide (x2 < (p0.length : Int))))] H (noU_all rfl) (fun fr => by kernel_rfl) ?_
    intro fr H
    refine at_nil ?_
    show AW cfg 53 g (right (left (left (left (right (left (right (right (bodyC cfg.P 53))))))))) fr h1 _
    rcases iteB_some hm with ⟨hb, hm⟩ | ⟨hb, hm⟩
    · replace H := H.know 10 hb (by kernel_rfl)
      refine aw_true (x := .tmp 10) (by kernel_rfl) H (fun fr => by kernel_rfl) ?_
      refine aw_skip (by kernel_rfl) ?_
      show AW cfg 53 g (right (left (left (right (left (right (right (bodyC cfg.P 53)))))))) fr h1 _
      refine aw_seq (by kernel_rfl) ?_
      obtain ⟨o2, ho, hm⟩ := bind_some hm
      refine aw_mono (Q' := fun e fr' h' => (∃ (x4 : Int), e = .normal ∧ x4 = o2 ∧ Has fr' 22 [(0, vs e_S_api_Member p0), (1, .str p1), (5, .int .i64 x4), (6, .int .i64 x2)] ∧ HH g h' [] F) ∨ False) ?_ ?_
      · replace hm := ho
        clear ho
        refine aw_block (id := 1) (by kernel_rfl) ?_
        refine aw_seq (by kernel_rfl) ?_
        refine aw_reg (id := 5) (n := 7) [(0, []), (1, []), (2, []), (3, []), (4, []), (5, []), (6, [])] (by kernel_rfl) (by kernel_rfl) ?_
        refine at_seg [(0, []), (1, [])] [(0, vs e_S_api_Member p0), (1, .str p1), (5, .int .i64 x1), (6, .int .i64 x2), (13, vs e_S_api_Member p0), (14, .int .i64 x2)] H (noU_all rfl) (fun fr => by kernel_rfl) ?_
        intro fr H
        obtain ⟨x5, hx, hm⟩ := bind_some hm
        refine at_step (v := .vptr [.str x5.Name, .str x5.Link, .int .u8 x5.Kind, .int .i64 x5.Mode, .int .i64 x5.Uid, .int .i64 x5.Gid, .str x5.Uname, .str x5.Gname, .int .i64 x5.Major, .int .i64 x5.Minor, .int .i64 x5.Time.Sec, .int .i64 x5.Time.Nsec, vs e_S_api_Pair x5.Extra, .str x5.Data]) (h1 := h1) [(0, vs e_S_api_Member p0), (1, .str p1), (5, .int .i64 x1), (6, .int .i64 x2), (15, .vptr [.str x5.Name, .str x5.Link, .int .u8 x5.Kind, .int .i64 x5.Mode, .int .i64 x5.Uid, .int .i64 x5.Gid, .str x5.Uname, .str x5.Gname, .int .i64 x5.Major, .int .i64 x5.Minor, .int .i64 x5.Time.Sec, .int .i64 x5.Time.Nsec, vs e_S_api_Pair x5.Extra, .str x5.Data])] H (fun fr => by kernel_rfl) (fun fr => .of (s_ixV (e := e_S_api_Member) (x := x5) enc_S_api_Member (by decide) (by kernel_rfl) hx)) ?_
        intro fr t H
        refine at_seg [(3, [])] [(0, vs e_S_api_Member p0), (1, .str p1), (5, .int .i64 x1), (6, .int .i64 x2), (16, .vptr [.str x5.Name, .str x5.Link, .int .u8 x5.Kind, .int .i64 x5.Mode, .int .i64 x5.Uid, .int .i64 x5.Gid, .str x5.Uname, .str x5.Gname, .int .i64 x5.Major, .int .i64 x5.Minor, .int .i64 x5.Time.Sec, .int .i64 x5.Time.Nsec, vs e_S_api_Pair x5.Extra, .str x5.Data])] H (noU_all rfl) (fun fr => by kernel_rfl) ?_
        intro fr H
        refine at_step (v := .str x5.Name) (h1 := h1) [(0, vs e_S_api_Member p0), (1, .str p1), (5, .int .i64 x1), (6, .int .i64 x2), (17, .str x5.Name)] H (fun fr => by kernel_rfl) (fun fr => .of (s_lv (by kernel_rfl))) ?_
        intro fr t H
        refine at_seg [(5, []), (6, [])] [(0, vs e_S_api_Member p0), (1, .str p1), (5, .int .i64 x1), (6, .int .i64 x2), (19, .bool (x5.Name == p1))] H (noU_all rfl) (fun fr => by kernel_rfl) ?_
        intro fr H
        refine at_nil ?_
        show AW cfg 53 g (right (left (left (right (left (left (right (left (right (right (bodyC cfg.P 53))))))))))) fr h1 _
        rcases iteB_some hm with ⟨hb, hm⟩ | ⟨hb, hm⟩
        · replace H := H.know 19 hb (by kernel_rfl)
          refine aw_true (x := .tmp 19) (by kernel_rfl) H (fun fr => by kernel_rfl) ?_
          refine aw_reg (id := 6) (n := 2) [(0, []), (1, [])] (by kernel_rfl) (by kernel_rfl) ?_
          refine at_seg [(0, []), (1, [])] [(0, vs e_S_api_Member p0), (1, .str p1), (5, .int .i64 x2), (6, .int .i64 x2)] H (noU_all rfl) (fun fr => by kernel_rfl) ?_
          intro fr H
          refine at_nil ?_
          exact Or.inl ⟨x2, rfl, Option.some.inj hm, H.less _ (fun fr => by kernel_rfl), A⟩
        · replace H := H.know 19 hb (by kernel_rfl)
          refine aw_false (x := .tmp 19) (by kernel_rfl) H (fun fr => by kernel_rfl) ?_
          refine aw_skip (by kernel_rfl) ?_
          exact Or.inl ⟨x1, rfl, Option.some.inj hm, H.less _ (fun fr => by kernel_rfl), A⟩
      · clear ho
        clear A
        intro e fr h2 hQ
        rcases hQ with ⟨x4, rfl, rfl, H, A⟩ | hF
        · skip
          show AW cfg 53 g (right (right (left (left (right (left (right (right (bodyC cfg.P 53))))))))) fr h2 _
          refine aw_reg (id := 4) (n := 3) [(0, []), (1, []), (2, [])] (by kernel_rfl) (by kernel_rfl) ?_
          refine at_seg [(0, []), (1, []), (2, [])] [(0, vs e_S_api_Member p0), (1, .str p1), (5, .int .i64 x4), (6, .int .i64 (IntKind.i64.wrap (x2 + (1 : Int))))] H (noU_all rfl) (fun fr => by kernel_rfl) ?_
          intro fr H
          refine at_nil ?_
          exact Exists.intro (x4, IntKind.i64.wrap (x2 + (1 : Int))) (And.intro (Option.some.inj hm).symm ⟨x4, IntKind.i64.wrap (x2 + (1 : Int)), rfl, H.less _ (fun fr => by kernel_rfl), A⟩)
        · exact hF.elim
    · replace H := H.know 10 hb (by kernel_rfl)
      refine aw_false (x := .tmp 10) (by kernel_rfl) H (fun fr => by kernel_rfl) ?_
      refine aw_exit (i := 0) (by kernel_rfl) ?_
      exact Exists.intro _ (And.intro (Option.some.inj hm).symm (fun e => Or.inl ⟨x1, rfl, e, H.less _ (fun fr => by kernel_rfl), A⟩))
  · clear ho
    clear A
    intro e fr h3 hQ
    rcases hQ with ⟨x3, rfl, rfl, H, A⟩ | hF
    · skip
      show AW cfg 53 g (right (right (right (bodyC cfg.P 53)))) fr h3 _
      refine aw_seq (by kernel_rfl) ?_
      refine aw_reg (id := 7) (n := 2) [(0, []), (1, [])] (by kernel_rfl) (by kernel_rfl) ?_
      refine at_seg [(0, []), (1, [])] [(4, .int .i64 x3)] H (noU_all rfl) (fun fr => by kernel_rfl) ?_
      intro fr H
      refine at_nil ?_
      show AW cfg 53 g (right (right (right (right (bodyC cfg.P 53))))) fr h3 _
      refine aw_ret (by kernel_rfl) ?_
      have e1 := Option.some.inj hm
      subst e1
      refine ⟨.inl rfl, .int .i64 x3, resH H (fun fr => by kernel_rfl), ?_⟩
      exact ⟨rfl, A⟩
    · exact hF.elim
/-! ### boulter/boulterref38.Last -/
noncomputable def M_boulterref38_Last_L0 (p0 : List S_api_Member) (s : (List S_api_Member) × Int) : Option (((List S_api_Member) × Int) ⊕ (((List S_api_Member)))) :=
  match s with
  | (x1, x2) => iteB (decide (x2 < (p0.length : Int))) (((ixV p0 x2).bind fun x5 => (M_boulterref12_Find p0 x5.Name).bind fun x6 => iteB (x6 == x2) ((ixV p0 x2).bind fun x7 => need (okN 168 (x1.length + ([x7] : List S_api_Member).length)) <| some (x1 ++ ([x7] : List S_api_Member))) (some x1) : Option (((List S_api_Member)))).bind fun x4 => some (.inl (x4, IntKind.i64.wrap (x2 + (1 : Int))))) (some (.inr x1))
noncomputable def M_boulterref38_Last (p0 : List S_api_Member) : Option ((List S_api_Member)) :=
 (loop (M_boulterref38_Last_L0 p0) (([] : List S_api_Member), (0 : Int))).bind fun x3 => some x3
theorem ok_boulterref38_Last {g : Gd} {h : AHeap} {F : List Ck} {p0 : List S_api_Member} {q0 : List S_api_Member} {av : List AVal} (hm : M_boulterref38_Last p0 = some q0) (hc : canL (cfg.still 34) av = [vs e_S_api_Member p0]) (A : HH g h [] F) : ∃ v h', Runs cfg g h 34 av v h' ∧ ∃ (rq0 : Option Nat), v = rowV rq0 q0.length ∧ HH g h' [.lst rq0 63 (lst e_S_api_Member q0)] F := by
  refine runsQ1 (n := 29) (rs := [.tmp 2]) (by kernel_rfl) hc (by kernel_rfl) ?_
  clear hc
  unfold M_boulterref38_Last at hm
  refine start (n := 29) [(0, vs e_S_api_Member p0)] (by kernel_rfl) (by kernel_rfl) ?_
  intro fr H
  refine aw_seq (by kernel_rfl) ?_
  refine aw_reg (id := 0) (n := 1) [(0, [])] (by kernel_rfl) (by kernel_rfl) ?_
  refine at_seg [(0, [])] [(0, vs e_S_api_Member p0)] H (noU_all rfl) (fun fr => by kernel_rfl) ?_
  intro fr H
  refine at_nil ?_
  show AW cfg 34 g (right (bodyC cfg.P 34)) fr h _
  refine aw_seq (by kernel_rfl) ?_
  refine aw_reg (id := 1) (n := 2) [(0, []), (1, [])] (by kernel_rfl) (by kernel_rfl) ?_
  obtain ⟨h1, e1⟩ : ∃ x, x = h.push (.cells (some 63) 2 []) := ⟨_, rfl⟩
  replace A := (A.pushL _ _).to e1
  refine at_step (v := rowV (some h.size) (([] : List S_api_Member).length)) (h1 := h1) [(0, vs e_S_api_Member p0), (5, rowV (some h.size) (([] : List S_api_Member).length))] H (fun fr => by kernel_rfl) (fun fr => .of (s_n' (by kernel_rfl) (congrArg some e1.symm))) ?_
  intro fr t H
  refine at_seg [(1, [])] [(0, vs e_S_api_Member p0), (3, rowV (some h.size) (([] : List S_api_Member).length))] H (noU_all rfl) (fun fr => by kernel_rfl) ?_
  intro fr H
  refine at_nil ?_
  show AW cfg 34 g (right (right (bodyC cfg.P 34))) fr h1 _
  refine aw_seq (by kernel_rfl) ?_
  refine aw_seq (by kernel_rfl) ?_
  refine aw_reg (id := 2) (n := 1) [(0, [])] (by kernel_rfl) (by kernel_rfl) ?_
  refine at_seg [(0, [])] [(0, vs e_S_api_Member p0), (3, rowV (some h.size) (([] : List S_api_Member).length)), (4, .int .i64 (0 : Int))] H (noU_all rfl) (fun fr => by kernel_rfl) ?_
  intro fr H
  refine at_nil ?_
  show AW cfg 34 g (right (left (right (right (bodyC cfg.P 34))))) fr h1 _
  refine aw_block (id := 0) (by kernel_rfl) ?_
  replace A : HH g h1 [.lst (some h.size) 63 (lst e_S_api_Member ([] : List S_api_Member))] F := A
  obtain ⟨o1, ho, hm⟩ := bind_some hm
  refine aw_mono (Q' := fun e fr' h' => (∃ (x3 : List S_api_Member), e = .exit 0 ∧ x3 = o1 ∧ ∃ (r2 : Option Nat), Has fr' 29 [(3, rowV r2 x3.length)] ∧ HH g h' [.lst r2 63 (lst e_S_api_Member x3)] F) ∨ False) ?_ ?_
  · refine aw_loop (by kernel_rfl) (fun (s : (List S_api_Member) × Int) fr' h' => ∃ (x1 : List S_api_Member) (x2 : Int), (x1, x2) = s ∧ ∃ (r1 : Option Nat), Has fr' 29 [(0, vs e_S_api_Member p0), (3, rowV r1 x1.length), (4, .int .i64 x2)] ∧ HH g h' [.lst r1 63 (lst e_S_api_Member x1)] F) ho ⟨([] : List S_api_Member), (0 : Int), rfl, some h.size, H.less _ (fun fr => by kernel_rfl), A⟩ ?_
    clear ho hm H A
    intro s q fr h2 hI hm
    obtain ⟨x1, x2, rfl, r1, H, A⟩ := hI
    unfold M_boulterref38_Last_L0 at hm
    refine aw_seq (by kernel_rfl) ?_
    refine aw_seq (by kernel_rfl) ?_
    refine aw_reg (id := 3) (n := 4) [(0, []), (1, []), (2, []), (3, [])] (by kernel_rfl) (by kernel_rfl) ?_
    refine at_seg [(0, []), (1, []), (2, []), (3, [])] [(0, vs e_S_api_Member p0), (3, rowV r1 x1.length), (4, .int .i64 x2), (9, .bool (decide (x2 < (p0.length : Int))))] H (noU_all rfl) (fun fr => by kernel_rfl) ?_
    intro fr H
    refine at_nil ?_
    show AW cfg 34 g (right (left (left (left (right (left (right (right (bodyC cfg.P 34))))))))) fr h2 _
    rcases iteB_some hm with ⟨hb, hm⟩ | ⟨hb, hm⟩
    · replace H := H.know 9 hb (by kernel_rfl)
      refine aw_true (x := .tmp 9) (by kernel_rfl) H (fun fr => by kernel_rfl) ?_
      refine aw_skip (by kernel_rfl) ?_
      show AW cfg 34 g (right (left (left (right (left (right (right (bodyC cfg.P 34)))))))) fr h2 _
      refine aw_seq (by kernel_rfl) ?_
      obtain ⟨o2, ho, hm⟩ := bind_some hm
      refine aw_mono (Q' := fun e fr' h' => (∃ (x4 : List S_api_Member), e = .normal ∧ x4 = o2 ∧ ∃ (r3 : Option Nat), Has fr' 29 [(0, vs e_S_api_Member p0), (3, rowV r3 x4.length), (4, .int .i64 x2)] ∧ HH g h' [.lst r3 63 (lst e_S_api_Member x4)] F) ∨ False) ?_ ?_
      · replace hm := ho
        clear ho
        refine aw_block (id := 1) (by kernel_rfl) ?_
        refine aw_seq (by kernel_rfl) ?_
        refine aw_reg (id := 5) (n := 9) [(0, []), (1, []), (2, []), (3, []), (4, []), (5, []), (6, []), (7, []), (8, [])] (by kernel_rfl) (by kernel_rfl) ?_
        refine at_seg [(0, []), (1, []), (2, [])] [(0, vs e_S_api_Member p0), (3, rowV r1 x1.length), (4, .int .i64 x2), (12, vs e_S_api_Member p0), (13, vs e_S_api_Member p0), (14, .int .i64 x2)] H (noU_all rfl) (fun fr => by kernel_rfl) ?_
        intro fr H
        obtain ⟨x5, hx, hm⟩ := bind_some hm
        refine at_step (v := .vptr [.str x5.Name, .str x5.Link, .int .u8 x5.Kind, .int .i64 x5.Mode, .int .i64 x5.Uid, .int .i64 x5.Gid, .str x5.Uname, .str x5.Gname, .int .i64 x5.Major, .int .i64 x5.Minor, .int .i64 x5.Time.Sec, .int .i64 x5.Time.Nsec, vs e_S_api_Pair x5.Extra, .str x5.Data]) (h1 := h2) [(0, vs e_S_api_Member p0), (3, rowV r1 x1.length), (4, .int .i64 x2), (12, vs e_S_api_Member p0), (15, .vptr [.str x5.Name, .str x5.Link, .int .u8 x5.Kind, .int .i64 x5.Mode, .int .i64 x5.Uid, .int .i64 x5.Gid, .str x5.Uname, .str x5.Gname, .int .i64 x5.Major, .int .i64 x5.Minor, .int .i64 x5.Time.Sec, .int .i64 x5.Time.Nsec, vs e_S_api_Pair x5.Extra, .str x5.Data])] H (fun fr => by kernel_rfl) (fun fr => .of (s_ixV (e := e_S_api_Member) (x := x5) enc_S_api_Member (by decide) (by kernel_rfl) hx)) ?_
        intro fr t H
        refine at_seg [(4, [])] [(0, vs e_S_api_Member p0), (3, rowV r1 x1.length), (4, .int .i64 x2), (12, vs e_S_api_Member p0), (16, .vptr [.str x5.Name, .str x5.Link, .int .u8 x5.Kind, .int .i64 x5.Mode, .int .i64 x5.Uid, .int .i64 x5.Gid, .str x5.Uname, .str x5.Gname, .int .i64 x5.Major, .int .i64 x5.Minor, .int .i64 x5.Time.Sec, .int .i64 x5.Time.Nsec, vs e_S_api_Pair x5.Extra, .str x5.Data])] H (noU_all rfl) (fun fr => by kernel_rfl) ?_
        intro fr H
        refine at_step (v := .str x5.Name) (h1 := h2) [(0, vs e_S_api_Member p0), (3, rowV r1 x1.length), (4, .int .i64 x2), (12, vs e_S_api_Member p0), (17, .str x5.Name)] H (fun fr => by kernel_rfl) (fun fr => .of (s_lv (by kernel_rfl))) ?_
        intro fr t H
        have A1 := A.cut 0
        obtain ⟨x6, hx, hm⟩ := bind_some hm
        obtain ⟨v1, h3, hr, rfl, A1⟩ := ok_boulterref12_Find (av := [vs e_S_api_Member p0, .str x5.Name]) hx (by kernel_rfl) A1
        replace A : HH g h3 [.lst r1 63 (lst e_S_api_Member x1)] F := A.glue0 (n := 0) A1
        refine at_step (v := .int .i64 x6) (h1 := h3) [(0, vs e_S_api_Member p0), (3, rowV r1 x1.length), (4, .int .i64 x2), (18, .int .i64 x6)] H (fun fr => by kernel_rfl) (fun fr => Steps.call (by kernel_rfl) hr) ?_
        intro fr t H
        refine at_seg [(7, []), (8, [])] [(0, vs e_S_api_Member p0), (3, rowV r1 x1.length), (4, .int .i64 x2), (20, .bool (x6 == x2))] H (noU_all rfl) (fun fr => by kernel_rfl) ?_
        intro fr H
        refine at_nil ?_
        show AW cfg 34 g (right (left (left (right (left (left (right (left (right (right (bodyC cfg.P 34))))))))))) fr h3 _
        rcases iteB_some hm with ⟨hb, hm⟩ | ⟨hb, hm⟩
        · replace H := H.know 20 hb (by kernel_rfl)
          refine aw_true (x := .tmp 20) (by kernel_rfl) H (fun fr => by kernel_rfl) ?_
          refine aw_reg (id := 6) (n := 8) [(0, []), (1, []), (2, []), (3, []), (4, []), (5, []), (6, []), (7, [])] (by kernel_rfl) (by kernel_rfl) ?_
          refine at_seg [(0, []), (1, []), (2, [])] [(0, vs e_S_api_Member p0), (4, .int .i64 x2), (21, rowV r1 x1.length), (22, vs e_S_api_Member p0), (23, .int .i64 x2)] H (noU_all rfl) (fun fr => by kernel_rfl) ?_
          intro fr H
          obtain ⟨x7, hx, hm⟩ := bind_some hm
          refine at_step (v := .vptr [.str x7.Name, .str x7.Link, .int .u8 x7.Kind, .int .i64 x7.Mode, .int .i64 x7.Uid, .int .i64 x7.Gid, .str x7.Uname, .str x7.Gname, .int .i64 x7.Major, .int .i64 x7.Minor, .int .i64 x7.Time.Sec, .int .i64 x7.Time.Nsec, vs e_S_api_Pair x7.Extra, .str x7.Data]) (h1 := h3) [(0, vs e_S_api_Member p0), (4, .int .i64 x2), (21, rowV r1 x1.length), (24, .vptr [.str x7.Name, .str x7.Link, .int .u8 x7.Kind, .int .i64 x7.Mode, .int .i64 x7.Uid, .int .i64 x7.Gid, .str x7.Uname, .str x7.Gname, .int .i64 x7.Major, .int .i64 x7.Minor, .int .i64 x7.Time.Sec, .int .i64 x7.Time.Nsec, vs e_S_api_Pair x7.Extra, .str x7.Data])] H (fun fr => by kernel_rfl) (fun fr => .of (s_ixV (e := e_S_api_Member) (x := x7) enc_S_api_Member (by decide) (by kernel_rfl) hx)) ?_
          intro fr t H
          refine at_step (v := .agg (e_S_api_Member x7)) (h1 := h3) [(0, vs e_S_api_Member p0), (4, .int .i64 x2), (21, rowV r1 x1.length), (25, .agg (e_S_api_Member x7))] H (fun fr => by kernel_rfl) (fun fr => .of (s_lv (by kernel_rfl))) ?_
          intro fr t H
          obtain ⟨h4, e2⟩ : ∃ x, x = h3.push (.cells (some 63) 2 [.str x7.Name, .str x7.Link, .int .u8 x7.Kind, .int .i64 x7.Mode, .int .i64 x7.Uid, .int .i64 x7.Gid, .str x7.Uname, .str x7.Gname, .int .i64 x7.Major, .int .i64 x7.Minor, .int .i64 x7.Time.Sec, .int .i64 x7.Time.Nsec, vs e_S_api_Pair x7.Extra, .str x7.Data]) := ⟨_, rfl⟩
          replace A := (A.pushL _ _).to e2
          refine at_step (v := rowV (some h3.size) (([x7] : List S_api_Member).length)) (h1 := h4) [(0, vs e_S_api_Member p0), (4, .int .i64 x2), (21, rowV r1 x1.length), (26, rowV (some h3.size) (([x7] : List S_api_Member).length))] H (fun fr => by kernel_rfl) (fun fr => .of (s_n' (by kernel_rfl) (congrArg some e2.symm))) ?_
          intro fr t H
          obtain ⟨hb, hm⟩ := need_some hm
          obtain ⟨r4, h5, hx, A1⟩ := HH.appO enc_S_api_Member (by decide) A 1 (xs := x1) (ys := ([x7] : List S_api_Member)) rfl (row_first A 0 rfl (n := ([x7] : List S_api_Member).length) (z := 14) rfl (by decide)) rfl rfl hb
          replace A : HH g h5 [.lst (some h3.size) 63 ([.str x7.Name, .str x7.Link, .int .u8 x7.Kind, .int .i64 x7.Mode, .int .i64 x7.Uid, .int .i64 x7.Gid, .str x7.Uname, .str x7.Gname, .int .i64 x7.Major, .int .i64 x7.Minor, .int .i64 x7.Time.Sec, .int .i64 x7.Time.Nsec, vs e_S_api_Pair x7.Extra, .str x7.Data]), .lst r4 63 (lst e_S_api_Member (x1 ++ ([x7] : List S_api_Member)))] F := A1
          replace A : HH g h5 [.lst r4 63 (lst e_S_api_Member (x1 ++ ([x7] : List S_api_Member)))] F := (HH.dropF (A.front 1 rfl) 1)
          refine at_step (v := rowV r4 ((x1 ++ ([x7] : List S_api_Member)).length)) (h1 := h5) [(0, vs e_S_api_Member p0), (4, .int .i64 x2), (27, rowV r4 ((x1 ++ ([x7] : List S_api_Member)).length))] H (fun fr => by kernel_rfl) (fun fr => .of (s_app (s := rowS r1 x1.length) (by kernel_rfl) hx)) ?_
          intro fr t H
          refine at_seg [(7, [])] [(0, vs e_S_api_Member p0), (3, rowV r4 ((x1 ++ ([x7] : List S_api_Member)).length)), (4, .int .i64 x2)] H (noU_all rfl) (fun fr => by kernel_rfl) ?_
          intro fr H
          refine at_nil ?_
          exact Or.inl ⟨(x1 ++ ([x7] : List S_api_Member)), rfl, Option.some.inj hm, r4, H.less _ (fun fr => by kernel_rfl), A⟩
        · replace H := H.know 20 hb (by kernel_rfl)
          refine aw_false (x := .tmp 20) (by kernel_rfl) H (fun fr => by kernel_rfl) ?_
          refine aw_skip (by kernel_rfl) ?_
          exact Or.inl ⟨x1, rfl, Option.some.inj hm, r1, H.less _ (fun fr => by kernel_rfl), A⟩
      · clear ho
        clear A
        intro e fr h6 hQ
        rcases hQ with ⟨x4, rfl, rfl, r3, H, A⟩ | hF
        · skip
          show AW cfg 34 g (right (right (left (left (right (left (right (right (bodyC cfg.P 34))))))))) fr h6 _
          refine aw_reg (id := 4) (n := 3) [(0, []), (1, []), (2, [])] (by kernel_rfl) (by kernel_rfl) ?_
          refine at_seg [(0, []), (1, []), (2, [])] [(0, vs e_S_api_Member p0), (3, rowV r3 x4.length), (4, .int .i64 (IntKind.i64.wrap (x2 + (1 : Int))))] H (noU_all rfl) (fun fr => by kernel_rfl) ?_
          intro fr H
          refine at_nil ?_
          exact Exists.intro (x4, IntKind.i64.wrap (x2 + (1 : Int))) (And.intro (Option.some.inj hm).symm ⟨x4, IntKind.i64.wrap (x2 + (1 : Int)), rfl, r3, H.less _ (fun fr => by kernel_rfl), A⟩)
        · exact hF.elim
    · replace H := H.know 9 hb (by kernel_rfl)
      refine aw_false (x := .tmp 9) (by kernel_rfl) H (fun fr => by kernel_rfl) ?_
      refine aw_exit (i := 0) (by kernel_rfl) ?_
      exact Exists.intro _ (And.intro (Option.some.inj hm).symm (fun e => Or.inl ⟨x1, rfl, e, r1, H.less _ (fun fr => by kernel_rfl), A⟩))
  · clear ho
    clear A
    intro e fr h7 hQ
    rcases hQ with ⟨x3, rfl, rfl, r2, H, A⟩ | hF
    · skip
      show AW cfg 34 g (right (right (right (bodyC cfg.P 34)))) fr h7 _
      refine aw_seq (by kernel_rfl) ?_
      refine aw_reg (id := 7) (n := 2) [(0, []), (1, [])] (by kernel_rfl) (by kernel_rfl) ?_
      refine at_seg [(0, []), (1, [])] [(2, rowV r2 x3.length)] H (noU_all rfl) (fun fr => by kernel_rfl) ?_
      intro fr H
      refine at_nil ?_
      show AW cfg 34 g (right (right (right (right (bodyC cfg.P 34))))) fr h7 _
      refine aw_ret (by kernel_rfl) ?_
      have e1 := Option.some.inj hm
      subst e1
      refine ⟨.inl rfl, rowV r2 x3.length, resH H (fun fr => by kernel_rfl), ?_⟩
      exact ⟨r2, rfl, A⟩
    · exact hF.elim
/-! ### internal/bytealg.CompareString -/
noncomputable def M_bytealg_CompareString (p0 : List UInt8) (p1 : List UInt8) : Option (Int) :=
 some (compareBytes p0 p1)
theorem ok_bytealg_CompareString {g : Gd} {h : AHeap} {F : List Ck} {p0 : List UInt8} {p1 : List UInt8} {q0 : Int} {av : List AVal} (hm : M_bytealg_CompareString p0 p1 = some q0) (hc : canL (cfg.still 83) av = [.str p0, .str p1]) (A : HH g h [] F) : ∃ v h', Runs cfg g h 83 av v h' ∧ v = .int .i64 q0 ∧ HH g h' [] F := by
  refine runsQ1 (n := 8) (rs := [.tmp 4]) (by kernel_rfl) hc (by kernel_rfl) ?_
  clear hc
  unfold M_bytealg_CompareString at hm
  refine start (n := 8) [(0, .str p0), (1, .str p1)] (by kernel_rfl) (by kernel_rfl) ?_
  intro fr H
  refine aw_seq (by kernel_rfl) ?_
  refine aw_reg (id := 0) (n := 1) [(0, [])] (by kernel_rfl) (by kernel_rfl) ?_
  refine at_seg [(0, [])] [(0, .str p0), (1, .str p1)] H (noU_all rfl) (fun fr => by kernel_rfl) ?_
  intro fr H
  refine at_nil ?_
  show AW cfg 83 g (right (bodyC cfg.P 83)) fr h _
  refine aw_seq (by kernel_rfl) ?_
  refine aw_reg (id := 1) (n := 4) [(0, []), (1, []), (2, []), (3, [])] (by kernel_rfl) (by kernel_rfl) ?_
  refine at_seg [(0, []), (1, [])] [(5, .str p0), (6, .str p1)] H (noU_all rfl) (fun fr => by kernel_rfl) ?_
  intro fr H
  refine at_step (v := .int .i64 (compareBytes p0 p1)) (h1 := h) [(7, .int .i64 (compareBytes p0 p1))] H (fun fr => by kernel_rfl) (fun fr => Steps.call (by kernel_rfl) (runsCmp (C := cfg) (f := 100) (by kernel_rfl) (l := exts) rfl (by kernel_rfl))) ?_
  intro fr t H
  refine at_seg [(3, [])] [(4, .int .i64 (compareBytes p0 p1))] H (noU_all rfl) (fun fr => by kernel_rfl) ?_
  intro fr H
  refine at_nil ?_
  show AW cfg 83 g (right (right (bodyC cfg.P 83))) fr h _
  refine aw_ret (by kernel_rfl) ?_
  have e1 := Option.some.inj hm
  subst e1
  refine ⟨.inl rfl, .int .i64 (compareBytes p0 p1), resH H (fun fr => by kernel_rfl), ?_⟩
  exact ⟨rfl, A⟩
/-! ### strings.Compare -/
noncomputable def M_strings_Compare (p0 : List UInt8) (p1 : List UInt8) : Option (Int) :=
 (M_bytealg_CompareString p0 p1).bind fun x1 => some x1
theorem ok_strings_Compare {g : Gd} {h : AHeap} {F : List Ck} {p0 : List UInt8} {p1 : List UInt8} {q0 : Int} {av : List AVal} (hm : M_strings_Compare p0 p1 = some q0) (hc : canL (cfg.still 75) av = [.str p0, .str p1]) (A : HH g h [] F) : ∃ v h', Runs cfg g h 75 av v h' ∧ v = .int .i64 q0 ∧ HH g h' [] F := by
  refine runsQ1 (n := 8) (rs := [.tmp 4]) (by kernel_rfl) hc (by kernel_rfl) ?_
  clear hc
  unfold M_strings_Compare at hm
  refine start (n := 8) [(0, .str p0), (1, .str p1)] (by kernel_rfl) (by kernel_rfl) ?_
  intro fr H
  refine aw_seq (by kernel_rfl) ?_
  refine aw_reg (id := 0) (n := 1) [(0, [])] (by kernel_rfl) (by kernel_rfl) ?_
  refine at_seg [(0, [])] [(0, .str p0), (1, .str p1)] H (noU_all rfl) (fun fr => by kernel_rfl) ?_
  intro fr H
  refine at_nil ?_
  show AW cfg 75 g (right (bodyC cfg.P 75)) fr h _
  refine aw_seq (by kernel_rfl) ?_
  refine aw_reg (id := 1) (n := 4) [(0, []), (1, []), (2, []), (3, [])] (by kernel_rfl) (by kernel_rfl) ?_
  refine at_seg [(0, []), (1, [])] [(5, .str p0), (6, .str p1)] H (noU_all rfl) (fun fr => by kernel_rfl) ?_
  intro fr H
  have A1 := A.cut 0
  obtain ⟨x1, hx, hm⟩ := bind_some hm
  obtain ⟨v1, h1, hr, rfl, A1⟩ := ok_bytealg_CompareString (av := [.str p0, .str p1]) hx (by kernel_rfl) A1
  replace A : HH g h1 [] F := A.glue0 (n := 0) A1
  refine at_step (v := .int .i64 x1) (h1 := h1) [(7, .int .i64 x1)] H (fun fr => by kernel_rfl) (fun fr => Steps.call (by kernel_rfl) hr) ?_
  intro fr t H
  refine at_seg [(3, [])] [(4, .int .i64 x1)] H (noU_all rfl) (fun fr => by kernel_rfl) ?_
  intro fr H
  refine at_nil ?_
  show AW cfg 75 g (right (right (bodyC cfg.P 75))) fr h1 _
  refine aw_ret (by kernel_rfl) ?_
  have e1 := Option.some.inj hm
  subst e1
  refine ⟨.inl rfl, .int .i64 x1, resH H (fun fr => by kernel_rfl), ?_⟩
  exact ⟨rfl, A⟩
/-! ### boulter/delta.byName$1 -/
noncomputable def M_delta_byName_1 (p0 : S_api_Member) (p1 : S_api_Member) : Option (Int) :=
 (M_strings_Compare p0.Name p1.Name).bind fun x1 => some x1
theorem ok_delta_byName_1 {g : Gd} {h : AHeap} {F : List Ck} {p0 : S_api_Member} {p1 : S_api_Member} {q0 : Int} {av : List AVal} (hm : M_delta_byName_1 p0 p1 = some q0) (hc : canL (cfg.still 74) av = [.agg (e_S_api_Member p0), .agg (e_S_api_Member p1)]) (A : HH g h [] F) : ∃ v h', Runs cfg g h 74 av v h' ∧ v = .int .i64 q0 ∧ HH g h' [] F := by
  refine runsQ1 (n := 10) (rs := [.tmp 4]) (by kernel_rfl) hc (by kernel_rfl) ?_
  clear hc
  unfold M_delta_byName_1 at hm
  refine start (n := 10) [(0, .agg (e_S_api_Member p0)), (1, .agg (e_S_api_Member p1))] (by kernel_rfl) (by kernel_rfl) ?_
  intro fr H
  refine aw_seq (by kernel_rfl) ?_
  refine aw_reg (id := 0) (n := 3) [(0, []), (1, []), (2, [])] (by kernel_rfl) (by kernel_rfl) ?_
  obtain ⟨h1, e1⟩ : ∃ x, x = h.push (.cells none 2 (e_S_api_Member p0)) := ⟨_, rfl⟩
  replace A := (A.push _).to e1
  refine at_step (v := .ptr (some (h.size, 0))) (h1 := h1) [(1, .agg (e_S_api_Member p1)), (2, .ptr (some (h.size, 0)))] H (fun fr => by kernel_rfl) (fun fr => .of (s_n' (by kernel_rfl) (congrArg some e1.symm))) ?_
  intro fr t H
  obtain ⟨h2, e2⟩ : ∃ x, x = h1.push (.cells none 2 (e_S_api_Member p1)) := ⟨_, rfl⟩
  replace A := (A.push _).to e2
  refine at_step (v := .ptr (some (h1.size, 0))) (h1 := h2) [(2, .ptr (some (h.size, 0))), (3, .ptr (some (h1.size, 0)))] H (fun fr => by kernel_rfl) (fun fr => .of (s_n' (by kernel_rfl) (congrArg some e2.symm))) ?_
  intro fr t H
  refine at_seg [(2, [])] [(2, .ptr (some (h.size, 0))), (3, .ptr (some (h1.size, 0)))] H (noU_all rfl) (fun fr => by kernel_rfl) ?_
  intro fr H
  refine at_nil ?_
  show AW cfg 74 g (right (bodyC cfg.P 74)) fr h2 _
  refine aw_seq (by kernel_rfl) ?_
  refine aw_reg (id := 1) (n := 6) [(0, []), (1, []), (2, []), (3, []), (4, []), (5, [])] (by kernel_rfl) (by kernel_rfl) ?_
  refine at_seg [(0, [])] [(3, .ptr (some (h1.size, 0))), (5, .ptr (some (h.size, 0)))] H (noU_all rfl) (fun fr => by kernel_rfl) ?_
  intro fr H
  refine at_step (v := .str p0.Name) (h1 := h2) [(3, .ptr (some (h1.size, 0))), (6, .str p0.Name)] H (fun fr => by kernel_rfl) (fun fr => .of (s_ld (by kernel_rfl) (A.ld1 1 rfl (o := 0) rfl))) ?_
  intro fr t H
  refine at_seg [(2, [])] [(6, .str p0.Name), (7, .ptr (some (h1.size, 0)))] H (noU_all rfl) (fun fr => by kernel_rfl) ?_
  intro fr H
  refine at_step (v := .str p1.Name) (h1 := h2) [(6, .str p0.Name), (8, .str p1.Name)] H (fun fr => by kernel_rfl) (fun fr => .of (s_ld (by kernel_rfl) (A.ld1 0 rfl (o := 0) rfl))) ?_
  intro fr t H
  have A1 := A.cut 0
  obtain ⟨x1, hx, hm⟩ := bind_some hm
  obtain ⟨v1, h3, hr, rfl, A1⟩ := ok_strings_Compare (av := [.str p0.Name, .str p1.Name]) hx (by kernel_rfl) A1
  replace A : HH g h3 [.obj h1.size (.cells none 2 (e_S_api_Member p1)), .obj h.size (.cells none 2 (e_S_api_Member p0))] F := A.glue0 (n := 0) A1
  refine at_step (v := .int .i64 x1) (h1 := h3) [(9, .int .i64 x1)] H (fun fr => by kernel_rfl) (fun fr => Steps.call (by kernel_rfl) hr) ?_
  intro fr t H
  refine at_seg [(5, [])] [(4, .int .i64 x1)] H (noU_all rfl) (fun fr => by kernel_rfl) ?_
  intro fr H
  refine at_nil ?_
  show AW cfg 74 g (right (right (bodyC cfg.P 74))) fr h3 _
  refine aw_ret (by kernel_rfl) ?_
  have e1 := Option.some.inj hm
  subst e1
  refine ⟨.inl rfl, .int .i64 x1, resH H (fun fr => by kernel_rfl), ?_⟩
  replace A : HH g h3 [] F := (HH.dropF A 0)
  exact ⟨rfl, A⟩
end Go.Av.L
