/-
  Models of functions, and that the abstract run tells them. Written by lift2.py.
-/
import Derived.Test.YtcmfogjpkkodbaaKCfg
namespace Go.Av.L
open Go.Av Go.Lib
set_option maxRecDepth 10000
set_option linter.unusedVariables false
set_option linter.unusedSimpArgs false
/-! ### boulter/boulterref07.long -/
noncomputable def M_boulterref07_long_L0 (p0 : List S_api_Pair) (s : Int) : Option ((Int) ⊕ ((Unit) ⊕ (Bool))) :=
  match s with
  | x1 => iteB (decide (x1 < (p0.length : Int))) ((ixV p0 x1).bind fun x3 => (iteB (decide ((x3.Key.length : Int) > (300 : Int))) (some true) ((ixV p0 x1).bind fun x5 => some (decide ((x5.Value.length : Int) > (300 : Int)))) : Option (Bool)).bind fun x4 => iteB x4 (some (.inr (.inr true))) (some (.inl (IntKind.i64.wrap (x1 + (1 : Int)))))) (some (.inr (.inl ())))
noncomputable def M_boulterref07_long (p0 : List S_api_Pair) : Option (Bool) :=
 iteB (decide ((p0.length : Int) > (12 : Int))) (some true) ((loop (M_boulterref07_long_L0 p0) (0 : Int)).bind fun o1 => (match o1 with | .inl _ => some false | .inr x2 => some x2))
theorem ok_boulterref07_long {g : Gd} {h : AHeap} {F : List Ck} {p0 : List S_api_Pair} {q0 : Bool} {av : List AVal} (hm : M_boulterref07_long p0 = some q0) (hc : canL (cfg.still 64) av = [vs e_S_api_Pair p0]) (A : HH g h [] F) : ∃ v h', Runs cfg g h 64 av v h' ∧ v = .bool q0 ∧ HH g h' [] F := by
  refine runsQ1 (n := 29) (rs := [.tmp 2]) (by kernel_rfl) hc (by kernel_rfl) ?_
  clear hc
  unfold M_boulterref07_long at hm
  refine start (n := 29) [(0, vs e_S_api_Pair p0)] (by kernel_rfl) (by kernel_rfl) ?_
  intro fr H
  refine aw_seq (by kernel_rfl) ?_
  refine aw_reg (id := 0) (n := 1) [(0, [])] (by kernel_rfl) (by kernel_rfl) ?_
  refine at_seg [(0, [])] [(0, vs e_S_api_Pair p0)] H (noU_all rfl) (fun fr => by kernel_rfl) ?_
  intro fr H
  refine at_nil ?_
  show AW cfg 64 g (right (bodyC cfg.P 64)) fr h _
  refine aw_seq (by kernel_rfl) ?_
  refine aw_seq (by kernel_rfl) ?_
  refine aw_reg (id := 1) (n := 3) [(0, []), (1, []), (2, [])] (by kernel_rfl) (by kernel_rfl) ?_
  refine at_seg [(0, []), (1, []), (2, [])] [(0, vs e_S_api_Pair p0), (6, .bool (decide ((p0.length : Int) > (12 : Int))))] H (noU_all rfl) (fun fr => by kernel_rfl) ?_
  intro fr H
  refine at_nil ?_
  show AW cfg 64 g (right (left (right (bodyC cfg.P 64)))) fr h _
  rcases iteB_some hm with ⟨hb, hm⟩ | ⟨hb, hm⟩
  · replace H := H.know 6 hb (by kernel_rfl)
    refine aw_true (x := .tmp 6) (by kernel_rfl) H (fun fr => by kernel_rfl) ?_
    refine aw_seq (by kernel_rfl) ?_
    refine aw_reg (id := 2) (n := 1) [(0, [])] (by kernel_rfl) (by kernel_rfl) ?_
    refine at_seg [(0, [])] [(2, .bool true)] H (noU_all rfl) (fun fr => by kernel_rfl) ?_
    intro fr H
    refine at_nil ?_
    show AW cfg 64 g (right (left (right (left (right (bodyC cfg.P 64)))))) fr h _
    refine aw_ret (by kernel_rfl) ?_
    have e1 := Option.some.inj hm
    subst e1
    refine ⟨.inl rfl, .bool true, resH H (fun fr => by kernel_rfl), ?_⟩
    exact ⟨rfl, A⟩
  · replace H := H.know 6 hb (by kernel_rfl)
    refine aw_false (x := .tmp 6) (by kernel_rfl) H (fun fr => by kernel_rfl) ?_
    refine aw_skip (by kernel_rfl) ?_
    show AW cfg 64 g (right (right (bodyC cfg.P 64))) fr h _
    refine aw_seq (by kernel_rfl) ?_
    refine aw_seq (by kernel_rfl) ?_
    refine aw_reg (id := 3) (n := 1) [(0, [])] (by kernel_rfl) (by kernel_rfl) ?_
    refine at_seg [(0, [])] [(0, vs e_S_api_Pair p0), (3, .int .i64 (0 : Int))] H (noU_all rfl) (fun fr => by kernel_rfl) ?_
    intro fr H
    refine at_nil ?_
    show AW cfg 64 g (right (left (right (right (bodyC cfg.P 64))))) fr h _
    refine aw_block (id := 0) (by kernel_rfl) ?_
    obtain ⟨o1, ho, hm⟩ := bind_some hm
    refine aw_mono (Q' := fun e fr' h' => (e = .exit 0 ∧ .inl () = o1 ∧ Has fr' 29 [] ∧ HH g h' [] F) ∨ (∃ (x2 : Bool), e = .ret ∧ .inr x2 = o1 ∧ Has fr' 29 [(2, .bool x2)] ∧ HH g h' [] F) ∨ False) ?_ ?_
    · refine aw_loop (by kernel_rfl) (fun (s : Int) fr' h' => ∃ (x1 : Int), x1 = s ∧ Has fr' 29 [(0, vs e_S_api_Pair p0), (3, .int .i64 x1)] ∧ HH g h' [] F) ho ⟨(0 : Int), rfl, H.less _ (fun fr => by kernel_rfl), A⟩ ?_
      clear ho hm H A
      intro s q fr h1 hI hm
      obtain ⟨x1, rfl, H, A⟩ := hI
      unfold M_boulterref07_long_L0 at hm
      refine aw_seq (by kernel_rfl) ?_
      refine aw_seq (by kernel_rfl) ?_
      refine aw_reg (id := 4) (n := 4) [(0, []), (1, []), (2, []), (3, [])] (by kernel_rfl) (by kernel_rfl) ?_
      refine at_seg [(0, []), (1, []), (2, []), (3, [])] [(0, vs e_S_api_Pair p0), (3, .int .i64 x1), (10, .bool (decide (x1 < (p0.length : Int))))] H (noU_all rfl) (fun fr => by kernel_rfl) ?_
      intro fr H
      refine at_nil ?_
      show AW cfg 64 g (right (left (left (left (right (left (right (right (bodyC cfg.P 64))))))))) fr h1 _
      rcases iteB_some hm with ⟨hb, hm⟩ | ⟨hb, hm⟩
      · replace H := H.know 10 hb (by kernel_rfl)
        refine aw_true (x := .tmp 10) (by kernel_rfl) H (fun fr => by kernel_rfl) ?_
        refine aw_skip (by kernel_rfl) ?_
        show AW cfg 64 g (right (left (left (right (left (right (right (bodyC cfg.P 64)))))))) fr h1 _
        refine aw_seq (by kernel_rfl) ?_
        refine aw_block (id := 1) (by kernel_rfl) ?_
        refine aw_seq (by kernel_rfl) ?_
        refine aw_reg (id := 6) (n := 16) [(0, []), (1, []), (2, []), (3, []), (4, []), (5, []), (6, []), (7, []), (8, []), (9, []), (10, []), (11, []), (12, []), (13, []), (14, []), (15, [])] (by kernel_rfl) (by kernel_rfl) ?_
        refine at_seg [(0, []), (1, [])] [(0, vs e_S_api_Pair p0), (3, .int .i64 x1), (13, vs e_S_api_Pair p0), (14, .int .i64 x1)] H (noU_all rfl) (fun fr => by kernel_rfl) ?_
        intro fr H
        obtain ⟨x3, hx, hm⟩ := bind_some hm
        refine at_step (v := .vptr [.str x3.Key, .str x3.Value]) (h1 := h1) [(0, vs e_S_api_Pair p0), (3, .int .i64 x1), (15, .vptr [.str x3.Key, .str x3.Value])] H (fun fr => by kernel_rfl) (fun fr => .of (s_ixV (e := e_S_api_Pair) (x := x3) enc_S_api_Pair (by decide) (by kernel_rfl) hx)) ?_
        intro fr t H
        refine at_seg [(3, [])] [(0, vs e_S_api_Pair p0), (3, .int .i64 x1), (16, .vptr [.str x3.Key, .str x3.Value])] H (noU_all rfl) (fun fr => by kernel_rfl) ?_
        intro fr H
        refine at_step (v := .str x3.Key) (h1 := h1) [(0, vs e_S_api_Pair p0), (3, .int .i64 x1), (17, .str x3.Key)] H (fun fr => by kernel_rfl) (fun fr => .of (s_lv (by kernel_rfl))) ?_
        intro fr t H
        refine at_seg [(5, []), (6, []), (7, [])] [(0, vs e_S_api_Pair p0), (3, .int .i64 x1), (20, .bool (decide ((x3.Key.length : Int) > (300 : Int))))] H (noU_all rfl) (fun fr => by kernel_rfl) ?_
        intro fr H
        obtain ⟨x4, ho, hm⟩ := bind_some hm
        refine at_cut [(8, []), (9, []), (10, []), (11, []), (12, []), (13, []), (14, []), (15, [])] (fun fr' h' => Has fr' 29 [(0, vs e_S_api_Pair p0), (3, .int .i64 x1), (28, .bool x4)] ∧ HH g h' [] F) ?_ ?_
        · rcases iteB_some ho with ⟨hb, hm⟩ | ⟨hb, hm⟩
          · replace H := H.know 20 hb (by kernel_rfl)
            refine at_seg [(8, []), (9, []), (10, []), (11, []), (12, []), (13, []), (14, []), (15, [])] [(0, vs e_S_api_Pair p0), (3, .int .i64 x1), (28, .bool true)] H (noU_all rfl) (fun fr => by kernel_rfl) ?_
            intro fr H
            have e1 := Option.some.inj hm
            subst e1
            exact at_nil ⟨H.less _ (fun fr => by kernel_rfl), A⟩
          · replace H := H.know 20 hb (by kernel_rfl)
            refine at_seg [(8, []), (9, [])] [(0, vs e_S_api_Pair p0), (3, .int .i64 x1), (20, .bool false), (21, vs e_S_api_Pair p0), (22, .int .i64 x1)] H (noU_all rfl) (fun fr => by kernel_rfl) ?_
            intro fr H
            obtain ⟨x5, hx, hm⟩ := bind_some hm
            refine at_step (v := .vptr [.str x5.Key, .str x5.Value]) (h1 := h1) [(0, vs e_S_api_Pair p0), (3, .int .i64 x1), (20, .bool false), (23, .vptr [.str x5.Key, .str x5.Value])] H (fun fr => by kernel_rfl) (fun fr => .of (s_ixV (e := e_S_api_Pair) (x := x5) enc_S_api_Pair (by decide) (by kernel_rfl) hx)) ?_
            intro fr t H
            refine at_seg [(11, [])] [(0, vs e_S_api_Pair p0), (3, .int .i64 x1), (20, .bool false), (24, .vptr [.str x5.Value])] H (noU_all rfl) (fun fr => by kernel_rfl) ?_
            intro fr H
            refine at_step (v := .str x5.Value) (h1 := h1) [(0, vs e_S_api_Pair p0), (3, .int .i64 x1), (20, .bool false), (25, .str x5.Value)] H (fun fr => by kernel_rfl) (fun fr => .of (s_lv (by kernel_rfl))) ?_
            intro fr t H
            refine at_seg [(13, []), (14, []), (15, [])] [(0, vs e_S_api_Pair p0), (3, .int .i64 x1), (28, .bool (decide ((x5.Value.length : Int) > (300 : Int))))] H (noU_all rfl) (fun fr => by kernel_rfl) ?_
            intro fr H
            have e1 := Option.some.inj hm
            subst e1
            exact at_nil ⟨H.less _ (fun fr => by kernel_rfl), A⟩
        · clear A
          intro t fr h2 hK
          obtain ⟨H, A⟩ := hK
          refine at_nil ?_
          show AW cfg 64 g (right (left (left (right (left (left (right (left (right (right (bodyC cfg.P 64))))))))))) fr h2 _
          rcases iteB_some hm with ⟨hb, hm⟩ | ⟨hb, hm⟩
          · replace H := H.know 28 hb (by kernel_rfl)
            refine aw_true (x := .tmp 28) (by kernel_rfl) H (fun fr => by kernel_rfl) ?_
            refine aw_seq (by kernel_rfl) ?_
            refine aw_reg (id := 7) (n := 1) [(0, [])] (by kernel_rfl) (by kernel_rfl) ?_
            refine at_seg [(0, [])] [(2, .bool true)] H (noU_all rfl) (fun fr => by kernel_rfl) ?_
            intro fr H
            refine at_nil ?_
            show AW cfg 64 g (right (left (right (left (left (right (left (left (right (left (right (right (bodyC cfg.P 64))))))))))))) fr h2 _
            refine aw_ret (by kernel_rfl) ?_
            exact Exists.intro _ (And.intro (Option.some.inj hm).symm (fun e => Or.inr (Or.inl ⟨true, rfl, e, H.less _ (fun fr => by kernel_rfl), A⟩)))
          · replace H := H.know 28 hb (by kernel_rfl)
            refine aw_false (x := .tmp 28) (by kernel_rfl) H (fun fr => by kernel_rfl) ?_
            refine aw_skip (by kernel_rfl) ?_
            show AW cfg 64 g (right (right (left (left (right (left (right (right (bodyC cfg.P 64))))))))) fr h2 _
            refine aw_reg (id := 5) (n := 3) [(0, []), (1, []), (2, [])] (by kernel_rfl) (by kernel_rfl) ?_
            refine at_seg [(0, []), (1, []), (2, [])] [(0, vs e_S_api_Pair p0), (3, .int .i64 (IntKind.i64.wrap (x1 + (1 : Int))))] H (noU_all rfl) (fun fr => by kernel_rfl) ?_
            intro fr H
            refine at_nil ?_
            exact Exists.intro (IntKind.i64.wrap (x1 + (1 : Int))) (And.intro (Option.some.inj hm).symm ⟨IntKind.i64.wrap (x1 + (1 : Int)), rfl, H.less _ (fun fr => by kernel_rfl), A⟩)
      · replace H := H.know 10 hb (by kernel_rfl)
        refine aw_false (x := .tmp 10) (by kernel_rfl) H (fun fr => by kernel_rfl) ?_
        refine aw_exit (i := 0) (by kernel_rfl) ?_
        exact Exists.intro _ (And.intro (Option.some.inj hm).symm (fun e => Or.inl ⟨rfl, e, H.less _ (fun fr => by kernel_rfl), A⟩))
    · clear ho
      clear A
      intro e fr h3 hQ
      rcases hQ with ⟨rfl, rfl, H, A⟩ | ⟨x2, rfl, rfl, H, A⟩ | hF
      · skip
        show AW cfg 64 g (right (right (right (bodyC cfg.P 64)))) fr h3 _
        refine aw_seq (by kernel_rfl) ?_
        refine aw_reg (id := 8) (n := 1) [(0, [])] (by kernel_rfl) (by kernel_rfl) ?_
        refine at_seg [(0, [])] [(2, .bool false)] H (noU_all rfl) (fun fr => by kernel_rfl) ?_
        intro fr H
        refine at_nil ?_
        show AW cfg 64 g (right (right (right (right (bodyC cfg.P 64))))) fr h3 _
        refine aw_ret (by kernel_rfl) ?_
        have e1 := Option.some.inj hm
        subst e1
        refine ⟨.inl rfl, .bool false, resH H (fun fr => by kernel_rfl), ?_⟩
        exact ⟨rfl, A⟩
      · skip
        have e1 := Option.some.inj hm
        subst e1
        refine ⟨.inl rfl, .bool x2, resH H (fun fr => by kernel_rfl), ?_⟩
        exact ⟨rfl, A⟩
      · exact hF.elim
/-! ### boulter/boulterref07.Long -/
noncomputable def M_boulterref07_Long (p0 : S_api_Member) : Option (Bool) :=
 (M_boulterref07_long p0.Extra).bind fun x1 => some (((((x1 || (decide ((p0.Name.length : Int) > (600 : Int)))) || (decide ((p0.Link.length : Int) > (600 : Int)))) || (decide ((p0.Uname.length : Int) > (100 : Int)))) || (decide ((p0.Gname.length : Int) > (100 : Int)))) || (decide ((p0.Data.length : Int) > (2000 : Int))))
theorem ok_boulterref07_Long {g : Gd} {h : AHeap} {F : List Ck} {p0 : S_api_Member} {q0 : Bool} {av : List AVal} (hm : M_boulterref07_Long p0 = some q0) (hc : canL (cfg.still 42) av = [.agg (e_S_api_Member p0)]) (A : HH g h [] F) : ∃ v h', Runs cfg g h 42 av v h' ∧ v = .bool q0 ∧ HH g h' [] F := by
  refine runsQ1 (n := 36) (rs := [.tmp 2]) (by kernel_rfl) hc (by kernel_rfl) ?_
  clear hc
  unfold M_boulterref07_Long at hm
  refine start (n := 36) [(0, .agg (e_S_api_Member p0))] (by kernel_rfl) (by kernel_rfl) ?_
  intro fr H
  refine aw_seq (by kernel_rfl) ?_
  refine aw_reg (id := 0) (n := 2) [(0, []), (1, [])] (by kernel_rfl) (by kernel_rfl) ?_
  obtain ⟨h1, e1⟩ : ∃ x, x = h.push (.cells none 2 (e_S_api_Member p0)) := ⟨_, rfl⟩
  replace A := (A.push _).to e1
  refine at_step (v := .ptr (some (h.size, 0))) (h1 := h1) [(1, .ptr (some (h.size, 0)))] H (fun fr => by kernel_rfl) (fun fr => .of (s_n' (by kernel_rfl) (congrArg some e1.symm))) ?_
  intro fr t H
  refine at_seg [(1, [])] [(1, .ptr (some (h.size, 0)))] H (noU_all rfl) (fun fr => by kernel_rfl) ?_
  intro fr H
  refine at_nil ?_
  show AW cfg 42 g (right (bodyC cfg.P 42)) fr h1 _
  refine aw_seq (by kernel_rfl) ?_
  refine aw_reg (id := 1) (n := 34) [(0, []), (1, []), (2, []), (3, []), (4, []), (5, []), (6, []), (7, []), (8, []), (9, []), (10, []), (11, []), (12, []), (13, []), (14, []), (15, []), (16, []), (17, []), (18, []), (19, []), (20, []), (21, []), (22, []), (23, []), (24, []), (25, []), (26, []), (27, []), (28, []), (29, []), (30, []), (31, []), (32, []), (33, [])] (by kernel_rfl) (by kernel_rfl) ?_
  refine at_seg [(0, [])] [(1, .ptr (some (h.size, 0))), (3, .ptr (some (h.size, 12)))] H (noU_all rfl) (fun fr => by kernel_rfl) ?_
  intro fr H
  refine at_step (v := vs e_S_api_Pair p0.Extra) (h1 := h1) [(1, .ptr (some (h.size, 0))), (4, vs e_S_api_Pair p0.Extra)] H (fun fr => by kernel_rfl) (fun fr => .of (s_ld (by kernel_rfl) (A.ld1 0 rfl (o := 12) rfl))) ?_
  intro fr t H
  have A1 := A.cut 0
  obtain ⟨x1, hx, hm⟩ := bind_some hm
  obtain ⟨v1, h2, hr, rfl, A1⟩ := ok_boulterref07_long (av := [vs e_S_api_Pair p0.Extra]) hx (by kernel_rfl) A1
  replace A : HH g h2 [.obj h.size (.cells none 2 (e_S_api_Member p0))] F := A.glue0 (n := 0) A1
  refine at_step (v := .bool x1) (h1 := h2) [(1, .ptr (some (h.size, 0))), (5, .bool x1)] H (fun fr => by kernel_rfl) (fun fr => Steps.call (by kernel_rfl) hr) ?_
  intro fr t H
  refine at_seg [(3, [])] [(1, .ptr (some (h.size, 0))), (6, .bool x1)] H (noU_all rfl) (fun fr => by kernel_rfl) ?_
  intro fr H
  refine at_cut [(4, []), (5, []), (6, []), (7, []), (8, [])] (fun fr' h' => h2 = h' ∧ Has fr' 36 [(1, .ptr (some (h.size, 0))), (11, .bool (x1 || (decide ((p0.Name.length : Int) > (600 : Int)))))]) ?_ ?_
  · cases hb : (x1 : Bool) with
    | true =>
      replace H := H.know 6 hb (by kernel_rfl)
      refine at_seg [(4, []), (5, []), (6, []), (7, []), (8, [])] [(1, .ptr (some (h.size, 0))), (11, .bool true)] H (noU_all rfl) (fun fr => by kernel_rfl) ?_
      intro fr H
      exact at_nil ⟨rfl, by first | exact H.less _ (fun fr => by rfl) | exact H.less _ (fun fr => by rw [hb]; rfl)⟩
    | false =>
      replace H := H.know 6 hb (by kernel_rfl)
      refine at_seg [(4, [])] [(1, .ptr (some (h.size, 0))), (6, .bool false), (7, .ptr (some (h.size, 0)))] H (noU_all rfl) (fun fr => by kernel_rfl) ?_
      intro fr H
      refine at_step (v := .str p0.Name) (h1 := h2) [(1, .ptr (some (h.size, 0))), (6, .bool false), (8, .str p0.Name)] H (fun fr => by kernel_rfl) (fun fr => .of (s_ld (by kernel_rfl) (A.ld1 0 rfl (o := 0) rfl))) ?_
      intro fr t H
      refine at_seg [(6, []), (7, []), (8, [])] [(1, .ptr (some (h.size, 0))), (11, .bool (decide ((p0.Name.length : Int) > (600 : Int))))] H (noU_all rfl) (fun fr => by kernel_rfl) ?_
      intro fr H
      exact at_nil ⟨rfl, by first | exact H.less _ (fun fr => by rfl) | exact H.less _ (fun fr => by rw [hb]; rfl)⟩
  · intro t fr h' hK
    obtain ⟨e, H⟩ := hK
    subst e
    refine at_seg [(9, [])] [(1, .ptr (some (h.size, 0))), (12, .bool (x1 || (decide ((p0.Name.length : Int) > (600 : Int)))))] H (noU_all rfl) (fun fr => by kernel_rfl) ?_
    intro fr H
    refine at_cut [(10, []), (11, []), (12, []), (13, []), (14, [])] (fun fr' h' => h2 = h' ∧ Has fr' 36 [(1, .ptr (some (h.size, 0))), (17, .bool ((x1 || (decide ((p0.Name.length : Int) > (600 : Int)))) || (decide ((p0.Link.length : Int) > (600 : Int)))))]) ?_ ?_
    · cases hb : (x1 || (decide ((p0.Name.length : Int) > (600 : Int))) : Bool) with
      | true =>
        replace H := H.know 12 hb (by kernel_rfl)
        refine at_seg [(10, []), (11, []), (12, []), (13, []), (14, [])] [(1, .ptr (some (h.size, 0))), (17, .bool true)] H (noU_all rfl) (fun fr => by kernel_rfl) ?_
        intro fr H
        exact at_nil ⟨rfl, by first | exact H.less _ (fun fr => by rfl) | exact H.less _ (fun fr => by rw [hb]; rfl)⟩
      | false =>
        replace H := H.know 12 hb (by kernel_rfl)
        refine at_seg [(10, [])] [(1, .ptr (some (h.size, 0))), (12, .bool false), (13, .ptr (some (h.size, 1)))] H (noU_all rfl) (fun fr => by kernel_rfl) ?_
        intro fr H
        refine at_step (v := .str p0.Link) (h1 := h2) [(1, .ptr (some (h.size, 0))), (12, .bool false), (14, .str p0.Link)] H (fun fr => by kernel_rfl) (fun fr => .of (s_ld (by kernel_rfl) (A.ld1 0 rfl (o := 1) rfl))) ?_
        intro fr t H
        refine at_seg [(12, []), (13, []), (14, [])] [(1, .ptr (some (h.size, 0))), (17, .bool (decide ((p0.Link.length : Int) > (600 : Int))))] H (noU_all rfl) (fun fr => by kernel_rfl) ?_
        intro fr H
        exact at_nil ⟨rfl, by first | exact H.less _ (fun fr => by rfl) | exact H.less _ (fun fr => by rw [hb]; rfl)⟩
    · intro t fr h' hK
      obtain ⟨e, H⟩ := hK
      subst e
      refine at_seg [(15, [])] [(1, .ptr (some (h.size, 0))), (18, .bool ((x1 || (decide ((p0.Name.length : Int) > (600 : Int)))) || (decide ((p0.Link.length : Int) > (600 : Int)))))] H (noU_all rfl) (fun fr => by kernel_rfl) ?_
      intro fr H
      refine at_cut [(16, []), (17, []), (18, []), (19, []), (20, [])] (fun fr' h' => h2 = h' ∧ Has fr' 36 [(1, .ptr (some (h.size, 0))), (23, .bool (((x1 || (decide ((p0.Name.length : Int) > (600 : Int)))) || (decide ((p0.Link.length : Int) > (600 : Int)))) || (decide ((p0.Uname.length : Int) > (100 : Int)))))]) ?_ ?_
      · cases hb : ((x1 || (decide ((p0.Name.length : Int) > (600 : Int)))) || (decide ((p0.Link.length : Int) > (600 : Int))) : Bool) with
        | true =>
          replace H := H.know 18 hb (by kernel_rfl)
          refine at_seg [(16, []), (17, []), (18, []), (19, []), (20, [])] [(1, .ptr (some (h.size, 0))), (23, .bool true)] H (noU_all rfl) (fun fr => by kernel_rfl) ?_
          intro fr H
          exact at_nil ⟨rfl, by first | exact H.less _ (fun fr => by rfl) | exact H.less _ (fun fr => by rw [hb]; rfl)⟩
        | false =>
          replace H := H.know 18 hb (by kernel_rfl)
          refine at_seg [(16, [])] [(1, .ptr (some (h.size, 0))), (18, .bool false), (19, .ptr (some (h.size, 6)))] H (noU_all rfl) (fun fr => by kernel_rfl) ?_
          intro fr H
          refine at_step (v := .str p0.Uname) (h1 := h2) [(1, .ptr (some (h.size, 0))), (18, .bool false), (20, .str p0.Uname)] H (fun fr => by kernel_rfl) (fun fr => .of (s_ld (by kernel_rfl) (A.ld1 0 rfl (o := 6) rfl))) ?_
          intro fr t H
          refine at_seg [(18, []), (19, []), (20, [])] [(1, .ptr (some (h.size, 0))), (23, .bool (decide ((p0.Uname.length : Int) > (100 : Int))))] H (noU_all rfl) (fun fr => by kernel_rfl) ?_
          intro fr H
          exact at_nil ⟨rfl, by first | exact H.less _ (fun fr => by rfl) | exact H.less _ (fun fr => by rw [hb]; rfl)⟩
      · intro t fr h' hK
        obtain ⟨e, H⟩ := hK
        subst e
        refine at_seg [(21, [])] [(1, .ptr (some (h.size, 0))), (24, .bool (((x1 || (decide ((p0.Name.length : Int) > (600 : Int)))) || (decide ((p0.Link.length : Int) > (600 : Int)))) || (decide ((p0.Uname.length : Int) > (100 : Int)))))] H (noU_all rfl) (fun fr => by kernel_rfl) ?_
        intro fr H
        refine at_cut [(22, []), (23, []), (24, []), (25, []), (26, [])] (fun fr' h' => h2 = h' ∧ Has fr' 36 [(1, .ptr (some (h.size, 0))), (29, .bool ((((x1 || (decide ((p0.Name.length : Int) > (600 : Int)))) || (decide ((p0.Link.length : Int) > (600 : Int)))) || (decide ((p0.Uname.length : Int) > (100 : Int)))) || (decide ((p0.Gname.length : Int) > (100 : Int)))))]) ?_ ?_
        · cases hb : (((x1 || (decide ((p0.Name.length : Int) > (600 : Int)))) || (decide ((p0.Link.length : Int) > (600 : Int)))) || (decide ((p0.Uname.length : Int) > (100 : Int))) : Bool) with
          | true =>
            replace H := H.know 24 hb (by kernel_rfl)
            refine at_seg [(22, []), (23, []), (24, []), (25, []), (26, [])] [(1, .ptr (some (h.size, 0))), (29, .bool true)] H (noU_all rfl) (fun fr => by kernel_rfl) ?_
            intro fr H
            exact at_nil ⟨rfl, by first | exact H.less _ (fun fr => by rfl) | exact H.less _ (fun fr => by rw [hb]; rfl)⟩
          | false =>
            replace H := H.know 24 hb (by kernel_rfl)
            refine at_seg [(22, [])] [(1, .ptr (some (h.size, 0))), (24, .bool false), (25, .ptr (some (h.size, 7)))] H (noU_all rfl) (fun fr => by kernel_rfl) ?_
            intro fr H
            refine at_step (v := .str p0.Gname) (h1 := h2) [(1, .ptr (some (h.size, 0))), (24, .bool false), (26, .str p0.Gname)] H (fun fr => by kernel_rfl) (fun fr => .of (s_ld (by kernel_rfl) (A.ld1 0 rfl (o := 7) rfl))) ?_
            intro fr t H
            refine at_seg [(24, []), (25, []), (26, [])] [(1, .ptr (some (h.size, 0))), (29, .bool (decide ((p0.Gname.length : Int) > (100 : Int))))] H (noU_all rfl) (fun fr => by kernel_rfl) ?_
            intro fr H
            exact at_nil ⟨rfl, by first | exact H.less _ (fun fr => by rfl) | exact H.less _ (fun fr => by rw [hb]; rfl)⟩
        · intro t fr h' hK
          obtain ⟨e, H⟩ := hK
          subst e
          refine at_seg [(27, [])] [(1, .ptr (some (h.size, 0))), (30, .bool ((((x1 || (decide ((p0.Name.length : Int) > (600 : Int)))) || (decide ((p0.Link.length : Int) > (600 : Int)))) || (decide ((p0.Uname.length : Int) > (100 : Int)))) || (decide ((p0.Gname.length : Int) > (100 : Int)))))] H (noU_all rfl) (fun fr => by kernel_rfl) ?_
          intro fr H
          refine at_cut [(28, []), (29, []), (30, []), (31, []), (32, [])] (fun fr' h' => h2 = h' ∧ Has fr' 36 [(35, .bool (((((x1 || (decide ((p0.Name.length : Int) > (600 : Int)))) || (decide ((p0.Link.length : Int) > (600 : Int)))) || (decide ((p0.Uname.length : Int) > (100 : Int)))) || (decide ((p0.Gname.length : Int) > (100 : Int)))) || (decide ((p0.Data.length : Int) > (2000 : Int)))))]) ?_ ?_
          · cases hb : ((((x1 || (decide ((p0.Name.length : Int) > (600 : Int)))) || (decide ((p0.Link.length : Int) > (600 : Int)))) || (decide ((p0.Uname.length : Int) > (100 : Int)))) || (decide ((p0.Gname.length : Int) > (100 : Int))) : Bool) with
            | true =>
              replace H := H.know 30 hb (by kernel_rfl)
              refine at_seg [(28, []), (29, []), (30, []), (31, []), (32, [])] [(35, .bool true)] H (noU_all rfl) (fun fr => by kernel_rfl) ?_
              intro fr H
              exact at_nil ⟨rfl, by first | exact H.less _ (fun fr => by rfl) | exact H.less _ (fun fr => by rw [hb]; rfl)⟩
            | false =>
              replace H := H.know 30 hb (by kernel_rfl)
              refine at_seg [(28, [])] [(30, .bool false), (31, .ptr (some (h.size, 13)))] H (noU_all rfl) (fun fr => by kernel_rfl) ?_
              intro fr H
              refine at_step (v := .str p0.Data) (h1 := h2) [(30, .bool false), (32, .str p0.Data)] H (fun fr => by kernel_rfl) (fun fr => .of (s_ld (by kernel_rfl) (A.ld1 0 rfl (o := 13) rfl))) ?_
              intro fr t H
              refine at_seg [(30, []), (31, []), (32, [])] [(35, .bool (decide ((p0.Data.length : Int) > (2000 : Int))))] H (noU_all rfl) (fun fr => by kernel_rfl) ?_
              intro fr H
              exact at_nil ⟨rfl, by first | exact H.less _ (fun fr => by rfl) | exact H.less _ (fun fr => by rw [hb]; rfl)⟩
          · intro t fr h' hK
            obtain ⟨e, H⟩ := hK
            subst e
            refine at_seg [(33, [])] [(2, .bool (((((x1 || (decide ((p0.Name.length : Int) > (600 : Int)))) || (decide ((p0.Link.length : Int) > (600 : Int)))) || (decide ((p0.Uname.length : Int) > (100 : Int)))) || (decide ((p0.Gname.length : Int) > (100 : Int)))) || (decide ((p0.Data.length : Int) > (2000 : Int)))))] H (noU_all rfl) (fun fr => by kernel_rfl) ?_
            intro fr H
            refine at_nil ?_
            show AW cfg 42 g (right (right (bodyC cfg.P 42))) fr h2 _
            refine aw_ret (by kernel_rfl) ?_
            have e1 := Option.some.inj hm
            subst e1
            refine ⟨.inl rfl, .bool (((((x1 || (decide ((p0.Name.length : Int) > (600 : Int)))) || (decide ((p0.Link.length : Int) > (600 : Int)))) || (decide ((p0.Uname.length : Int) > (100 : Int)))) || (decide ((p0.Gname.length : Int) > (100 : Int)))) || (decide ((p0.Data.length : Int) > (2000 : Int)))), resH H (fun fr => by kernel_rfl), ?_⟩
            replace A : HH g h2 [] F := (HH.dropF A 0)
            exact ⟨rfl, A⟩
/-! ### boulter/boulterlaw38.long -/
noncomputable def M_boulterlaw38_long_L0 (p0 : List S_api_Member) (s : Int) : Option ((Int) ⊕ ((Unit) ⊕ (Bool))) :=
  match s with
  | x1 => iteB (decide (x1 < (p0.length : Int))) ((ixV p0 x1).bind fun x3 => (M_boulterref07_Long x3).bind fun x4 => iteB x4 (some (.inr (.inr true))) (some (.inl (IntKind.i64.wrap (x1 + (1 : Int)))))) (some (.inr (.inl ())))
noncomputable def M_boulterlaw38_long (p0 : List S_api_Member) : Option (Bool) :=
 iteB (decide ((p0.length : Int) > (10 : Int))) (some true) ((loop (M_boulterlaw38_long_L0 p0) (0 : Int)).bind fun o1 => (match o1 with | .inl _ => some false | .inr x2 => some x2))
theorem ok_boulterlaw38_long {g : Gd} {h : AHeap} {F : List Ck} {p0 : List S_api_Member} {q0 : Bool} {av : List AVal} (hm : M_boulterlaw38_long p0 = some q0) (hc : canL (cfg.still 19) av = [vs e_S_api_Member p0]) (A : HH g h [] F) : ∃ v h', Runs cfg g h 19 av v h' ∧ v = .bool q0 ∧ HH g h' [] F := by
  refine runsQ1 (n := 17) (rs := [.tmp 2]) (by kernel_rfl) hc (by kernel_rfl) ?_
  clear hc
  unfold M_boulterlaw38_long at hm
  refine start (n := 17) [(0, vs e_S_api_Member p0)] (by kernel_rfl) (by kernel_rfl) ?_
  intro fr H
  refine aw_seq (by kernel_rfl) ?_
  refine aw_reg (id := 0) (n := 1) [(0, [])] (by kernel_rfl) (by kernel_rfl) ?_
  refine at_seg [(0, [])] [(0, vs e_S_api_Member p0)] H (noU_all rfl) (fun fr => by kernel_rfl) ?_
  intro fr H
  refine at_nil ?_
  show AW cfg 19 g (right (bodyC cfg.P 19)) fr h _
  refine aw_seq (by kernel_rfl) ?_
  refine aw_seq (by kernel_rfl) ?_
  refine aw_reg (id := 1) (n := 3) [(0, []), (1, []), (2, [])] (by kernel_rfl) (by kernel_rfl) ?_
  refine at_seg [(0, []), (1, []), (2, [])] [(0, vs e_S_api_Member p0), (7, .bool (decide ((p0.length : Int) > (10 : Int))))] H (noU_all rfl) (fun fr => by kernel_rfl) ?_
  intro fr H
  refine at_nil ?_
  show AW cfg 19 g (right (left (right (bodyC cfg.P 19)))) fr h _
  rcases iteB_some hm with ⟨hb, hm⟩ | ⟨hb, hm⟩
  · replace H := H.know 7 hb (by kernel_rfl)
    refine aw_true (x := .tmp 7) (by kernel_rfl) H (fun fr => by kernel_rfl) ?_
    refine aw_seq (by kernel_rfl) ?_
    refine aw_reg (id := 2) (n := 1) [(0, [])] (by kernel_rfl) (by kernel_rfl) ?_
    refine at_seg [(0, [])] [(2, .bool true)] H (noU_all rfl) (fun fr => by kernel_rfl) ?_
    intro fr H
    refine at_nil ?_
    show AW cfg 19 g (right (left (right (left (right (bodyC cfg.P 19)))))) fr h _
    refine aw_ret (by kernel_rfl) ?_
    have e1 := Option.some.inj hm
    subst e1
    refine ⟨.inl rfl, .bool true, resH H (fun fr => by kernel_rfl), ?_⟩
    exact ⟨rfl, A⟩
  · replace H := H.know 7 hb (by kernel_rfl)
    refine aw_false (x := .tmp 7) (by kernel_rfl) H (fun fr => by kernel_rfl) ?_
    refine aw_skip (by kernel_rfl) ?_
    show AW cfg 19 g (right (right (bodyC cfg.P 19))) fr h _
    refine aw_seq (by kernel_rfl) ?_
    refine aw_seq (by kernel_rfl) ?_
    refine aw_reg (id := 3) (n := 3) [(0, []), (1, []), (2, [])] (by kernel_rfl) (by kernel_rfl) ?_
    refine at_seg [(0, []), (1, []), (2, [])] [(8, vs e_S_api_Member p0), (9, .int .i64 (p0.length : Int)), (10, .int .i64 (0 : Int))] H (noU_all rfl) (fun fr => by kernel_rfl) ?_
    intro fr H
    refine at_nil ?_
    show AW cfg 19 g (right (left (right (right (bodyC cfg.P 19))))) fr h _
    refine aw_block (id := 0) (by kernel_rfl) ?_
    obtain ⟨o1, ho, hm⟩ := bind_some hm
    refine aw_mono (Q' := fun e fr' h' => (e = .exit 0 ∧ .inl () = o1 ∧ Has fr' 17 [] ∧ HH g h' [] F) ∨ (∃ (x2 : Bool), e = .ret ∧ .inr x2 = o1 ∧ Has fr' 17 [(2, .bool x2)] ∧ HH g h' [] F) ∨ False) ?_ ?_
    · refine aw_loop (by kernel_rfl) (fun (s : Int) fr' h' => ∃ (x1 : Int), x1 = s ∧ Has fr' 17 [(8, vs e_S_api_Member p0), (9, .int .i64 (p0.length : Int)), (10, .int .i64 x1)] ∧ HH g h' [] F) ho ⟨(0 : Int), rfl, H.less _ (fun fr => by kernel_rfl), A⟩ ?_
      clear ho hm H A
      intro s q fr h1 hI hm
      obtain ⟨x1, rfl, H, A⟩ := hI
      unfold M_boulterlaw38_long_L0 at hm
      refine aw_seq (by kernel_rfl) ?_
      refine aw_reg (id := 4) (n := 1) [(0, [])] (by kernel_rfl) (by kernel_rfl) ?_
      refine at_seg [(0, [])] [(8, vs e_S_api_Member p0), (9, .int .i64 (p0.length : Int)), (10, .int .i64 x1), (11, .bool (decide (x1 < (p0.length : Int))))] H (noU_all rfl) (fun fr => by kernel_rfl) ?_
      intro fr H
      refine at_nil ?_
      show AW cfg 19 g (right (left (left (right (left (right (right (bodyC cfg.P 19)))))))) fr h1 _
      refine aw_seq (by kernel_rfl) ?_
      rcases iteB_some hm with ⟨hb, hm⟩ | ⟨hb, hm⟩
      · replace H := H.know 11 hb (by kernel_rfl)
        refine aw_true (x := .tmp 11) (by kernel_rfl) H (fun fr => by kernel_rfl) ?_
        refine aw_skip (by kernel_rfl) ?_
        show AW cfg 19 g (right (right (left (left (right (left (right (right (bodyC cfg.P 19))))))))) fr h1 _
        refine aw_seq (by kernel_rfl) ?_
        refine aw_block (id := 1) (by kernel_rfl) ?_
        refine aw_seq (by kernel_rfl) ?_
        refine aw_reg (id := 5) (n := 4) [(0, []), (1, []), (2, []), (3, [])] (by kernel_rfl) (by kernel_rfl) ?_
        obtain ⟨x3, hx, hm⟩ := bind_some hm
        refine at_step (v := .vptr [.str x3.Name, .str x3.Link, .int .u8 x3.Kind, .int .i64 x3.Mode, .int .i64 x3.Uid, .int .i64 x3.Gid, .str x3.Uname, .str x3.Gname, .int .i64 x3.Major, .int .i64 x3.Minor, .int .i64 x3.Time.Sec, .int .i64 x3.Time.Nsec, vs e_S_api_Pair x3.Extra, .str x3.Data]) (h1 := h1) [(8, vs e_S_api_Member p0), (9, .int .i64 (p0.length : Int)), (10, .int .i64 x1), (12, .vptr [.str x3.Name, .str x3.Link, .int .u8 x3.Kind, .int .i64 x3.Mode, .int .i64 x3.Uid, .int .i64 x3.Gid, .str x3.Uname, .str x3.Gname, .int .i64 x3.Major, .int .i64 x3.Minor, .int .i64 x3.Time.Sec, .int .i64 x3.Time.Nsec, vs e_S_api_Pair x3.Extra, .str x3.Data])] H (fun fr => by kernel_rfl) (fun fr => .of (s_ixV (e := e_S_api_Member) (x := x3) enc_S_api_Member (by decide) (by kernel_rfl) hx)) ?_
        intro fr t H
        refine at_step (v := .agg (e_S_api_Member x3)) (h1 := h1) [(8, vs e_S_api_Member p0), (9, .int .i64 (p0.length : Int)), (10, .int .i64 x1), (13, .agg (e_S_api_Member x3))] H (fun fr => by kernel_rfl) (fun fr => .of (s_lv (by kernel_rfl))) ?_
        intro fr t H
        obtain ⟨h2, e1⟩ : ∃ x, x = h1.push (.cells none 2 [.str ([] : List UInt8), .str ([] : List UInt8), .int .u8 (0 : Int), .int .i64 (0 : Int), .int .i64 (0 : Int), .int .i64 (0 : Int), .str ([] : List UInt8), .str ([] : List UInt8), .int .i64 (0 : Int), .int .i64 (0 : Int), .int .i64 (0 : Int), .int .i64 (0 : Int), .slice none 0, .str ([] : List UInt8)]) := ⟨_, rfl⟩
        replace A := (A.push _).to e1
        refine at_step (v := .ptr (some (h1.size, 0))) (h1 := h2) [(4, .ptr (some (h1.size, 0))), (8, vs e_S_api_Member p0), (9, .int .i64 (p0.length : Int)), (10, .int .i64 x1), (13, .agg (e_S_api_Member x3))] H (fun fr => by kernel_rfl) (fun fr => .of (s_n' (by kernel_rfl) (congrArg some e1.symm))) ?_
        intro fr t H
        obtain ⟨h3, hx, A1⟩ := A.st 0 rfl (o := 0) (new := [.str x3.Name, .str x3.Link, .int .u8 x3.Kind, .int .i64 x3.Mode, .int .i64 x3.Uid, .int .i64 x3.Gid, .str x3.Uname, .str x3.Gname, .int .i64 x3.Major, .int .i64 x3.Minor, .int .i64 x3.Time.Sec, .int .i64 x3.Time.Nsec, vs e_S_api_Pair x3.Extra, .str x3.Data]) (ds := [.str x3.Name, .str x3.Link, .int .u8 x3.Kind, .int .i64 x3.Mode, .int .i64 x3.Uid, .int .i64 x3.Gid, .str x3.Uname, .str x3.Gname, .int .i64 x3.Major, .int .i64 x3.Minor, .int .i64 x3.Time.Sec, .int .i64 x3.Time.Nsec, vs e_S_api_Pair x3.Extra, .str x3.Data]) (Nat.le_of_ble_eq_true rfl) rfl rfl
        replace A : HH g h3 [.obj h1.size (.cells none 2 (e_S_api_Member x3))] F := A1
        refine at_step (v := .tuple []) (h1 := h3) [(4, .ptr (some (h1.size, 0))), (8, vs e_S_api_Member p0), (9, .int .i64 (p0.length : Int)), (10, .int .i64 x1)] H (fun fr => by kernel_rfl) (fun fr => .of (s_stG (by kernel_rfl) (stG_st hx rfl))) ?_
        intro fr t H
        refine at_nil ?_
        show AW cfg 19 g (right (left (left (right (right (left (left (right (left (right (right (bodyC cfg.P 19)))))))))))) fr h3 _
        refine aw_seq (by kernel_rfl) ?_
        refine aw_reg (id := 6) (n := 2) [(0, []), (1, [])] (by kernel_rfl) (by kernel_rfl) ?_
        refine at_step (v := .agg (e_S_api_Member x3)) (h1 := h3) [(8, vs e_S_api_Member p0), (9, .int .i64 (p0.length : Int)), (10, .int .i64 x1), (14, .agg (e_S_api_Member x3))] H (fun fr => by kernel_rfl) (fun fr => .of (s_ldA (by kernel_rfl) (A.ldA 0 rfl (o := 0) (n := 14) ⟨Nat.le_of_ble_eq_true rfl, rfl⟩))) ?_
        intro fr t H
        have A1 := A.cut 0
        obtain ⟨x4, hx, hm⟩ := bind_some hm
        obtain ⟨v1, h4, hr, rfl, A1⟩ := ok_boulterref07_Long (av := [.agg (e_S_api_Member x3)]) hx (by kernel_rfl) A1
        replace A : HH g h4 [.obj h1.size (.cells none 2 (e_S_api_Member x3))] F := A.glue0 (n := 0) A1
        refine at_step (v := .bool x4) (h1 := h4) [(8, vs e_S_api_Member p0), (9, .int .i64 (p0.length : Int)), (10, .int .i64 x1), (15, .bool x4)] H (fun fr => by kernel_rfl) (fun fr => Steps.call (by kernel_rfl) hr) ?_
        intro fr t H
        refine at_nil ?_
        show AW cfg 19 g (right (right (left (left (right (right (left (left (right (left (right (right (bodyC cfg.P 19))))))))))))) fr h4 _
        rcases iteB_some hm with ⟨hb, hm⟩ | ⟨hb, hm⟩
        · replace H := H.know 15 hb (by kernel_rfl)
          refine aw_true (x := .tmp 15) (by kernel_rfl) H (fun fr => by kernel_rfl) ?_
          refine aw_seq (by kernel_rfl) ?_
          refine aw_reg (id := 7) (n := 1) [(0, [])] (by kernel_rfl) (by kernel_rfl) ?_
          refine at_seg [(0, [])] [(2, .bool true)] H (noU_all rfl) (fun fr => by kernel_rfl) ?_
          intro fr H
          refine at_nil ?_
          show AW cfg 19 g (right (left (right (right (left (left (right (right (left (left (right (left (right (right (bodyC cfg.P 19))))))))))))))) fr h4 _
          refine aw_ret (by kernel_rfl) ?_
          replace A : HH g h4 [] F := (HH.dropF A 0)
          exact Exists.intro _ (And.intro (Option.some.inj hm).symm (fun e => Or.inr (Or.inl ⟨true, rfl, e, H.less _ (fun fr => by kernel_rfl), A⟩)))
        · replace H := H.know 15 hb (by kernel_rfl)
          refine aw_false (x := .tmp 15) (by kernel_rfl) H (fun fr => by kernel_rfl) ?_
          refine aw_skip (by kernel_rfl) ?_
          show AW cfg 19 g (right (right (right (left (left (right (left (right (right (bodyC cfg.P 19)))))))))) fr h4 _
          refine aw_reg (id := 8) (n := 2) [(0, []), (1, [])] (by kernel_rfl) (by kernel_rfl) ?_
          refine at_seg [(0, []), (1, [])] [(8, vs e_S_api_Member p0), (9, .int .i64 (p0.length : Int)), (10, .int .i64 (IntKind.i64.wrap (x1 + (1 : Int))))] H (noU_all rfl) (fun fr => by kernel_rfl) ?_
          intro fr H
          refine at_nil ?_
          replace A : HH g h4 [] F := (HH.dropF A 0)
          exact Exists.intro (IntKind.i64.wrap (x1 + (1 : Int))) (And.intro (Option.some.inj hm).symm ⟨IntKind.i64.wrap (x1 + (1 : Int)), rfl, H.less _ (fun fr => by kernel_rfl), A⟩)
      · replace H := H.know 11 hb (by kernel_rfl)
        refine aw_false (x := .tmp 11) (by kernel_rfl) H (fun fr => by kernel_rfl) ?_
        refine aw_exit (i := 0) (by kernel_rfl) ?_
        exact Exists.intro _ (And.intro (Option.some.inj hm).symm (fun e => Or.inl ⟨rfl, e, H.less _ (fun fr => by kernel_rfl), A⟩))
    · clear ho
      clear A
      intro e fr h5 hQ
      rcases hQ with ⟨rfl, rfl, H, A⟩ | ⟨x2, rfl, rfl, H, A⟩ | hF
      · skip
        show AW cfg 19 g (right (right (right (bodyC cfg.P 19)))) fr h5 _
        refine aw_seq (by kernel_rfl) ?_
        refine aw_reg (id := 9) (n := 1) [(0, [])] (by kernel_rfl) (by kernel_rfl) ?_
        refine at_seg [(0, [])] [(2, .bool false)] H (noU_all rfl) (fun fr => by kernel_rfl) ?_
        intro fr H
        refine at_nil ?_
        show AW cfg 19 g (right (right (right (right (bodyC cfg.P 19))))) fr h5 _
        refine aw_ret (by kernel_rfl) ?_
        have e1 := Option.some.inj hm
        subst e1
        refine ⟨.inl rfl, .bool false, resH H (fun fr => by kernel_rfl), ?_⟩
        exact ⟨rfl, A⟩
      · skip
        have e1 := Option.some.inj hm
        subst e1
        refine ⟨.inl rfl, .bool x2, resH H (fun fr => by kernel_rfl), ?_⟩
        exact ⟨rfl, A⟩
      · exact hF.elim
/-! ### boulter/boulterlaw38.awake -/
def M_boulterlaw38_awake : Option Bool := some true
theorem ok_boulterlaw38_awake {g : Gd} {h : AHeap} {q0 : Bool} (hm : M_boulterlaw38_awake = some q0) : Runs cfg g h 20 [] (.bool q0) h := by
  have e1 := Option.some.inj hm
  subst e1
  exact runs4E (by kernel_rfl) rfl rfl (closed 1000 (by kernel_rfl))
/-! ### slices.Concat[[]boulter/api.Member,boulter/api.Member] -/
noncomputable def M_slices_Concat_boulter_api_Member_boulter_api_Member_sO_L0 (p0 : List (List S_api_Member)) (s : Int × Int) : Option ((Int × Int) ⊕ ((Int))) :=
  match s with
  | (x1, x2) => iteB (decide (x2 < (p0.length : Int))) (((ixV p0 x2).bind fun x5 => iteB (decide ((IntKind.i64.wrap (x1 + (x5.length : Int))) < (0 : Int))) (none) (some (IntKind.i64.wrap (x1 + (x5.length : Int)))) : Option ((Int))).bind fun x4 => some (.inl (x4, IntKind.i64.wrap (x2 + (1 : Int))))) (some (.inr x1))
noncomputable def M_slices_Concat_boulter_api_Member_boulter_api_Member_sO_L1 (p0 : List (List S_api_Member)) (s : (List S_api_Member) × Int) : Option (((List S_api_Member) × Int) ⊕ (((List S_api_Member)))) :=
  match s with
  | (x6, x7) => iteB (decide (x7 < (p0.length : Int))) ((ixV p0 x7).bind fun x9 => need (okN 168 (x6.length + x9.length)) <| some (.inl ((x6 ++ x9), IntKind.i64.wrap (x7 + (1 : Int))))) (some (.inr x6))
noncomputable def M_slices_Concat_boulter_api_Member_boulter_api_Member_sO (p0 : List (List S_api_Member)) : Option ((List S_api_Member)) :=
 (loop (M_slices_Concat_boulter_api_Member_boulter_api_Member_sO_L0 p0) ((0 : Int), (0 : Int))).bind fun x3 => need (mkN 168 x3) <| (loop (M_slices_Concat_boulter_api_Member_boulter_api_Member_sO_L1 p0) (([] : List S_api_Member), (0 : Int))).bind fun x8 => some x8
theorem ok_slices_Concat_boulter_api_Member_boulter_api_Member_sO {g : Gd} {h : AHeap} {F : List Ck} {p0 : List (List S_api_Member)} {rp0 : Option Nat} {q0 : List S_api_Member} {av : List AVal} (hm : M_slices_Concat_boulter_api_Member_boulter_api_Member_sO p0 = some q0) (hc : canL (cfg.still 44) av = [rowV rp0 p0.length]) (A : HH g h [.lst rp0 35 (lst (eL e_S_api_Member) p0)] F) : ∃ v h', Runs cfg g h 44 av v h' ∧ ∃ (rq0 : Option Nat), v = rowV rq0 q0.length ∧ HH g h' [.lst rq0 63 (lst e_S_api_Member q0), .lst rp0 35 (lst (eL e_S_api_Member) p0)] F := by
  refine runsQ1 (n := 36) (rs := [.tmp 2]) (by kernel_rfl) hc (by kernel_rfl) ?_
  clear hc
  unfold M_slices_Concat_boulter_api_Member_boulter_api_Member_sO at hm
  refine start (n := 36) [(0, rowV rp0 p0.length)] (by kernel_rfl) (by kernel_rfl) ?_
  intro fr H
  refine aw_seq (by kernel_rfl) ?_
  refine aw_reg (id := 0) (n := 1) [(0, [])] (by kernel_rfl) (by kernel_rfl) ?_
  refine at_seg [(0, [])] [(0, rowV rp0 p0.length)] H (noU_all rfl) (fun fr => by kernel_rfl) ?_
  intro fr H
  refine at_nil ?_
  show AW cfg 44 g (right (bodyC cfg.P 44)) fr h _
  refine aw_seq (by kernel_rfl) ?_
  refine aw_reg (id := 1) (n := 1) [(0, [])] (by kernel_rfl) (by kernel_rfl) ?_
  refine at_seg [(0, [])] [(0, rowV rp0 p0.length), (3, .int .i64 (0 : Int))] H (noU_all rfl) (fun fr => by kernel_rfl) ?_
  intro fr H
  refine at_nil ?_
  show AW cfg 44 g (right (right (bodyC cfg.P 44))) fr h _
  refine aw_seq (by kernel_rfl) ?_
  refine aw_seq (by kernel_rfl) ?_
  refine aw_reg (id := 2) (n := 3) [(0, []), (1, []), (2, [])] (by kernel_rfl) (by kernel_rfl) ?_
  refine at_seg [(0, []), (1, []), (2, [])] [(0, rowV rp0 p0.length), (3, .int .i64 (0 : Int)), (9, rowV rp0 p0.length), (10, .int .i64 (p0.length : Int)), (11, .int .i64 (0 : Int))] H (noU_all rfl) (fun fr => by kernel_rfl) ?_
  intro fr H
  refine at_nil ?_
  show AW cfg 44 g (right (left (right (right (bodyC cfg.P 44))))) fr h _
  refine aw_block (id := 0) (by kernel_rfl) ?_
  obtain ⟨o1, ho, hm⟩ := bind_some hm
  refine aw_mono (Q' := fun e fr' h' => (∃ (x3 : Int), e = .exit 0 ∧ x3 = o1 ∧ Has fr' 36 [(0, rowV rp0 p0.length), (3, .int .i64 x3)] ∧ HH g h' [.lst rp0 35 (lst (eL e_S_api_Member) p0)] F) ∨ False) ?_ ?_
  · refine aw_loop (by kernel_rfl) (fun (s : Int × Int) fr' h' => ∃ (x1 : Int) (x2 : Int), (x1, x2) = s ∧ Has fr' 36 [(0, rowV rp0 p0.length), (3, .int .i64 x1), (9, rowV rp0 p0.length), (10, .int .i64 (p0.length : Int)), (11, .int .i64 x2)] ∧ HH g h' [.lst rp0 35 (lst (eL e_S_api_Member) p0)] F) ho ⟨(0 : Int), (0 : Int), rfl, H.less _ (fun fr => by kernel_rfl), A⟩ ?_
    clear ho hm H A
    intro s q fr h1 hI hm
    obtain ⟨x1, x2, rfl, H, A⟩ := hI
    unfold M_slices_Concat_boulter_api_Member_boulter_api_Member_sO_L0 at hm
    refine aw_seq (by kernel_rfl) ?_
    refine aw_reg (id := 3) (n := 1) [(0, [])] (by kernel_rfl) (by kernel_rfl) ?_
    refine at_seg [(0, [])] [(0, rowV rp0 p0.length), (3, .int .i64 x1), (9, rowV rp0 p0.length), (10, .int .i64 (p0.length : Int)), (11, .int .i64 x2), (12, .bool (decide (x2 < (p0.length : Int))))] H (noU_all rfl) (fun fr => by kernel_rfl) ?_
    intro fr H
    refine at_nil ?_
    show AW cfg 44 g (right (left (left (right (left (right (right (bodyC cfg.P 44)))))))) fr h1 _
    refine aw_seq (by kernel_rfl) ?_
    rcases iteB_some hm with ⟨hb, hm⟩ | ⟨hb, hm⟩
    · replace H := H.know 12 hb (by kernel_rfl)
      refine aw_true (x := .tmp 12) (by kernel_rfl) H (fun fr => by kernel_rfl) ?_
      refine aw_skip (by kernel_rfl) ?_
      show AW cfg 44 g (right (right (left (left (right (left (right (right (bodyC cfg.P 44))))))))) fr h1 _
      refine aw_seq (by kernel_rfl) ?_
      obtain ⟨o2, ho, hm⟩ := bind_some hm
      refine aw_mono (Q' := fun e fr' h' => (∃ (x4 : Int), e = .normal ∧ x4 = o2 ∧ Has fr' 36 [(0, rowV rp0 p0.length), (3, .int .i64 x4), (9, rowV rp0 p0.length), (10, .int .i64 (p0.length : Int)), (11, .int .i64 x2)] ∧ HH g h' [.lst rp0 35 (lst (eL e_S_api_Member) p0)] F) ∨ False) ?_ ?_
      · replace hm := ho
        clear ho
        refine aw_block (id := 1) (by kernel_rfl) ?_
        refine aw_seq (by kernel_rfl) ?_
        refine aw_reg (id := 4) (n := 3) [(0, []), (1, []), (2, [])] (by kernel_rfl) (by kernel_rfl) ?_
        obtain ⟨x5, hx, hm⟩ := bind_some hm
        obtain ⟨i1, er1, _, hx, hq1⟩ := HH.ixO (encL _) (by decide) A 0 (xs := p0) rfl hx
        refine at_step (v := .ptr (some (i1, x2.toNat * 1))) (h1 := h1) [(0, rowV rp0 p0.length), (3, .int .i64 x1), (9, rowV rp0 p0.length), (10, .int .i64 (p0.length : Int)), (11, .int .i64 x2), (13, .ptr (some (i1, x2.toNat * 1)))] H (fun fr => by kernel_rfl) (fun fr => .of (s_ixL (s := rowS rp0 p0.length) (by kernel_rfl) hx)) ?_
        intro fr t H
        refine at_step (v := vs e_S_api_Member x5) (h1 := h1) [(0, rowV rp0 p0.length), (3, .int .i64 x1), (9, rowV rp0 p0.length), (10, .int .i64 (p0.length : Int)), (11, .int .i64 x2), (14, vs e_S_api_Member x5)] H (fun fr => by kernel_rfl) (fun fr => .of (s_ld (by kernel_rfl) (row_ld1 (encL _) (HH.row A 0 rfl er1) hq1 (o := 0) rfl))) ?_
        intro fr t H
        refine at_seg [(2, [])] [(0, rowV rp0 p0.length), (3, .int .i64 x1), (5, vs e_S_api_Member x5), (9, rowV rp0 p0.length), (10, .int .i64 (p0.length : Int)), (11, .int .i64 x2)] H (noU_all rfl) (fun fr => by kernel_rfl) ?_
        intro fr H
        refine at_nil ?_
        show AW cfg 44 g (right (left (left (right (right (left (left (right (left (right (right (bodyC cfg.P 44)))))))))))) fr h1 _
        refine aw_seq (by kernel_rfl) ?_
        refine aw_reg (id := 5) (n := 5) [(0, []), (1, []), (2, []), (3, []), (4, [])] (by kernel_rfl) (by kernel_rfl) ?_
        refine at_seg [(0, []), (1, []), (2, []), (3, []), (4, [])] [(0, rowV rp0 p0.length), (3, .int .i64 (IntKind.i64.wrap (x1 + (x5.length : Int)))), (9, rowV rp0 p0.length), (10, .int .i64 (p0.length : Int)), (11, .int .i64 x2)] H (noU_all rfl) (fun fr => by kernel_rfl) ?_
        intro fr H
        refine at_nil ?_
        show AW cfg 44 g (right (right (left (left (right (right (left (left (right (left (right (right (bodyC cfg.P 44))))))))))))) fr h1 _
        refine aw_seq (by kernel_rfl) ?_
        refine aw_reg (id := 6) (n := 2) [(0, []), (1, [])] (by kernel_rfl) (by kernel_rfl) ?_
        refine at_seg [(0, []), (1, [])] [(0, rowV rp0 p0.length), (3, .int .i64 (IntKind.i64.wrap (x1 + (x5.length : Int)))), (9, rowV rp0 p0.length), (10, .int .i64 (p0.length : Int)), (11, .int .i64 x2), (20, .bool (decide ((IntKind.i64.wrap (x1 + (x5.length : Int))) < (0 : Int))))] H (noU_all rfl) (fun fr => by kernel_rfl) ?_
        intro fr H
        refine at_nil ?_
        show AW cfg 44 g (right (right (right (left (left (right (right (left (left (right (left (right (right (bodyC cfg.P 44)))))))))))))) fr h1 _
        rcases iteB_some hm with ⟨hb, hm⟩ | ⟨hb, hm⟩
        · replace H := H.know 20 hb (by kernel_rfl)
          refine aw_true (x := .tmp 20) (by kernel_rfl) H (fun fr => by kernel_rfl) ?_
          refine aw_reg (id := 7) (n := 2) [(0, []), (1, [])] (by kernel_rfl) (by kernel_rfl) ?_
          cases hm
        · replace H := H.know 20 hb (by kernel_rfl)
          refine aw_false (x := .tmp 20) (by kernel_rfl) H (fun fr => by kernel_rfl) ?_
          refine aw_skip (by kernel_rfl) ?_
          exact Or.inl ⟨IntKind.i64.wrap (x1 + (x5.length : Int)), rfl, Option.some.inj hm, H.less _ (fun fr => by kernel_rfl), A⟩
      · clear ho
        clear A
        intro e fr h2 hQ
        rcases hQ with ⟨x4, rfl, rfl, H, A⟩ | hF
        · skip
          show AW cfg 44 g (right (right (right (left (left (right (left (right (right (bodyC cfg.P 44)))))))))) fr h2 _
          refine aw_reg (id := 8) (n := 2) [(0, []), (1, [])] (by kernel_rfl) (by kernel_rfl) ?_
          refine at_seg [(0, []), (1, [])] [(0, rowV rp0 p0.length), (3, .int .i64 x4), (9, rowV rp0 p0.length), (10, .int .i64 (p0.length : Int)), (11, .int .i64 (IntKind.i64.wrap (x2 + (1 : Int))))] H (noU_all rfl) (fun fr => by kernel_rfl) ?_
          intro fr H
          refine at_nil ?_
          exact Exists.intro (x4, IntKind.i64.wrap (x2 + (1 : Int))) (And.intro (Option.some.inj hm).symm ⟨x4, IntKind.i64.wrap (x2 + (1 : Int)), rfl, H.less _ (fun fr => by kernel_rfl), A⟩)
        · exact hF.elim
    · replace H := H.know 12 hb (by kernel_rfl)
      refine aw_false (x := .tmp 12) (by kernel_rfl) H (fun fr => by kernel_rfl) ?_
      refine aw_exit (i := 0) (by kernel_rfl) ?_
      exact Exists.intro _ (And.intro (Option.some.inj hm).symm (fun e => Or.inl ⟨x1, rfl, e, H.less _ (fun fr => by kernel_rfl), A⟩))
  · clear ho
    clear A
    intro e fr h3 hQ
    rcases hQ with ⟨x3, rfl, rfl, H, A⟩ | hF
    · skip
      show AW cfg 44 g (right (right (right (bodyC cfg.P 44)))) fr h3 _
      refine aw_seq (by kernel_rfl) ?_
      refine aw_reg (id := 9) (n := 3) [(0, []), (1, []), (2, [])] (by kernel_rfl) (by kernel_rfl) ?_
      refine at_seg [(0, [])] [(0, rowV rp0 p0.length), (23, .int .i64 x3)] H (noU_all rfl) (fun fr => by kernel_rfl) ?_
      intro fr H
      have A1 := A.cut 0
      obtain ⟨hb, hm⟩ := need_some hm
      obtain ⟨r1, h4, hr, A1⟩ := HH.grow (C := cfg) (f := 66) (a := 0) (t := 63) (z := 14) A1 (by decide) (by kernel_rfl) (l := exts) rfl (by kernel_rfl) (by kernel_rfl) hb
      replace A : HH g h4 [.lst r1 63 (lst e_S_api_Member ([] : List S_api_Member)), .lst rp0 35 (lst (eL e_S_api_Member) p0)] F := A.glue0 (n := 0) A1
      refine at_step (v := rowV r1 (([] : List S_api_Member).length)) (h1 := h4) [(0, rowV rp0 p0.length), (24, rowV r1 (([] : List S_api_Member).length))] H (fun fr => by kernel_rfl) (fun fr => Steps.call (by kernel_rfl) hr) ?_
      intro fr t H
      refine at_seg [(2, [])] [(0, rowV rp0 p0.length), (6, rowV r1 (([] : List S_api_Member).length))] H (noU_all rfl) (fun fr => by kernel_rfl) ?_
      intro fr H
      refine at_nil ?_
      show AW cfg 44 g (right (right (right (right (bodyC cfg.P 44))))) fr h4 _
      refine aw_seq (by kernel_rfl) ?_
      refine aw_seq (by kernel_rfl) ?_
      refine aw_reg (id := 10) (n := 3) [(0, []), (1, []), (2, [])] (by kernel_rfl) (by kernel_rfl) ?_
      refine at_seg [(0, []), (1, []), (2, [])] [(6, rowV r1 (([] : List S_api_Member).length)), (25, rowV rp0 p0.length), (26, .int .i64 (p0.length : Int)), (27, .int .i64 (0 : Int))] H (noU_all rfl) (fun fr => by kernel_rfl) ?_
      intro fr H
      refine at_nil ?_
      show AW cfg 44 g (right (left (right (right (right (right (bodyC cfg.P 44))))))) fr h4 _
      refine aw_block (id := 2) (by kernel_rfl) ?_
      obtain ⟨o3, ho, hm⟩ := bind_some hm
      refine aw_mono (Q' := fun e fr' h' => (∃ (x8 : List S_api_Member), e = .exit 2 ∧ x8 = o3 ∧ ∃ (r3 : Option Nat), Has fr' 36 [(6, rowV r3 x8.length)] ∧ HH g h' [.lst r3 63 (lst e_S_api_Member x8), .lst rp0 35 (lst (eL e_S_api_Member) p0)] F) ∨ False) ?_ ?_
      · refine aw_loop (by kernel_rfl) (fun (s : (List S_api_Member) × Int) fr' h' => ∃ (x6 : List S_api_Member) (x7 : Int), (x6, x7) = s ∧ ∃ (r2 : Option Nat), Has fr' 36 [(6, rowV r2 x6.length), (25, rowV rp0 p0.length), (26, .int .i64 (p0.length : Int)), (27, .int .i64 x7)] ∧ HH g h' [.lst r2 63 (lst e_S_api_Member x6), .lst rp0 35 (lst (eL e_S_api_Member) p0)] F) ho ⟨([] : List S_api_Member), (0 : Int), rfl, r1, H.less _ (fun fr => by kernel_rfl), A⟩ ?_
        clear ho hm H A
        intro s q fr h5 hI hm
        obtain ⟨x6, x7, rfl, r2, H, A⟩ := hI
        unfold M_slices_Concat_boulter_api_Member_boulter_api_Member_sO_L1 at hm
        refine aw_seq (by kernel_rfl) ?_
        refine aw_reg (id := 11) (n := 1) [(0, [])] (by kernel_rfl) (by kernel_rfl) ?_
        refine at_seg [(0, [])] [(6, rowV r2 x6.length), (25, rowV rp0 p0.length), (26, .int .i64 (p0.length : Int)), (27, .int .i64 x7), (28, .bool (decide (x7 < (p0.length : Int))))] H (noU_all rfl) (fun fr => by kernel_rfl) ?_
        intro fr H
        refine at_nil ?_
        show AW cfg 44 g (right (left (left (right (left (right (right (right (right (bodyC cfg.P 44)))))))))) fr h5 _
        refine aw_seq (by kernel_rfl) ?_
        rcases iteB_some hm with ⟨hb, hm⟩ | ⟨hb, hm⟩
        · replace H := H.know 28 hb (by kernel_rfl)
          refine aw_true (x := .tmp 28) (by kernel_rfl) H (fun fr => by kernel_rfl) ?_
          refine aw_skip (by kernel_rfl) ?_
          show AW cfg 44 g (right (right (left (left (right (left (right (right (right (right (bodyC cfg.P 44))))))))))) fr h5 _
          refine aw_seq (by kernel_rfl) ?_
          refine aw_block (id := 3) (by kernel_rfl) ?_
          refine aw_seq (by kernel_rfl) ?_
          refine aw_reg (id := 12) (n := 3) [(0, []), (1, []), (2, [])] (by kernel_rfl) (by kernel_rfl) ?_
          obtain ⟨x9, hx, hm⟩ := bind_some hm
          obtain ⟨i2, er2, _, hx, hq2⟩ := HH.ixO (encL _) (by decide) A 1 (xs := p0) rfl hx
          refine at_step (v := .ptr (some (i2, x7.toNat * 1))) (h1 := h5) [(6, rowV r2 x6.length), (25, rowV rp0 p0.length), (26, .int .i64 (p0.length : Int)), (27, .int .i64 x7), (29, .ptr (some (i2, x7.toNat * 1)))] H (fun fr => by kernel_rfl) (fun fr => .of (s_ixL (s := rowS rp0 p0.length) (by kernel_rfl) hx)) ?_
          intro fr t H
          refine at_step (v := vs e_S_api_Member x9) (h1 := h5) [(6, rowV r2 x6.length), (25, rowV rp0 p0.length), (26, .int .i64 (p0.length : Int)), (27, .int .i64 x7), (30, vs e_S_api_Member x9)] H (fun fr => by kernel_rfl) (fun fr => .of (s_ld (by kernel_rfl) (row_ld1 (encL _) (HH.row A 1 rfl er2) hq2 (o := 0) rfl))) ?_
          intro fr t H
          refine at_seg [(2, [])] [(6, rowV r2 x6.length), (8, vs e_S_api_Member x9), (25, rowV rp0 p0.length), (26, .int .i64 (p0.length : Int)), (27, .int .i64 x7)] H (noU_all rfl) (fun fr => by kernel_rfl) ?_
          intro fr H
          refine at_nil ?_
          show AW cfg 44 g (right (left (left (right (right (left (left (right (left (right (right (right (right (bodyC cfg.P 44)))))))))))))) fr h5 _
          refine aw_reg (id := 13) (n := 4) [(0, []), (1, []), (2, []), (3, [])] (by kernel_rfl) (by kernel_rfl) ?_
          refine at_seg [(0, []), (1, [])] [(25, rowV rp0 p0.length), (26, .int .i64 (p0.length : Int)), (27, .int .i64 x7), (31, rowV r2 x6.length), (32, vs e_S_api_Member x9)] H (noU_all rfl) (fun fr => by kernel_rfl) ?_
          intro fr H
          obtain ⟨hb, hm⟩ := need_some hm
          obtain ⟨r4, h6, hx, A1⟩ := HH.appO enc_S_api_Member (by decide) A 0 (xs := x6) (ys := x9) rfl (firstV enc_S_api_Member _ x9) (enc_S_api_Member.canL _) rfl hb
          replace A : HH g h6 [.lst r4 63 (lst e_S_api_Member (x6 ++ x9)), .lst rp0 35 (lst (eL e_S_api_Member) p0)] F := A1
          refine at_step (v := rowV r4 ((x6 ++ x9).length)) (h1 := h6) [(25, rowV rp0 p0.length), (26, .int .i64 (p0.length : Int)), (27, .int .i64 x7), (33, rowV r4 ((x6 ++ x9).length))] H (fun fr => by kernel_rfl) (fun fr => .of (s_app (s := rowS r2 x6.length) (by kernel_rfl) hx)) ?_
          intro fr t H
          refine at_seg [(3, [])] [(6, rowV r4 ((x6 ++ x9).length)), (25, rowV rp0 p0.length), (26, .int .i64 (p0.length : Int)), (27, .int .i64 x7)] H (noU_all rfl) (fun fr => by kernel_rfl) ?_
          intro fr H
          refine at_nil ?_
          show AW cfg 44 g (right (right (right (left (left (right (left (right (right (right (right (bodyC cfg.P 44)))))))))))) fr h6 _
          refine aw_reg (id := 14) (n := 2) [(0, []), (1, [])] (by kernel_rfl) (by kernel_rfl) ?_
          refine at_seg [(0, []), (1, [])] [(6, rowV r4 ((x6 ++ x9).length)), (25, rowV rp0 p0.length), (26, .int .i64 (p0.length : Int)), (27, .int .i64 (IntKind.i64.wrap (x7 + (1 : Int))))] H (noU_all rfl) (fun fr => by kernel_rfl) ?_
          intro fr H
          refine at_nil ?_
          exact Exists.intro ((x6 ++ x9), IntKind.i64.wrap (x7 + (1 : Int))) (And.intro (Option.some.inj hm).symm ⟨(x6 ++ x9), IntKind.i64.wrap (x7 + (1 : Int)), rfl, r4, H.less _ (fun fr => by kernel_rfl), A⟩)
        · replace H := H.know 28 hb (by kernel_rfl)
          refine aw_false (x := .tmp 28) (by kernel_rfl) H (fun fr => by kernel_rfl) ?_
          refine aw_exit (i := 2) (by kernel_rfl) ?_
          exact Exists.intro _ (And.intro (Option.some.inj hm).symm (fun e => Or.inl ⟨x6, rfl, e, r2, H.less _ (fun fr => by kernel_rfl), A⟩))
      · clear ho
        clear A
        intro e fr h7 hQ
        rcases hQ with ⟨x8, rfl, rfl, r3, H, A⟩ | hF
        · skip
          show AW cfg 44 g (right (right (right (right (right (bodyC cfg.P 44)))))) fr h7 _
          refine aw_seq (by kernel_rfl) ?_
          refine aw_reg (id := 15) (n := 2) [(0, []), (1, [])] (by kernel_rfl) (by kernel_rfl) ?_
          refine at_seg [(0, []), (1, [])] [(2, rowV r3 x8.length)] H (noU_all rfl) (fun fr => by kernel_rfl) ?_
          intro fr H
          refine at_nil ?_
          show AW cfg 44 g (right (right (right (right (right (right (bodyC cfg.P 44))))))) fr h7 _
          refine aw_ret (by kernel_rfl) ?_
          have e1 := Option.some.inj hm
          subst e1
          refine ⟨.inl rfl, rowV r3 x8.length, resH H (fun fr => by kernel_rfl), ?_⟩
          exact ⟨r3, rfl, A⟩
        · exact hF.elim
    · exact hF.elim
/-! ### boulter/delta.places -/
noncomputable def M_delta_places_sO_L0 (p0 : List S_api_Member) (s : (List ((List UInt8) × Int)) × Int) : Option (((List ((List UInt8) × Int)) × Int) ⊕ (((List ((List UInt8) × Int))))) :=
  match s with
  | (x1, x2) => iteB (decide (x2 < (p0.length : Int))) ((ixV p0 x2).bind fun x4 => some (.inl ((mput x1 x4.Name x2), IntKind.i64.wrap (x2 + (1 : Int))))) (some (.inr x1))
noncomputable def M_delta_places_sO (p0 : List S_api_Member) : Option ((List ((List UInt8) × Int))) :=
 (loop (M_delta_places_sO_L0 p0) (([] : List ((List UInt8) × Int)), (0 : Int))).bind fun x3 => some x3
theorem ok_delta_places_sO {g : Gd} {h : AHeap} {F : List Ck} {p0 : List S_api_Member} {rp0 : Option Nat} {q0 : List ((List UInt8) × Int)} {av : List AVal} (hm : M_delta_places_sO p0 = some q0) (hc : canL (cfg.still 46) av = [rowV rp0 p0.length]) (A : HH g h [.lst rp0 63 (lst e_S_api_Member p0)] F) : ∃ v h', Runs cfg g h 46 av v h' ∧ ∃ (bq0 : Nat), v = .map (some bq0) ∧ HH g h' [.obj bq0 (.map 2 (encM (fun k : List UInt8 => .str k) (fun v : Int => .int .i64 v) q0)), .lst rp0 63 (lst e_S_api_Member p0)] F := by
  refine runsQ1 (n := 20) (rs := [.tmp 2]) (by kernel_rfl) hc (by kernel_rfl) ?_
  clear hc
  unfold M_delta_places_sO at hm
  refine start (n := 20) [(0, rowV rp0 p0.length)] (by kernel_rfl) (by kernel_rfl) ?_
  intro fr H
  refine aw_seq (by kernel_rfl) ?_
  refine aw_reg (id := 0) (n := 1) [(0, [])] (by kernel_rfl) (by kernel_rfl) ?_
  refine at_seg [(0, [])] [(0, rowV rp0 p0.length)] H (noU_all rfl) (fun fr => by kernel_rfl) ?_
  intro fr H
  refine at_nil ?_
  show AW cfg 46 g (right (bodyC cfg.P 46)) fr h _
  refine aw_seq (by kernel_rfl) ?_
  refine aw_reg (id := 1) (n := 2) [(0, []), (1, [])] (by kernel_rfl) (by kernel_rfl) ?_
  obtain ⟨h1, e1⟩ : ∃ x, x = h.push (.map 2 []) := ⟨_, rfl⟩
  replace A : HH g h1 [.obj h.size (.map 2 (encM (fun k : List UInt8 => .str k) (fun v : Int => .int .i64 v) ([] : List ((List UInt8) × Int)))), .lst rp0 63 (lst e_S_api_Member p0)] F := (A.push _).to e1
  refine at_step (v := .map (some h.size)) (h1 := h1) [(0, rowV rp0 p0.length), (6, .map (some h.size))] H (fun fr => by kernel_rfl) (fun fr => .of (s_n' (by kernel_rfl) (congrArg some e1.symm))) ?_
  intro fr t H
  refine at_seg [(1, [])] [(0, rowV rp0 p0.length), (3, .map (some h.size))] H (noU_all rfl) (fun fr => by kernel_rfl) ?_
  intro fr H
  refine at_nil ?_
  show AW cfg 46 g (right (right (bodyC cfg.P 46))) fr h1 _
  refine aw_seq (by kernel_rfl) ?_
  refine aw_seq (by kernel_rfl) ?_
  refine aw_reg (id := 2) (n := 3) [(0, []), (1, []), (2, [])] (by kernel_rfl) (by kernel_rfl) ?_
  refine at_seg [(0, []), (1, []), (2, [])] [(3, .map (some h.size)), (7, rowV rp0 p0.length), (8, .int .i64 (p0.length : Int)), (9, .int .i64 (0 : Int))] H (noU_all rfl) (fun fr => by kernel_rfl) ?_
  intro fr H
  refine at_nil ?_
  show AW cfg 46 g (right (left (right (right (bodyC cfg.P 46))))) fr h1 _
  refine aw_block (id := 0) (by kernel_rfl) ?_
  obtain ⟨o1, ho, hm⟩ := bind_some hm
  refine aw_mono (Q' := fun e fr' h' => (∃ (x3 : List ((List UInt8) × Int)), e = .exit 0 ∧ x3 = o1 ∧ Has fr' 20 [(3, .map (some h.size))] ∧ HH g h' [.obj h.size (.map 2 (encM (fun k : List UInt8 => .str k) (fun v : Int => .int .i64 v) x3)), .lst rp0 63 (lst e_S_api_Member p0)] F) ∨ False) ?_ ?_
  · refine aw_loop (by kernel_rfl) (fun (s : (List ((List UInt8) × Int)) × Int) fr' h' => ∃ (x1 : List ((List UInt8) × Int)) (x2 : Int), (x1, x2) = s ∧ Has fr' 20 [(3, .map (some h.size)), (7, rowV rp0 p0.length), (8, .int .i64 (p0.length : Int)), (9, .int .i64 x2)] ∧ HH g h' [.obj h.size (.map 2 (encM (fun k : List UInt8 => .str k) (fun v : Int => .int .i64 v) x1)), .lst rp0 63 (lst e_S_api_Member p0)] F) ho ⟨([] : List ((List UInt8) × Int)), (0 : Int), rfl, H.less _ (fun fr => by kernel_rfl), A⟩ ?_
    clear ho hm H A
    intro s q fr h2 hI hm
    obtain ⟨x1, x2, rfl, H, A⟩ := hI
    unfold M_delta_places_sO_L0 at hm
    refine aw_seq (by kernel_rfl) ?_
    refine aw_reg (id := 3) (n := 1) [(0, [])] (by kernel_rfl) (by kernel_rfl) ?_
    refine at_seg [(0, [])] [(3, .map (some h.size)), (7, rowV rp0 p0.length), (8, .int .i64 (p0.length : Int)), (9, .int .i64 x2), (10, .bool (decide (x2 < (p0.length : Int))))] H (noU_all rfl) (fun fr => by kernel_rfl) ?_
    intro fr H
    refine at_nil ?_
    show AW cfg 46 g (right (left (left (right (left (right (right (bodyC cfg.P 46)))))))) fr h2 _
    refine aw_seq (by kernel_rfl) ?_
    rcases iteB_some hm with ⟨hb, hm⟩ | ⟨hb, hm⟩
    · replace H := H.know 10 hb (by kernel_rfl)
      refine aw_true (x := .tmp 10) (by kernel_rfl) H (fun fr => by kernel_rfl) ?_
      refine aw_skip (by kernel_rfl) ?_
      show AW cfg 46 g (right (right (left (left (right (left (right (right (bodyC cfg.P 46))))))))) fr h2 _
      refine aw_seq (by kernel_rfl) ?_
      refine aw_block (id := 1) (by kernel_rfl) ?_
      refine aw_seq (by kernel_rfl) ?_
      refine aw_reg (id := 4) (n := 6) [(0, []), (1, []), (2, []), (3, []), (4, []), (5, [])] (by kernel_rfl) (by kernel_rfl) ?_
      refine at_seg [(0, [])] [(3, .map (some h.size)), (7, rowV rp0 p0.length), (8, .int .i64 (p0.length : Int)), (9, .int .i64 x2), (11, .int .i64 x2)] H (noU_all rfl) (fun fr => by kernel_rfl) ?_
      intro fr H
      obtain ⟨x4, hx, hm⟩ := bind_some hm
      obtain ⟨i1, er1, _, hx, hq1⟩ := HH.ixO enc_S_api_Member (by decide) A 1 (xs := p0) rfl hx
      refine at_step (v := .ptr (some (i1, x2.toNat * 14))) (h1 := h2) [(3, .map (some h.size)), (7, rowV rp0 p0.length), (8, .int .i64 (p0.length : Int)), (9, .int .i64 x2), (11, .int .i64 x2), (12, .ptr (some (i1, x2.toNat * 14)))] H (fun fr => by kernel_rfl) (fun fr => .of (s_ixL (s := rowS rp0 p0.length) (by kernel_rfl) hx)) ?_
      intro fr t H
      refine at_step (v := .agg (e_S_api_Member x4)) (h1 := h2) [(3, .map (some h.size)), (7, rowV rp0 p0.length), (8, .int .i64 (p0.length : Int)), (9, .int .i64 x2), (11, .int .i64 x2), (13, .agg (e_S_api_Member x4))] H (fun fr => by kernel_rfl) (fun fr => .of (s_ldA (by kernel_rfl) (row_ldA enc_S_api_Member (HH.row A 1 rfl er1) hq1 0 14 (Nat.le_of_ble_eq_true rfl)))) ?_
      intro fr t H
      obtain ⟨h3, e2⟩ : ∃ x, x = h2.push (.cells none 2 [.str ([] : List UInt8), .str ([] : List UInt8), .int .u8 (0 : Int), .int .i64 (0 : Int), .int .i64 (0 : Int), .int .i64 (0 : Int), .str ([] : List UInt8), .str ([] : List UInt8), .int .i64 (0 : Int), .int .i64 (0 : Int), .int .i64 (0 : Int), .int .i64 (0 : Int), .slice none 0, .str ([] : List UInt8)]) := ⟨_, rfl⟩
      replace A := (A.push _).to e2
      refine at_step (v := .ptr (some (h2.size, 0))) (h1 := h3) [(3, .map (some h.size)), (5, .ptr (some (h2.size, 0))), (7, rowV rp0 p0.length), (8, .int .i64 (p0.length : Int)), (9, .int .i64 x2), (11, .int .i64 x2), (13, .agg (e_S_api_Member x4))] H (fun fr => by kernel_rfl) (fun fr => .of (s_n' (by kernel_rfl) (congrArg some e2.symm))) ?_
      intro fr t H
      refine at_seg [(4, [])] [(3, .map (some h.size)), (4, .int .i64 x2), (5, .ptr (some (h2.size, 0))), (7, rowV rp0 p0.length), (8, .int .i64 (p0.length : Int)), (9, .int .i64 x2), (13, .agg (e_S_api_Member x4))] H (noU_all rfl) (fun fr => by kernel_rfl) ?_
      intro fr H
      obtain ⟨h4, hx, A1⟩ := A.st 0 rfl (o := 0) (new := [.str x4.Name, .str x4.Link, .int .u8 x4.Kind, .int .i64 x4.Mode, .int .i64 x4.Uid, .int .i64 x4.Gid, .str x4.Uname, .str x4.Gname, .int .i64 x4.Major, .int .i64 x4.Minor, .int .i64 x4.Time.Sec, .int .i64 x4.Time.Nsec, vs e_S_api_Pair x4.Extra, .str x4.Data]) (ds := [.str x4.Name, .str x4.Link, .int .u8 x4.Kind, .int .i64 x4.Mode, .int .i64 x4.Uid, .int .i64 x4.Gid, .str x4.Uname, .str x4.Gname, .int .i64 x4.Major, .int .i64 x4.Minor, .int .i64 x4.Time.Sec, .int .i64 x4.Time.Nsec, vs e_S_api_Pair x4.Extra, .str x4.Data]) (Nat.le_of_ble_eq_true rfl) rfl rfl
      replace A : HH g h4 [.obj h2.size (.cells none 2 (e_S_api_Member x4)), .obj h.size (.map 2 (encM (fun k : List UInt8 => .str k) (fun v : Int => .int .i64 v) x1)), .lst rp0 63 (lst e_S_api_Member p0)] F := A1
      refine at_step (v := .tuple []) (h1 := h4) [(3, .map (some h.size)), (4, .int .i64 x2), (5, .ptr (some (h2.size, 0))), (7, rowV rp0 p0.length), (8, .int .i64 (p0.length : Int)), (9, .int .i64 x2)] H (fun fr => by kernel_rfl) (fun fr => .of (s_stG (by kernel_rfl) (stG_st hx rfl))) ?_
      intro fr t H
      refine at_nil ?_
      show AW cfg 46 g (right (left (left (right (right (left (left (right (left (right (right (bodyC cfg.P 46)))))))))))) fr h4 _
      refine aw_reg (id := 5) (n := 5) [(0, []), (1, []), (2, []), (3, []), (4, [])] (by kernel_rfl) (by kernel_rfl) ?_
      refine at_seg [(0, []), (1, [])] [(3, .map (some h.size)), (4, .int .i64 x2), (7, rowV rp0 p0.length), (8, .int .i64 (p0.length : Int)), (9, .int .i64 x2), (14, .map (some h.size)), (15, .ptr (some (h2.size, 0)))] H (noU_all rfl) (fun fr => by kernel_rfl) ?_
      intro fr H
      refine at_step (v := .str x4.Name) (h1 := h4) [(3, .map (some h.size)), (4, .int .i64 x2), (7, rowV rp0 p0.length), (8, .int .i64 (p0.length : Int)), (9, .int .i64 x2), (14, .map (some h.size)), (16, .str x4.Name)] H (fun fr => by kernel_rfl) (fun fr => .of (s_ld (by kernel_rfl) (A.ld1 0 rfl (o := 0) rfl))) ?_
      intro fr t H
      refine at_seg [(3, [])] [(3, .map (some h.size)), (7, rowV rp0 p0.length), (8, .int .i64 (p0.length : Int)), (9, .int .i64 x2), (14, .map (some h.size)), (16, .str x4.Name), (17, .int .i64 x2)] H (noU_all rfl) (fun fr => by kernel_rfl) ?_
      intro fr H
      obtain ⟨h5, hx, A1⟩ := HH.mset (kt := 9) (et := 3) (ek := fun k : List UInt8 => .str k) (ev := fun v : Int => .int .i64 v) (keyS (by kernel_rfl)) A 1 rfl (t := 68) (by kernel_rfl) x4.Name x2
      replace A : HH g h5 [.obj h2.size (.cells none 2 (e_S_api_Member x4)), .obj h.size (.map 2 (encM (fun k : List UInt8 => .str k) (fun v : Int => .int .i64 v) (mput x1 x4.Name x2))), .lst rp0 63 (lst e_S_api_Member p0)] F := A1
      refine at_step (v := .tuple []) (h1 := h5) [(3, .map (some h.size)), (7, rowV rp0 p0.length), (8, .int .i64 (p0.length : Int)), (9, .int .i64 x2)] H (fun fr => by kernel_rfl) (fun fr => .of (s_ms (by kernel_rfl) hx)) ?_
      intro fr t H
      refine at_nil ?_
      show AW cfg 46 g (right (right (right (left (left (right (left (right (right (bodyC cfg.P 46)))))))))) fr h5 _
      refine aw_reg (id := 6) (n := 2) [(0, []), (1, [])] (by kernel_rfl) (by kernel_rfl) ?_
      refine at_seg [(0, []), (1, [])] [(3, .map (some h.size)), (7, rowV rp0 p0.length), (8, .int .i64 (p0.length : Int)), (9, .int .i64 (IntKind.i64.wrap (x2 + (1 : Int))))] H (noU_all rfl) (fun fr => by kernel_rfl) ?_
      intro fr H
      refine at_nil ?_
      replace A : HH g h5 [.obj h.size (.map 2 (encM (fun k : List UInt8 => .str k) (fun v : Int => .int .i64 v) (mput x1 x4.Name x2))), .lst rp0 63 (lst e_S_api_Member p0)] F := (HH.dropF ((A.front 2 rfl).front 2 rfl) 2)
      exact Exists.intro ((mput x1 x4.Name x2), IntKind.i64.wrap (x2 + (1 : Int))) (And.intro (Option.some.inj hm).symm ⟨(mput x1 x4.Name x2), IntKind.i64.wrap (x2 + (1 : Int)), rfl, H.less _ (fun fr => by kernel_rfl), A⟩)
    · replace H := H.know 10 hb (by kernel_rfl)
      refine aw_false (x := .tmp 10) (by kernel_rfl) H (fun fr => by kernel_rfl) ?_
      refine aw_exit (i := 0) (by kernel_rfl) ?_
      exact Exists.intro _ (And.intro (Option.some.inj hm).symm (fun e => Or.inl ⟨x1, rfl, e, H.less _ (fun fr => by kernel_rfl), A⟩))
  · clear ho
    clear A
    intro e fr h6 hQ
    rcases hQ with ⟨x3, rfl, rfl, H, A⟩ | hF
    · skip
      show AW cfg 46 g (right (right (right (bodyC cfg.P 46)))) fr h6 _
      refine aw_seq (by kernel_rfl) ?_
      refine aw_reg (id := 7) (n := 2) [(0, []), (1, [])] (by kernel_rfl) (by kernel_rfl) ?_
      refine at_seg [(0, []), (1, [])] [(2, .map (some h.size))] H (noU_all rfl) (fun fr => by kernel_rfl) ?_
      intro fr H
      refine at_nil ?_
      show AW cfg 46 g (right (right (right (right (bodyC cfg.P 46))))) fr h6 _
      refine aw_ret (by kernel_rfl) ?_
      have e1 := Option.some.inj hm
      subst e1
      refine ⟨.inl rfl, .map (some h.size), resH H (fun fr => by kernel_rfl), ?_⟩
      exact ⟨h.size, rfl, A⟩
    · exact hF.elim
/-! ### boulter/delta.kept -/
noncomputable def M_delta_kept_sOM_L0 (p0 : List S_api_Member) (p1 : List ((List UInt8) × Int)) (s : (List S_api_Member) × Int) : Option (((List S_api_Member) × Int) ⊕ (((List S_api_Member)))) :=
  match s with
  | (x1, x2) => iteB (decide (x2 < (p0.length : Int))) (((ixV p0 x2).bind fun x5 => iteB (((mfind p1 x5.Name).isSome) && (((mfind p1 x5.Name).getD (0 : Int)) == x2)) (need (okN 32 x5.Extra.length) <| need (okN 168 (x1.length + ([x5] : List S_api_Member).length)) <| some (x1 ++ ([x5] : List S_api_Member))) (some x1) : Option (((List S_api_Member)))).bind fun x4 => some (.inl (x4, IntKind.i64.wrap (x2 + (1 : Int))))) (some (.inr x1))
noncomputable def M_delta_kept_sOM (p0 : List S_api_Member) (p1 : List ((List UInt8) × Int)) : Option ((List S_api_Member)) :=
 (loop (M_delta_kept_sOM_L0 p0 p1) (([] : List S_api_Member), (0 : Int))).bind fun x3 => some x3
theorem ok_delta_kept_sOM {g : Gd} {h : AHeap} {F : List Ck} {p0 : List S_api_Member} {p1 : List ((List UInt8) × Int)} {rp0 : Option Nat} {bp1 : Nat} {q0 : List S_api_Member} {av : List AVal} (hm : M_delta_kept_sOM p0 p1 = some q0) (hc : canL (cfg.still 45) av = [rowV rp0 p0.length, .map (some bp1)]) (A : HH g h [.lst rp0 63 (lst e_S_api_Member p0), .obj bp1 (.map 2 (encM (fun k : List UInt8 => .str k) (fun v : Int => .int .i64 v) p1))] F) : ∃ v h', Runs cfg g h 45 av v h' ∧ ∃ (rq0 : Option Nat), v = rowV rq0 q0.length ∧ HH g h' [.lst rq0 63 (lst e_S_api_Member q0), .lst rp0 63 (lst e_S_api_Member p0), .obj bp1 (.map 2 (encM (fun k : List UInt8 => .str k) (fun v : Int => .int .i64 v) p1))] F := by
  refine runsQ1 (n := 40) (rs := [.tmp 4]) (by kernel_rfl) hc (by kernel_rfl) ?_
  clear hc
  unfold M_delta_kept_sOM at hm
  refine start (n := 40) [(0, rowV rp0 p0.length), (1, .map (some bp1))] (by kernel_rfl) (by kernel_rfl) ?_
  intro fr H
  refine aw_seq (by kernel_rfl) ?_
  refine aw_reg (id := 0) (n := 1) [(0, [])] (by kernel_rfl) (by kernel_rfl) ?_
  refine at_seg [(0, [])] [(0, rowV rp0 p0.length), (1, .map (some bp1))] H (noU_all rfl) (fun fr => by kernel_rfl) ?_
  intro fr H
  refine at_nil ?_
  show AW cfg 45 g (right (bodyC cfg.P 45)) fr h _
  refine aw_seq (by kernel_rfl) ?_
  refine aw_reg (id := 1) (n := 1) [(0, [])] (by kernel_rfl) (by kernel_rfl) ?_
  refine at_seg [(0, [])] [(0, rowV rp0 p0.length), (1, .map (some bp1)), (5, .slice none 0)] H (noU_all rfl) (fun fr => by kernel_rfl) ?_
  intro fr H
  refine at_nil ?_
  show AW cfg 45 g (right (right (bodyC cfg.P 45))) fr h _
  refine aw_seq (by kernel_rfl) ?_
  refine aw_seq (by kernel_rfl) ?_
  refine aw_reg (id := 2) (n := 3) [(0, []), (1, []), (2, [])] (by kernel_rfl) (by kernel_rfl) ?_
  refine at_seg [(0, []), (1, []), (2, [])] [(1, .map (some bp1)), (5, .slice none 0), (10, rowV rp0 p0.length), (11, .int .i64 (p0.length : Int)), (12, .int .i64 (0 : Int))] H (noU_all rfl) (fun fr => by kernel_rfl) ?_
  intro fr H
  refine at_nil ?_
  show AW cfg 45 g (right (left (right (right (bodyC cfg.P 45))))) fr h _
  refine aw_block (id := 0) (by kernel_rfl) ?_
  replace A : HH g h [.lst none 63 (lst e_S_api_Member ([] : List S_api_Member)), .lst rp0 63 (lst e_S_api_Member p0), .obj bp1 (.map 2 (encM (fun k : List UInt8 => .str k) (fun v : Int => .int .i64 v) p1))] F := A.nilL 63
  obtain ⟨o1, ho, hm⟩ := bind_some hm
  refine aw_mono (Q' := fun e fr' h' => (∃ (x3 : List S_api_Member), e = .exit 0 ∧ x3 = o1 ∧ ∃ (r2 : Option Nat), Has fr' 40 [(5, rowV r2 x3.length)] ∧ HH g h' [.lst r2 63 (lst e_S_api_Member x3), .lst rp0 63 (lst e_S_api_Member p0), .obj bp1 (.map 2 (encM (fun k : List UInt8 => .str k) (fun v : Int => .int .i64 v) p1))] F) ∨ False) ?_ ?_
  · refine aw_loop (by kernel_rfl) (fun (s : (List S_api_Member) × Int) fr' h' => ∃ (x1 : List S_api_Member) (x2 : Int), (x1, x2) = s ∧ ∃ (r1 : Option Nat), Has fr' 40 [(1, .map (some bp1)), (5, rowV r1 x1.length), (10, rowV rp0 p0.length), (11, .int .i64 (p0.length : Int)), (12, .int .i64 x2)] ∧ HH g h' [.lst r1 63 (lst e_S_api_Member x1), .lst rp0 63 (lst e_S_api_Member p0), .obj bp1 (.map 2 (encM (fun k : List UInt8 => .str k) (fun v : Int => .int .i64 v) p1))] F) ho ⟨([] : List S_api_Member), (0 : Int), rfl, none, H.less _ (fun fr => by kernel_rfl), A⟩ ?_
    clear ho hm H A
    intro s q fr h1 hI hm
    obtain ⟨x1, x2, rfl, r1, H, A⟩ := hI
    unfold M_delta_kept_sOM_L0 at hm
    refine aw_seq (by kernel_rfl) ?_
    refine aw_reg (id := 3) (n := 1) [(0, [])] (by kernel_rfl) (by kernel_rfl) ?_
    refine at_seg [(0, [])] [(1, .map (some bp1)), (5, rowV r1 x1.length), (10, rowV rp0 p0.length), (11, .int .i64 (p0.length : Int)), (12, .int .i64 x2), (13, .bool (decide (x2 < (p0.length : Int))))] H (noU_all rfl) (fun fr => by kernel_rfl) ?_
    intro fr H
    refine at_nil ?_
    show AW cfg 45 g (right (left (left (right (left (right (right (bodyC cfg.P 45)))))))) fr h1 _
    refine aw_seq (by kernel_rfl) ?_
    rcases iteB_some hm with ⟨hb, hm⟩ | ⟨hb, hm⟩
    · replace H := H.know 13 hb (by kernel_rfl)
      refine aw_true (x := .tmp 13) (by kernel_rfl) H (fun fr => by kernel_rfl) ?_
      refine aw_skip (by kernel_rfl) ?_
      show AW cfg 45 g (right (right (left (left (right (left (right (right (bodyC cfg.P 45))))))))) fr h1 _
      refine aw_seq (by kernel_rfl) ?_
      obtain ⟨o2, ho, hm⟩ := bind_some hm
      refine aw_mono (Q' := fun e fr' h' => (∃ (x4 : List S_api_Member), e = .normal ∧ x4 = o2 ∧ ∃ (r3 : Option Nat), Has fr' 40 [(1, .map (some bp1)), (5, rowV r3 x4.length), (10, rowV rp0 p0.length), (11, .int .i64 (p0.length : Int)), (12, .int .i64 x2)] ∧ HH g h' [.lst r3 63 (lst e_S_api_Member x4), .lst rp0 63 (lst e_S_api_Member p0), .obj bp1 (.map 2 (encM (fun k : List UInt8 => .str k) (fun v : Int => .int .i64 v) p1))] F) ∨ False) ?_ ?_
      · replace hm := ho
        clear ho
        refine aw_block (id := 1) (by kernel_rfl) ?_
        refine aw_seq (by kernel_rfl) ?_
        refine aw_reg (id := 4) (n := 6) [(0, []), (1, []), (2, []), (3, []), (4, []), (5, [])] (by kernel_rfl) (by kernel_rfl) ?_
        refine at_seg [(0, [])] [(1, .map (some bp1)), (5, rowV r1 x1.length), (10, rowV rp0 p0.length), (11, .int .i64 (p0.length : Int)), (12, .int .i64 x2), (14, .int .i64 x2)] H (noU_all rfl) (fun fr => by kernel_rfl) ?_
        intro fr H
        obtain ⟨x5, hx, hm⟩ := bind_some hm
        obtain ⟨i1, er1, _, hx, hq1⟩ := HH.ixO enc_S_api_Member (by decide) A 1 (xs := p0) rfl hx
        refine at_step (v := .ptr (some (i1, x2.toNat * 14))) (h1 := h1) [(1, .map (some bp1)), (5, rowV r1 x1.length), (10, rowV rp0 p0.length), (11, .int .i64 (p0.length : Int)), (12, .int .i64 x2), (14, .int .i64 x2), (15, .ptr (some (i1, x2.toNat * 14)))] H (fun fr => by kernel_rfl) (fun fr => .of (s_ixL (s := rowS rp0 p0.length) (by kernel_rfl) hx)) ?_
        intro fr t H
        refine at_step (v := .agg (e_S_api_Member x5)) (h1 := h1) [(1, .map (some bp1)), (5, rowV r1 x1.length), (10, rowV rp0 p0.length), (11, .int .i64 (p0.length : Int)), (12, .int .i64 x2), (14, .int .i64 x2), (16, .agg (e_S_api_Member x5))] H (fun fr => by kernel_rfl) (fun fr => .of (s_ldA (by kernel_rfl) (row_ldA enc_S_api_Member (HH.row A 1 rfl er1) hq1 0 14 (Nat.le_of_ble_eq_true rfl)))) ?_
        intro fr t H
        obtain ⟨h2, e1⟩ : ∃ x, x = h1.push (.cells none 2 [.str ([] : List UInt8), .str ([] : List UInt8), .int .u8 (0 : Int), .int .i64 (0 : Int), .int .i64 (0 : Int), .int .i64 (0 : Int), .str ([] : List UInt8), .str ([] : List UInt8), .int .i64 (0 : Int), .int .i64 (0 : Int), .int .i64 (0 : Int), .int .i64 (0 : Int), .slice none 0, .str ([] : List UInt8)]) := ⟨_, rfl⟩
        replace A := (A.push _).to e1
        refine at_step (v := .ptr (some (h1.size, 0))) (h1 := h2) [(1, .map (some bp1)), (5, rowV r1 x1.length), (7, .ptr (some (h1.size, 0))), (10, rowV rp0 p0.length), (11, .int .i64 (p0.length : Int)), (12, .int .i64 x2), (14, .int .i64 x2), (16, .agg (e_S_api_Member x5))] H (fun fr => by kernel_rfl) (fun fr => .of (s_n' (by kernel_rfl) (congrArg some e1.symm))) ?_
        intro fr t H
        refine at_seg [(4, [])] [(1, .map (some bp1)), (5, rowV r1 x1.length), (6, .int .i64 x2), (7, .ptr (some (h1.size, 0))), (10, rowV rp0 p0.length), (11, .int .i64 (p0.length : Int)), (12, .int .i64 x2), (16, .agg (e_S_api_Member x5))] H (noU_all rfl) (fun fr => by kernel_rfl) ?_
        intro fr H
        obtain ⟨h3, hx, A1⟩ := A.st 0 rfl (o := 0) (new := [.str x5.Name, .str x5.Link, .int .u8 x5.Kind, .int .i64 x5.Mode, .int .i64 x5.Uid, .int .i64 x5.Gid, .str x5.Uname, .str x5.Gname, .int .i64 x5.Major, .int .i64 x5.Minor, .int .i64 x5.Time.Sec, .int .i64 x5.Time.Nsec, vs e_S_api_Pair x5.Extra, .str x5.Data]) (ds := [.str x5.Name, .str x5.Link, .int .u8 x5.Kind, .int .i64 x5.Mode, .int .i64 x5.Uid, .int .i64 x5.Gid, .str x5.Uname, .str x5.Gname, .int .i64 x5.Major, .int .i64 x5.Minor, .int .i64 x5.Time.Sec, .int .i64 x5.Time.Nsec, vs e_S_api_Pair x5.Extra, .str x5.Data]) (Nat.le_of_ble_eq_true rfl) rfl rfl
        replace A : HH g h3 [.obj h1.size (.cells none 2 (e_S_api_Member x5)), .lst r1 63 (lst e_S_api_Member x1), .lst rp0 63 (lst e_S_api_Member p0), .obj bp1 (.map 2 (encM (fun k : List UInt8 => .str k) (fun v : Int => .int .i64 v) p1))] F := A1
        refine at_step (v := .tuple []) (h1 := h3) [(1, .map (some bp1)), (5, rowV r1 x1.length), (6, .int .i64 x2), (7, .ptr (some (h1.size, 0))), (10, rowV rp0 p0.length), (11, .int .i64 (p0.length : Int)), (12, .int .i64 x2)] H (fun fr => by kernel_rfl) (fun fr => .of (s_stG (by kernel_rfl) (stG_st hx rfl))) ?_
        intro fr t H
        refine at_nil ?_
        show AW cfg 45 g (right (left (left (right (right (left (left (right (left (right (right (bodyC cfg.P 45)))))))))))) fr h3 _
        refine aw_seq (by kernel_rfl) ?_
        refine aw_reg (id := 5) (n := 9) [(0, []), (1, []), (2, []), (3, []), (4, []), (5, []), (6, []), (7, []), (8, [])] (by kernel_rfl) (by kernel_rfl) ?_
        refine at_seg [(0, []), (1, [])] [(1, .map (some bp1)), (5, rowV r1 x1.length), (6, .int .i64 x2), (7, .ptr (some (h1.size, 0))), (10, rowV rp0 p0.length), (11, .int .i64 (p0.length : Int)), (12, .int .i64 x2), (18, .map (some bp1)), (19, .ptr (some (h1.size, 0)))] H (noU_all rfl) (fun fr => by kernel_rfl) ?_
        intro fr H
        refine at_step (v := .str x5.Name) (h1 := h3) [(1, .map (some bp1)), (5, rowV r1 x1.length), (6, .int .i64 x2), (7, .ptr (some (h1.size, 0))), (10, rowV rp0 p0.length), (11, .int .i64 (p0.length : Int)), (12, .int .i64 x2), (18, .map (some bp1)), (20, .str x5.Name)] H (fun fr => by kernel_rfl) (fun fr => .of (s_ld (by kernel_rfl) (A.ld1 0 rfl (o := 0) rfl))) ?_
        intro fr t H
        refine at_step (v := .tuple [.int .i64 ((mfind p1 x5.Name).getD (0 : Int)), .bool ((mfind p1 x5.Name).isSome)]) (h1 := h3) [(1, .map (some bp1)), (5, rowV r1 x1.length), (6, .int .i64 x2), (7, .ptr (some (h1.size, 0))), (10, rowV rp0 p0.length), (11, .int .i64 (p0.length : Int)), (12, .int .i64 x2), (21, .tuple [.int .i64 ((mfind p1 x5.Name).getD (0 : Int)), .bool ((mfind p1 x5.Name).isSome)])] H (fun fr => by kernel_rfl) (fun fr => .of (s_lkT (by kernel_rfl) (HH.mlook (kt := 9) (et := 3) (ek := fun k : List UInt8 => .str k) (ev := fun v : Int => .int .i64 v) (keyS (by kernel_rfl)) A 3 rfl (t := 68) (by kernel_rfl) (z := (0 : Int)) (by kernel_rfl) x5.Name))) ?_
        intro fr t H
        refine at_seg [(4, []), (5, []), (6, []), (7, []), (8, [])] [(1, .map (some bp1)), (5, rowV r1 x1.length), (6, .int .i64 x2), (7, .ptr (some (h1.size, 0))), (8, .int .i64 ((mfind p1 x5.Name).getD (0 : Int))), (9, .bool ((mfind p1 x5.Name).isSome)), (10, rowV rp0 p0.length), (11, .int .i64 (p0.length : Int)), (12, .int .i64 x2)] H (noU_all rfl) (fun fr => by kernel_rfl) ?_
        intro fr H
        refine at_nil ?_
        show AW cfg 45 g (right (right (left (left (right (right (left (left (right (left (right (right (bodyC cfg.P 45))))))))))))) fr h3 _
        refine aw_seq (by kernel_rfl) ?_
        refine aw_reg (id := 6) (n := 6) [(0, []), (1, []), (2, []), (3, []), (4, []), (5, [])] (by kernel_rfl) (by kernel_rfl) ?_
        refine at_seg [(0, []), (1, [])] [(1, .map (some bp1)), (5, rowV r1 x1.length), (6, .int .i64 x2), (7, .ptr (some (h1.size, 0))), (8, .int .i64 ((mfind p1 x5.Name).getD (0 : Int))), (10, rowV rp0 p0.length), (11, .int .i64 (p0.length : Int)), (12, .int .i64 x2), (25, .bool ((mfind p1 x5.Name).isSome))] H (noU_all rfl) (fun fr => by kernel_rfl) ?_
        intro fr H
        refine at_cut [(2, []), (3, []), (4, []), (5, [])] (fun fr' h' => h3 = h' ∧ Has fr' 40 [(1, .map (some bp1)), (5, rowV r1 x1.length), (7, .ptr (some (h1.size, 0))), (10, rowV rp0 p0.length), (11, .int .i64 (p0.length : Int)), (12, .int .i64 x2), (29, .bool (((mfind p1 x5.Name).isSome) && (((mfind p1 x5.Name).getD (0 : Int)) == x2)))]) ?_ ?_
        · cases hb : ((mfind p1 x5.Name).isSome : Bool) with
          | true =>
            replace H := H.know 25 hb (by kernel_rfl)
            refine at_seg [(2, []), (3, []), (4, []), (5, [])] [(1, .map (some bp1)), (5, rowV r1 x1.length), (7, .ptr (some (h1.size, 0))), (10, rowV rp0 p0.length), (11, .int .i64 (p0.length : Int)), (12, .int .i64 x2), (29, .bool (((mfind p1 x5.Name).getD (0 : Int)) == x2))] H (noU_all rfl) (fun fr => by kernel_rfl) ?_
            intro fr H
            exact at_nil ⟨rfl, by first | exact H.less _ (fun fr => by rfl) | exact H.less _ (fun fr => by rw [hb]; rfl)⟩
          | false =>
            replace H := H.know 25 hb (by kernel_rfl)
            refine at_seg [(2, []), (3, []), (4, []), (5, [])] [(1, .map (some bp1)), (5, rowV r1 x1.length), (7, .ptr (some (h1.size, 0))), (10, rowV rp0 p0.length), (11, .int .i64 (p0.length : Int)), (12, .int .i64 x2), (29, .bool false)] H (noU_all rfl) (fun fr => by kernel_rfl) ?_
            intro fr H
            exact at_nil ⟨rfl, by first | exact H.less _ (fun fr => by rfl) | exact H.less _ (fun fr => by rw [hb]; rfl)⟩
        · intro t fr h' hK
          obtain ⟨e, H⟩ := hK
          subst e
          refine at_nil ?_
          show AW cfg 45 g (right (right (right (left (left (right (right (left (left (right (left (right (right (bodyC cfg.P 45)))))))))))))) fr h3 _
          rcases iteB_some hm with ⟨hb, hm⟩ | ⟨hb, hm⟩
          · replace H := H.know 29 hb (by kernel_rfl)
            refine aw_true (x := .tmp 29) (by kernel_rfl) H (fun fr => by kernel_rfl) ?_
            refine aw_seq (by kernel_rfl) ?_
            refine aw_reg (id := 7) (n := 5) [(0, []), (1, []), (2, []), (3, []), (4, [])] (by kernel_rfl) (by kernel_rfl) ?_
            refine at_seg [(0, [])] [(1, .map (some bp1)), (5, rowV r1 x1.length), (7, .ptr (some (h1.size, 0))), (10, rowV rp0 p0.length), (11, .int .i64 (p0.length : Int)), (12, .int .i64 x2), (30, .ptr (some (h1.size, 12)))] H (noU_all rfl) (fun fr => by kernel_rfl) ?_
            intro fr H
            refine at_step (v := vs e_S_api_Pair x5.Extra) (h1 := h3) [(1, .map (some bp1)), (5, rowV r1 x1.length), (7, .ptr (some (h1.size, 0))), (10, rowV rp0 p0.length), (11, .int .i64 (p0.length : Int)), (12, .int .i64 x2), (31, vs e_S_api_Pair x5.Extra)] H (fun fr => by kernel_rfl) (fun fr => .of (s_ld (by kernel_rfl) (A.ld1 0 rfl (o := 12) rfl))) ?_
            intro fr t H
            have A1 := A.cut 0
            obtain ⟨hb, hm⟩ := need_some hm
            refine at_step (v := vs e_S_api_Pair x5.Extra) (h1 := h3) [(1, .map (some bp1)), (5, rowV r1 x1.length), (7, .ptr (some (h1.size, 0))), (10, rowV rp0 p0.length), (11, .int .i64 (p0.length : Int)), (12, .int .i64 x2), (32, vs e_S_api_Pair x5.Extra)] H (fun fr => by kernel_rfl) (fun fr => Steps.call (by kernel_rfl) (runsCloneF (C := cfg) (f := 67) (a := 0) (t := 88) (xs := x5.Extra) enc_S_api_Pair (by decide) (by kernel_rfl) (l := exts) rfl (by kernel_rfl) (by kernel_rfl) rfl (firstV enc_S_api_Pair _ x5.Extra) (enc_S_api_Pair.canL _) hb)) ?_
            intro fr t H
            refine at_seg [(3, [])] [(1, .map (some bp1)), (5, rowV r1 x1.length), (7, .ptr (some (h1.size, 0))), (10, rowV rp0 p0.length), (11, .int .i64 (p0.length : Int)), (12, .int .i64 x2), (32, vs e_S_api_Pair x5.Extra), (33, .ptr (some (h1.size, 12)))] H (noU_all rfl) (fun fr => by kernel_rfl) ?_
            intro fr H
            obtain ⟨h5, hx, A1⟩ := A.st 0 rfl (o := 12) (new := [vs e_S_api_Pair x5.Extra]) (ds := [.str x5.Name, .str x5.Link, .int .u8 x5.Kind, .int .i64 x5.Mode, .int .i64 x5.Uid, .int .i64 x5.Gid, .str x5.Uname, .str x5.Gname, .int .i64 x5.Major, .int .i64 x5.Minor, .int .i64 x5.Time.Sec, .int .i64 x5.Time.Nsec, vs e_S_api_Pair x5.Extra, .str x5.Data]) (Nat.le_of_ble_eq_true rfl) rfl rfl
            replace A : HH g h5 [.obj h1.size (.cells none 2 (e_S_api_Member x5)), .lst r1 63 (lst e_S_api_Member x1), .lst rp0 63 (lst e_S_api_Member p0), .obj bp1 (.map 2 (encM (fun k : List UInt8 => .str k) (fun v : Int => .int .i64 v) p1))] F := A1
            refine at_step (v := .tuple []) (h1 := h5) [(1, .map (some bp1)), (5, rowV r1 x1.length), (7, .ptr (some (h1.size, 0))), (10, rowV rp0 p0.length), (11, .int .i64 (p0.length : Int)), (12, .int .i64 x2)] H (fun fr => by kernel_rfl) (fun fr => .of (s_st (by kernel_rfl) rfl hx)) ?_
            intro fr t H
            refine at_nil ?_
            show AW cfg 45 g (right (left (right (right (right (left (left (right (right (left (left (right (left (right (right (bodyC cfg.P 45)))))))))))))))) fr h5 _
            refine aw_reg (id := 8) (n := 5) [(0, []), (1, []), (2, []), (3, []), (4, [])] (by kernel_rfl) (by kernel_rfl) ?_
            refine at_seg [(0, [])] [(1, .map (some bp1)), (7, .ptr (some (h1.size, 0))), (10, rowV rp0 p0.length), (11, .int .i64 (p0.length : Int)), (12, .int .i64 x2), (34, rowV r1 x1.length)] H (noU_all rfl) (fun fr => by kernel_rfl) ?_
            intro fr H
            refine at_step (v := .agg (e_S_api_Member x5)) (h1 := h5) [(1, .map (some bp1)), (10, rowV rp0 p0.length), (11, .int .i64 (p0.length : Int)), (12, .int .i64 x2), (34, rowV r1 x1.length), (35, .agg (e_S_api_Member x5))] H (fun fr => by kernel_rfl) (fun fr => .of (s_ldA (by kernel_rfl) (A.ldA 0 rfl (o := 0) (n := 14) ⟨Nat.le_of_ble_eq_true rfl, rfl⟩))) ?_
            intro fr t H
            obtain ⟨h6, e2⟩ : ∃ x, x = h5.push (.cells (some 63) 2 [.str x5.Name, .str x5.Link, .int .u8 x5.Kind, .int .i64 x5.Mode, .int .i64 x5.Uid, .int .i64 x5.Gid, .str x5.Uname, .str x5.Gname, .int .i64 x5.Major, .int .i64 x5.Minor, .int .i64 x5.Time.Sec, .int .i64 x5.Time.Nsec, vs e_S_api_Pair x5.Extra, .str x5.Data]) := ⟨_, rfl⟩
            replace A := (A.pushL _ _).to e2
            refine at_step (v := rowV (some h5.size) (([x5] : List S_api_Member).length)) (h1 := h6) [(1, .map (some bp1)), (10, rowV rp0 p0.length), (11, .int .i64 (p0.length : Int)), (12, .int .i64 x2), (34, rowV r1 x1.length), (36, rowV (some h5.size) (([x5] : List S_api_Member).length))] H (fun fr => by kernel_rfl) (fun fr => .of (s_n' (by kernel_rfl) (congrArg some e2.symm))) ?_
            intro fr t H
            obtain ⟨hb, hm⟩ := need_some hm
            obtain ⟨r5, h7, hx, A1⟩ := HH.appO enc_S_api_Member (by decide) A 2 (xs := x1) (ys := ([x5] : List S_api_Member)) rfl (row_first A 0 rfl (n := ([x5] : List S_api_Member).length) (z := 14) rfl (by decide)) rfl rfl hb
            replace A : HH g h7 [.lst (some h5.size) 63 ([.str x5.Name, .str x5.Link, .int .u8 x5.Kind, .int .i64 x5.Mode, .int .i64 x5.Uid, .int .i64 x5.Gid, .str x5.Uname, .str x5.Gname, .int .i64 x5.Major, .int .i64 x5.Minor, .int .i64 x5.Time.Sec, .int .i64 x5.Time.Nsec, vs e_S_api_Pair x5.Extra, .str x5.Data]), .obj h1.size (.cells none 2 (e_S_api_Member x5)), .lst r5 63 (lst e_S_api_Member (x1 ++ ([x5] : List S_api_Member))), .lst rp0 63 (lst e_S_api_Member p0), .obj bp1 (.map 2 (encM (fun k : List UInt8 => .str k) (fun v : Int => .int .i64 v) p1))] F := A1
            replace A : HH g h7 [.obj h1.size (.cells none 2 (e_S_api_Member x5)), .lst r5 63 (lst e_S_api_Member (x1 ++ ([x5] : List S_api_Member))), .lst rp0 63 (lst e_S_api_Member p0), .obj bp1 (.map 2 (encM (fun k : List UInt8 => .str k) (fun v : Int => .int .i64 v) p1))] F := (HH.dropF ((((A.front 4 rfl).front 4 rfl).front 4 rfl).front 4 rfl) 4)
            refine at_step (v := rowV r5 ((x1 ++ ([x5] : List S_api_Member)).length)) (h1 := h7) [(1, .map (some bp1)), (10, rowV rp0 p0.length), (11, .int .i64 (p0.length : Int)), (12, .int .i64 x2), (37, rowV r5 ((x1 ++ ([x5] : List S_api_Member)).length))] H (fun fr => by kernel_rfl) (fun fr => .of (s_app (s := rowS r1 x1.length) (by kernel_rfl) hx)) ?_
            intro fr t H
            refine at_seg [(4, [])] [(1, .map (some bp1)), (5, rowV r5 ((x1 ++ ([x5] : List S_api_Member)).length)), (10, rowV rp0 p0.length), (11, .int .i64 (p0.length : Int)), (12, .int .i64 x2)] H (noU_all rfl) (fun fr => by kernel_rfl) ?_
            intro fr H
            refine at_nil ?_
            replace A : HH g h7 [.lst r5 63 (lst e_S_api_Member (x1 ++ ([x5] : List S_api_Member))), .lst rp0 63 (lst e_S_api_Member p0), .obj bp1 (.map 2 (encM (fun k : List UInt8 => .str k) (fun v : Int => .int .i64 v) p1))] F := (HH.dropF (((A.front 3 rfl).front 3 rfl).front 3 rfl) 3)
            exact Or.inl ⟨(x1 ++ ([x5] : List S_api_Member)), rfl, Option.some.inj hm, r5, H.less _ (fun fr => by kernel_rfl), A⟩
          · replace H := H.know 29 hb (by kernel_rfl)
            refine aw_false (x := .tmp 29) (by kernel_rfl) H (fun fr => by kernel_rfl) ?_
            refine aw_skip (by kernel_rfl) ?_
            replace A : HH g h3 [.lst r1 63 (lst e_S_api_Member x1), .lst rp0 63 (lst e_S_api_Member p0), .obj bp1 (.map 2 (encM (fun k : List UInt8 => .str k) (fun v : Int => .int .i64 v) p1))] F := (HH.dropF (((A.front 3 rfl).front 3 rfl).front 3 rfl) 3)
            exact Or.inl ⟨x1, rfl, Option.some.inj hm, r1, H.less _ (fun fr => by kernel_rfl), A⟩
      · clear ho
        clear A
        intro e fr h8 hQ
        rcases hQ with ⟨x4, rfl, rfl, r3, H, A⟩ | hF
        · skip
          show AW cfg 45 g (right (right (right (left (left (right (left (right (right (bodyC cfg.P 45)))))))))) fr h8 _
          refine aw_reg (id := 9) (n := 2) [(0, []), (1, [])] (by kernel_rfl) (by kernel_rfl) ?_
          refine at_seg [(0, []), (1, [])] [(1, .map (some bp1)), (5, rowV r3 x4.length), (10, rowV rp0 p0.length), (11, .int .i64 (p0.length : Int)), (12, .int .i64 (IntKind.i64.wrap (x2 + (1 : Int))))] H (noU_all rfl) (fun fr => by kernel_rfl) ?_
          intro fr H
          refine at_nil ?_
          exact Exists.intro (x4, IntKind.i64.wrap (x2 + (1 : Int))) (And.intro (Option.some.inj hm).symm ⟨x4, IntKind.i64.wrap (x2 + (1 : Int)), rfl, r3, H.less _ (fun fr => by kernel_rfl), A⟩)
        · exact hF.elim
    · replace H := H.know 13 hb (by kernel_rfl)
      refine aw_false (x := .tmp 13) (by kernel_rfl) H (fun fr => by kernel_rfl) ?_
      refine aw_exit (i := 0) (by kernel_rfl) ?_
      exact Exists.intro _ (And.intro (Option.some.inj hm).symm (fun e => Or.inl ⟨x1, rfl, e, r1, H.less _ (fun fr => by kernel_rfl), A⟩))
  · clear ho
    clear A
    intro e fr h9 hQ
    rcases hQ with ⟨x3, rfl, rfl, r2, H, A⟩ | hF
    · skip
      show AW cfg 45 g (right (right (right (bodyC cfg.P 45)))) fr h9 _
      refine aw_seq (by kernel_rfl) ?_
      refine aw_reg (id := 10) (n := 2) [(0, []), (1, [])] (by kernel_rfl) (by kernel_rfl) ?_
      refine at_seg [(0, []), (1, [])] [(4, rowV r2 x3.length)] H (noU_all rfl) (fun fr => by kernel_rfl) ?_
      intro fr H
      refine at_nil ?_
      show AW cfg 45 g (right (right (right (right (bodyC cfg.P 45))))) fr h9 _
      refine aw_ret (by kernel_rfl) ?_
      have e1 := Option.some.inj hm
      subst e1
      refine ⟨.inl rfl, rowV r2 x3.length, resH H (fun fr => by kernel_rfl), ?_⟩
      exact ⟨r2, rfl, A⟩
    · exact hF.elim
/-! ### boulter/delta.Last -/
noncomputable def M_delta_Last_sO (p0 : List S_api_Member) : Option ((List S_api_Member)) :=
 (M_delta_places_sO p0).bind fun x1 => (M_delta_kept_sOM p0 x1).bind fun x2 => some x2
theorem ok_delta_Last_sO {g : Gd} {h : AHeap} {F : List Ck} {p0 : List S_api_Member} {rp0 : Option Nat} {q0 : List S_api_Member} {av : List AVal} (hm : M_delta_Last_sO p0 = some q0) (hc : canL (cfg.still 23) av = [rowV rp0 p0.length]) (A : HH g h [.lst rp0 63 (lst e_S_api_Member p0)] F) : ∃ v h', Runs cfg g h 23 av v h' ∧ ∃ (rq0 : Option Nat), v = rowV rq0 q0.length ∧ HH g h' [.lst rq0 63 (lst e_S_api_Member q0), .lst rp0 63 (lst e_S_api_Member p0)] F := by
  refine runsQ1 (n := 7) (rs := [.tmp 2]) (by kernel_rfl) hc (by kernel_rfl) ?_
  clear hc
  unfold M_delta_Last_sO at hm
  refine start (n := 7) [(0, rowV rp0 p0.length)] (by kernel_rfl) (by kernel_rfl) ?_
  intro fr H
  refine aw_seq (by kernel_rfl) ?_
  refine aw_reg (id := 0) (n := 1) [(0, [])] (by kernel_rfl) (by kernel_rfl) ?_
  refine at_seg [(0, [])] [(0, rowV rp0 p0.length)] H (noU_all rfl) (fun fr => by kernel_rfl) ?_
  intro fr H
  refine at_nil ?_
  show AW cfg 23 g (right (bodyC cfg.P 23)) fr h _
  refine aw_seq (by kernel_rfl) ?_
  refine aw_reg (id := 1) (n := 5) [(0, []), (1, []), (2, []), (3, []), (4, [])] (by kernel_rfl) (by kernel_rfl) ?_
  refine at_seg [(0, []), (1, [])] [(3, rowV rp0 p0.length), (4, rowV rp0 p0.length)] H (noU_all rfl) (fun fr => by kernel_rfl) ?_
  intro fr H
  have A1 := A.cut 1
  obtain ⟨x1, hx, hm⟩ := bind_some hm
  obtain ⟨v1, h1, hr, bqw1, rfl, A1⟩ := ok_delta_places_sO (av := [rowV rp0 p0.length]) hx (by kernel_rfl) A1
  replace A : HH g h1 [.obj bqw1 (.map 2 (encM (fun k : List UInt8 => .str k) (fun v : Int => .int .i64 v) x1)), .lst rp0 63 (lst e_S_api_Member p0)] F := A.glue0 (n := 1) A1
  refine at_step (v := .map (some bqw1)) (h1 := h1) [(3, rowV rp0 p0.length), (5, .map (some bqw1))] H (fun fr => by kernel_rfl) (fun fr => Steps.call (by kernel_rfl) hr) ?_
  intro fr t H
  replace A : HH g h1 [.lst rp0 63 (lst e_S_api_Member p0), .obj bqw1 (.map 2 (encM (fun k : List UInt8 => .str k) (fun v : Int => .int .i64 v) x1))] F := ((A.front 0 rfl).front 1 rfl)
  have A1 := A.cut 2
  obtain ⟨x2, hx, hm⟩ := bind_some hm
  obtain ⟨v1, h2, hr, rqw2, rfl, A1⟩ := ok_delta_kept_sOM (av := [rowV rp0 p0.length, .map (some bqw1)]) hx (by kernel_rfl) A1
  replace A : HH g h2 [.lst rqw2 63 (lst e_S_api_Member x2), .lst rp0 63 (lst e_S_api_Member p0), .obj bqw1 (.map 2 (encM (fun k : List UInt8 => .str k) (fun v : Int => .int .i64 v) x1))] F := A.glue0 (n := 2) A1
  refine at_step (v := rowV rqw2 x2.length) (h1 := h2) [(6, rowV rqw2 x2.length)] H (fun fr => by kernel_rfl) (fun fr => Steps.call (by kernel_rfl) hr) ?_
  intro fr t H
  refine at_seg [(4, [])] [(2, rowV rqw2 x2.length)] H (noU_all rfl) (fun fr => by kernel_rfl) ?_
  intro fr H
  refine at_nil ?_
  show AW cfg 23 g (right (right (bodyC cfg.P 23))) fr h2 _
  refine aw_ret (by kernel_rfl) ?_
  have e1 := Option.some.inj hm
  subst e1
  refine ⟨.inl rfl, rowV rqw2 x2.length, resH H (fun fr => by kernel_rfl), ?_⟩
  replace A : HH g h2 [.lst rqw2 63 (lst e_S_api_Member x2), .lst rp0 63 (lst e_S_api_Member p0)] F := (HH.dropF ((A.front 1 rfl).front 1 rfl) 2)
  exact ⟨rqw2, rfl, A⟩
/-! ### boulter/delta.Update -/
noncomputable def M_delta_Update (p0 : List S_api_Member) (p1 : List S_api_Member) : Option ((List S_api_Member)) :=
 (M_slices_Concat_boulter_api_Member_boulter_api_Member_sO ([p0, p1] : List (List S_api_Member))).bind fun x1 => (M_delta_Last_sO x1).bind fun x2 => some x2
theorem ok_delta_Update {g : Gd} {h : AHeap} {F : List Ck} {p0 : List S_api_Member} {p1 : List S_api_Member} {q0 : List S_api_Member} {av : List AVal} (hm : M_delta_Update p0 p1 = some q0) (hc : canL (cfg.still 22) av = [vs e_S_api_Member p0, vs e_S_api_Member p1]) (A : HH g h [] F) : ∃ v h', Runs cfg g h 22 av v h' ∧ v = vs e_S_api_Member q0 ∧ HH g h' [] F := by
  refine runsQ7 (n := 10) (rs := [.tmp 4]) (by kernel_rfl) hc (by kernel_rfl) ?_
  clear hc
  unfold M_delta_Update at hm
  refine start (n := 10) [(0, vs e_S_api_Member p0), (1, vs e_S_api_Member p1)] (by kernel_rfl) (by kernel_rfl) ?_
  intro fr H
  refine aw_seq (by kernel_rfl) ?_
  refine aw_reg (id := 0) (n := 1) [(0, [])] (by kernel_rfl) (by kernel_rfl) ?_
  refine at_seg [(0, [])] [(0, vs e_S_api_Member p0), (1, vs e_S_api_Member p1)] H (noU_all rfl) (fun fr => by kernel_rfl) ?_
  intro fr H
  refine at_nil ?_
  show AW cfg 22 g (right (bodyC cfg.P 22)) fr h _
  refine aw_seq (by kernel_rfl) ?_
  refine aw_reg (id := 1) (n := 6) [(0, []), (1, []), (2, []), (3, []), (4, []), (5, [])] (by kernel_rfl) (by kernel_rfl) ?_
  refine at_seg [(0, []), (1, [])] [(5, vs e_S_api_Member p0), (6, vs e_S_api_Member p1)] H (noU_all rfl) (fun fr => by kernel_rfl) ?_
  intro fr H
  obtain ⟨h1, e1⟩ : ∃ x, x = h.push (.cells (some 35) 2 [vs e_S_api_Member p0, vs e_S_api_Member p1]) := ⟨_, rfl⟩
  replace A := (A.pushL _ _).to e1
  refine at_step (v := rowV (some h.size) (([p0, p1] : List (List S_api_Member)).length)) (h1 := h1) [(7, rowV (some h.size) (([p0, p1] : List (List S_api_Member)).length))] H (fun fr => by kernel_rfl) (fun fr => .of (s_n' (by kernel_rfl) (congrArg some e1.symm))) ?_
  intro fr t H
  replace A : HH g h1 [.lst (some h.size) 35 (lst (eL e_S_api_Member) ([p0, p1] : List (List S_api_Member)))] F := A
  have A1 := A.cut 1
  obtain ⟨x1, hx, hm⟩ := bind_some hm
  obtain ⟨v1, h2, hr, rqw1, rfl, A1⟩ := ok_slices_Concat_boulter_api_Member_boulter_api_Member_sO (av := [rowV (some h.size) (([p0, p1] : List (List S_api_Member)).length)]) hx (by kernel_rfl) A1
  replace A : HH g h2 [.lst rqw1 63 (lst e_S_api_Member x1), .lst (some h.size) 35 (lst (eL e_S_api_Member) ([p0, p1] : List (List S_api_Member)))] F := A.glue0 (n := 1) A1
  refine at_step (v := rowV rqw1 x1.length) (h1 := h2) [(8, rowV rqw1 x1.length)] H (fun fr => by kernel_rfl) (fun fr => Steps.call (by kernel_rfl) hr) ?_
  intro fr t H
  have A1 := A.cut 1
  obtain ⟨x2, hx, hm⟩ := bind_some hm
  obtain ⟨v1, h3, hr, rqw2, rfl, A1⟩ := ok_delta_Last_sO (av := [rowV rqw1 x1.length]) hx (by kernel_rfl) A1
  replace A : HH g h3 [.lst rqw2 63 (lst e_S_api_Member x2), .lst rqw1 63 (lst e_S_api_Member x1), .lst (some h.size) 35 (lst (eL e_S_api_Member) ([p0, p1] : List (List S_api_Member)))] F := A.glue0 (n := 1) A1
  refine at_step (v := rowV rqw2 x2.length) (h1 := h3) [(9, rowV rqw2 x2.length)] H (fun fr => by kernel_rfl) (fun fr => Steps.call (by kernel_rfl) hr) ?_
  intro fr t H
  refine at_seg [(5, [])] [(4, rowV rqw2 x2.length)] H (noU_all rfl) (fun fr => by kernel_rfl) ?_
  intro fr H
  refine at_nil ?_
  show AW cfg 22 g (right (right (bodyC cfg.P 22))) fr h3 _
  refine aw_ret (by kernel_rfl) ?_
  have e1 := Option.some.inj hm
  subst e1
  refine ⟨.inl rfl, rowV rqw2 x2.length, resH H (fun fr => by kernel_rfl), ?_⟩
  obtain ⟨h4, hz0, A1⟩ := (A.front 0 rfl).frz (n := x2.length) (z := 14) (enc_S_api_Member.lenL _) (by decide)
  replace A : HH g h4 [.lst rqw1 63 (lst e_S_api_Member x1), .lst (some h.size) 35 (lst (eL e_S_api_Member) ([p0, p1] : List (List S_api_Member)))] F := A1
  refine ⟨vs e_S_api_Member x2, h4, by first | rfl | (simp only [fz3T, fz3A, fz3B, fz3R, fz2A, fz2R, fz2V, fz2I, fz2B, fz2S, fz2N, fzL0, fzL1, fz1I, fz1B, fz1S, fz1V, fz1N, Option.map_some, hz0] <;> rfl), ?_⟩
  replace A : HH g h4 [] F := (HH.dropF A 0)
  exact ⟨rfl, A⟩

/-! ### boulter/archive.bare -/
noncomputable def M_archive_bare (p0 : S_api_Member) : Option (S_api_Member × (List S_api_Pair)) :=
 some ((⟨p0.Name, p0.Link, p0.Kind, p0.Mode, p0.Uid, p0.Gid, p0.Uname, p0.Gname, p0.Major, p0.Minor, p0.Time, ([] : List S_api_Pair), p0.Data⟩ : S_api_Member), p0.Extra)
theorem ok_archive_bare {g : Gd} {h : AHeap} {F : List Ck} {p0 : S_api_Member} {q0 : S_api_Member} {q1 : List S_api_Pair} {av : List AVal} (hm : M_archive_bare p0 = some (q0, q1)) (hc : canL (cfg.still 71) av = [.agg (e_S_api_Member p0)]) (A : HH g h [] F) : ∃ v h', Runs cfg g h 71 av v h' ∧ v = .tuple [.agg (e_S_api_Member q0), vs e_S_api_Pair q1] ∧ HH g h' [] F := by
  refine runsQ7 (n := 10) (rs := [.cell 2 63, .tmp 3]) (by kernel_rfl) hc (by kernel_rfl) ?_
  clear hc
  unfold M_archive_bare at hm
  refine start (n := 10) [(0, .agg (e_S_api_Member p0))] (by kernel_rfl) (by kernel_rfl) ?_
  intro fr H
  refine aw_seq (by kernel_rfl) ?_
  refine aw_reg (id := 0) (n := 3) [(0, []), (1, []), (2, [])] (by kernel_rfl) (by kernel_rfl) ?_
  obtain ⟨h1, e1⟩ : ∃ x, x = h.push (.cells none 2 (e_S_api_Member p0)) := ⟨_, rfl⟩
  replace A := (A.push _).to e1
  refine at_step (v := .ptr (some (h.size, 0))) (h1 := h1) [(1, .ptr (some (h.size, 0)))] H (fun fr => by kernel_rfl) (fun fr => .of (s_n' (by kernel_rfl) (congrArg some e1.symm))) ?_
  intro fr t H
  obtain ⟨h2, e2⟩ : ∃ x, x = h1.push (.cells none 2 [.str ([] : List UInt8), .str ([] : List UInt8), .int .u8 (0 : Int), .int .i64 (0 : Int), .int .i64 (0 : Int), .int .i64 (0 : Int), .str ([] : List UInt8), .str ([] : List UInt8), .int .i64 (0 : Int), .int .i64 (0 : Int), .int .i64 (0 : Int), .int .i64 (0 : Int), .slice none 0, .str ([] : List UInt8)]) := ⟨_, rfl⟩
  replace A := (A.push _).to e2
  refine at_step (v := .ptr (some (h1.size, 0))) (h1 := h2) [(1, .ptr (some (h.size, 0))), (2, .ptr (some (h1.size, 0)))] H (fun fr => by kernel_rfl) (fun fr => .of (s_n' (by kernel_rfl) (congrArg some e2.symm))) ?_
  intro fr t H
  refine at_seg [(2, [])] [(1, .ptr (some (h.size, 0))), (2, .ptr (some (h1.size, 0)))] H (noU_all rfl) (fun fr => by kernel_rfl) ?_
  intro fr H
  refine at_nil ?_
  show AW cfg 71 g (right (bodyC cfg.P 71)) fr h2 _
  refine aw_seq (by kernel_rfl) ?_
  refine aw_reg (id := 1) (n := 3) [(0, []), (1, []), (2, [])] (by kernel_rfl) (by kernel_rfl) ?_
  refine at_seg [(0, [])] [(1, .ptr (some (h.size, 0))), (2, .ptr (some (h1.size, 0))), (5, .ptr (some (h.size, 12)))] H (noU_all rfl) (fun fr => by kernel_rfl) ?_
  intro fr H
  refine at_step (v := vs e_S_api_Pair p0.Extra) (h1 := h2) [(1, .ptr (some (h.size, 0))), (2, .ptr (some (h1.size, 0))), (6, vs e_S_api_Pair p0.Extra)] H (fun fr => by kernel_rfl) (fun fr => .of (s_ld (by kernel_rfl) (A.ld1 1 rfl (o := 12) rfl))) ?_
  intro fr t H
  refine at_seg [(2, [])] [(1, .ptr (some (h.size, 0))), (2, .ptr (some (h1.size, 0))), (4, vs e_S_api_Pair p0.Extra)] H (noU_all rfl) (fun fr => by kernel_rfl) ?_
  intro fr H
  refine at_nil ?_
  show AW cfg 71 g (right (right (bodyC cfg.P 71))) fr h2 _
  refine aw_seq (by kernel_rfl) ?_
  refine aw_reg (id := 2) (n := 2) [(0, []), (1, [])] (by kernel_rfl) (by kernel_rfl) ?_
  refine at_seg [(0, [])] [(1, .ptr (some (h.size, 0))), (2, .ptr (some (h1.size, 0))), (4, vs e_S_api_Pair p0.Extra), (7, .ptr (some (h.size, 12)))] H (noU_all rfl) (fun fr => by kernel_rfl) ?_
  intro fr H
  obtain ⟨h3, hx, A1⟩ := A.st 1 rfl (o := 12) (new := [.slice none 0]) (ds := [.str p0.Name, .str p0.Link, .int .u8 p0.Kind, .int .i64 p0.Mode, .int .i64 p0.Uid, .int .i64 p0.Gid, .str p0.Uname, .str p0.Gname, .int .i64 p0.Major, .int .i64 p0.Minor, .int .i64 p0.Time.Sec, .int .i64 p0.Time.Nsec, .slice none 0, .str p0.Data]) (Nat.le_of_ble_eq_true rfl) rfl rfl
  replace A : HH g h3 [.obj h1.size (.cells none 2 [.str ([] : List UInt8), .str ([] : List UInt8), .int .u8 (0 : Int), .int .i64 (0 : Int), .int .i64 (0 : Int), .int .i64 (0 : Int), .str ([] : List UInt8), .str ([] : List UInt8), .int .i64 (0 : Int), .int .i64 (0 : Int), .int .i64 (0 : Int), .int .i64 (0 : Int), .slice none 0, .str ([] : List UInt8)]), .obj h.size (.cells none 2 [.str p0.Name, .str p0.Link, .int .u8 p0.Kind, .int .i64 p0.Mode, .int .i64 p0.Uid, .int .i64 p0.Gid, .str p0.Uname, .str p0.Gname, .int .i64 p0.Major, .int .i64 p0.Minor, .int .i64 p0.Time.Sec, .int .i64 p0.Time.Nsec, .slice none 0, .str p0.Data])] F := A1
  refine at_step (v := .tuple []) (h1 := h3) [(1, .ptr (some (h.size, 0))), (2, .ptr (some (h1.size, 0))), (4, vs e_S_api_Pair p0.Extra)] H (fun fr => by kernel_rfl) (fun fr => .of (s_st (by kernel_rfl) rfl hx)) ?_
  intro fr t H
  refine at_nil ?_
  show AW cfg 71 g (right (right (right (bodyC cfg.P 71)))) fr h3 _
  refine aw_seq (by kernel_rfl) ?_
  refine aw_reg (id := 3) (n := 4) [(0, []), (1, []), (2, []), (3, [])] (by kernel_rfl) (by kernel_rfl) ?_
  refine at_step (v := .agg [.str p0.Name, .str p0.Link, .int .u8 p0.Kind, .int .i64 p0.Mode, .int .i64 p0.Uid, .int .i64 p0.Gid, .str p0.Uname, .str p0.Gname, .int .i64 p0.Major, .int .i64 p0.Minor, .int .i64 p0.Time.Sec, .int .i64 p0.Time.Nsec, .slice none 0, .str p0.Data]) (h1 := h3) [(2, .ptr (some (h1.size, 0))), (4, vs e_S_api_Pair p0.Extra), (8, .agg [.str p0.Name, .str p0.Link, .int .u8 p0.Kind, .int .i64 p0.Mode, .int .i64 p0.Uid, .int .i64 p0.Gid, .str p0.Uname, .str p0.Gname, .int .i64 p0.Major, .int .i64 p0.Minor, .int .i64 p0.Time.Sec, .int .i64 p0.Time.Nsec, .slice none 0, .str p0.Data])] H (fun fr => by kernel_rfl) (fun fr => .of (s_ldA (by kernel_rfl) (A.ldA 1 rfl (o := 0) (n := 14) ⟨Nat.le_of_ble_eq_true rfl, rfl⟩))) ?_
  intro fr t H
  refine at_seg [(1, [])] [(2, .ptr (some (h1.size, 0))), (8, .agg [.str p0.Name, .str p0.Link, .int .u8 p0.Kind, .int .i64 p0.Mode, .int .i64 p0.Uid, .int .i64 p0.Gid, .str p0.Uname, .str p0.Gname, .int .i64 p0.Major, .int .i64 p0.Minor, .int .i64 p0.Time.Sec, .int .i64 p0.Time.Nsec, .slice none 0, .str p0.Data]), (9, vs e_S_api_Pair p0.Extra)] H (noU_all rfl) (fun fr => by kernel_rfl) ?_
  intro fr H
  obtain ⟨h4, hx, A1⟩ := A.st 0 rfl (o := 0) (new := [.str p0.Name, .str p0.Link, .int .u8 p0.Kind, .int .i64 p0.Mode, .int .i64 p0.Uid, .int .i64 p0.Gid, .str p0.Uname, .str p0.Gname, .int .i64 p0.Major, .int .i64 p0.Minor, .int .i64 p0.Time.Sec, .int .i64 p0.Time.Nsec, .slice none 0, .str p0.Data]) (ds := [.str p0.Name, .str p0.Link, .int .u8 p0.Kind, .int .i64 p0.Mode, .int .i64 p0.Uid, .int .i64 p0.Gid, .str p0.Uname, .str p0.Gname, .int .i64 p0.Major, .int .i64 p0.Minor, .int .i64 p0.Time.Sec, .int .i64 p0.Time.Nsec, .slice none 0, .str p0.Data]) (Nat.le_of_ble_eq_true rfl) rfl rfl
  replace A : HH g h4 [.obj h1.size (.cells none 2 [.str p0.Name, .str p0.Link, .int .u8 p0.Kind, .int .i64 p0.Mode, .int .i64 p0.Uid, .int .i64 p0.Gid, .str p0.Uname, .str p0.Gname, .int .i64 p0.Major, .int .i64 p0.Minor, .int .i64 p0.Time.Sec, .int .i64 p0.Time.Nsec, .slice none 0, .str p0.Data]), .obj h.size (.cells none 2 [.str p0.Name, .str p0.Link, .int .u8 p0.Kind, .int .i64 p0.Mode, .int .i64 p0.Uid, .int .i64 p0.Gid, .str p0.Uname, .str p0.Gname, .int .i64 p0.Major, .int .i64 p0.Minor, .int .i64 p0.Time.Sec, .int .i64 p0.Time.Nsec, .slice none 0, .str p0.Data])] F := A1
  refine at_step (v := .tuple []) (h1 := h4) [(2, .ptr (some (h1.size, 0))), (9, vs e_S_api_Pair p0.Extra)] H (fun fr => by kernel_rfl) (fun fr => .of (s_stG (by kernel_rfl) (stG_st hx rfl))) ?_
  intro fr t H
  refine at_seg [(3, [])] [(2, .ptr (some (h1.size, 0))), (3, vs e_S_api_Pair p0.Extra)] H (noU_all rfl) (fun fr => by kernel_rfl) ?_
  intro fr H
  refine at_nil ?_
  show AW cfg 71 g (right (right (right (right (bodyC cfg.P 71))))) fr h4 _
  refine aw_ret (by kernel_rfl) ?_
  have e0 := Option.some.inj hm
  obtain ⟨y0, z0⟩ := Prod.mk.inj e0
  subst y0
  subst z0
  refine ⟨.inl rfl, .tuple [.agg [.str p0.Name, .str p0.Link, .int .u8 p0.Kind, .int .i64 p0.Mode, .int .i64 p0.Uid, .int .i64 p0.Gid, .str p0.Uname, .str p0.Gname, .int .i64 p0.Major, .int .i64 p0.Minor, .int .i64 p0.Time.Sec, .int .i64 p0.Time.Nsec, .slice none 0, .str p0.Data], vs e_S_api_Pair p0.Extra], resL_many (.cell (resT H (fun fr => by kernel_rfl)) (load_ldA (by kernel_rfl) (by kernel_rfl) (A.ldA 0 rfl (o := 0) (n := 14) ⟨Nat.le_of_ble_eq_true rfl, rfl⟩)) (.tmp (resT H (fun fr => by kernel_rfl)) .nil)), ?_⟩
  refine ⟨.tuple [.agg [.str p0.Name, .str p0.Link, .int .u8 p0.Kind, .int .i64 p0.Mode, .int .i64 p0.Uid, .int .i64 p0.Gid, .str p0.Uname, .str p0.Gname, .int .i64 p0.Major, .int .i64 p0.Minor, .int .i64 p0.Time.Sec, .int .i64 p0.Time.Nsec, vs e_S_api_Pair ([] : List S_api_Pair), .str p0.Data], vs e_S_api_Pair p0.Extra], h4, by first | rfl | (simp only [fz3T, fz3A, fz3B, fz3R, fz2A, fz2R, fz2V, fz2I, fz2B, fz2S, fz2N, fzL0, fzL1, fz1I, fz1B, fz1S, fz1V, fz1N, Option.map_some] <;> rfl), ?_⟩
  replace A : HH g h4 [] F := (HH.dropF A 0)
  exact ⟨rfl, A⟩
end Go.Av.L
