/-
 Models of functions, and that the abstract run tells them. Written by lift2.py.
-/
import Derived.Test.YtoaelbgmaicdhaaGreatDoorKCfg
namespace Go.Av.L
open Go.Av Go.Lib
set_option maxRecDepth 10000
set_option linter.unusedVariables false
set_option linter.unusedSimpArgs false
/-! ### boulter/boulterref07.long -/
noncomputable def M_boulterref07_long_L0 (p0 : List S_api_Pair) (s : Int) : Option ((Int) ⊕ ((Unit) ⊕ (Bool))) :=
 match s with
 | x1 => iteB (decide (x1 < (p0.length : Int))) ((ixV p0 x1).bind fun x3 => (iteB (decide ((x3.Key.length : Int) > (300 : Int))) (some true) ((ixV p0 x1).bind fun x5 => some (decide ((x5.Value.length : Int) > (300 : Int)))) : Option (Bool)).bind fun x4 => iteB x4 (some (.inr (.inr true))) (some (.inl (IntKind.i64.wrap (x1 + (1 : Int)))))) (some (.inr (.inl ())))
noncomputable def M_boulterref07_long (p0 : List S_api_Pair) : Option (Bool) :=
 iteB (decide ((p0.length : Int) > (12 : Int))) (some true) ((loop (M_boulterref07_long_L0 p0) (0 : Int)).bind fun o1 => (match o1 with | .inl _ => some false | .inr x2 => some x2))
theorem ok_boulterref07_long {g : Gd} {h : AHeap} {F : List Ck} {p0 : List S_api_Pair} {q0 : Bool} {av : List AVal} (hm : M_boulterref07_long p0 = some q0) (hc : canL (cfg.still 51) av = [vs e_S_api_Pair p0]) (A : HH g h [] F) : ∃ v h', Runs cfg g h 51 av v h' ∧ v = .bool q0 ∧ HH g h' [] F := by
 refine runsQ1 (n := 29) (rs := [.tmp 2]) (by kernel_rfl) hc (by kernel_rfl) ?_
 clear hc
 unfold M_boulterref07_long at hm
 refine start (n := 29) [(0, vs e_S_api_Pair p0)] (by kernel_rfl) (by kernel_rfl) ?_
 intro fr H
 refine aw_seq (by kernel_rfl) ?_
 refine aw_reg (id := 0) (n := 1) [(0, [])] (by kernel_rfl) (by kernel_rfl) ?_
 refine at_seg [(0, [])] [(0, vs e_S_api_Pair p0)] H (noU_all rfl) (fun fr => by kernel_rfl) ?_
 intro fr H
 refine at_nil ?_
 show AW cfg 51 g (right (bodyC cfg.P 51)) fr h _
 refine aw_seq (by kernel_rfl) ?_
 refine aw_seq (by kernel_rfl) ?_
 refine aw_reg (id := 1) (n := 3) [(0, []), (1, []), (2, [])] (by kernel_rfl) (by kernel_rfl) ?_
 refine at_seg [(0, []), (1, []), (2, [])] [(0, vs e_S_api_Pair p0), (6, .bool (decide ((p0.length : Int) > (12 : Int))))] H (noU_all rfl) (fun fr => by kernel_rfl) ?_
 intro fr H
 refine at_nil ?_
 show AW cfg 51 g (right (left (right (bodyC cfg.P 51)))) fr h _
 rcases iteB_some hm with ⟨hb, hm⟩ | ⟨hb, hm⟩
 ·replace H := H.know 6 hb (by kernel_rfl)
  refine aw_true (x := .tmp 6) (by kernel_rfl) H (fun fr => by kernel_rfl) ?_
  refine aw_seq (by kernel_rfl) ?_
  refine aw_reg (id := 2) (n := 1) [(0, [])] (by kernel_rfl) (by kernel_rfl) ?_
  refine at_seg [(0, [])] [(2, .bool true)] H (noU_all rfl) (fun fr => by kernel_rfl) ?_
  intro fr H
  refine at_nil ?_
  show AW cfg 51 g (right (left (right (left (right (bodyC cfg.P 51)))))) fr h _
  refine aw_ret (by kernel_rfl) ?_
  have e1 := Option.some.inj hm
  subst e1
  refine ⟨.inl rfl, .bool true, resH H (fun fr => by kernel_rfl), ?_⟩
  exact ⟨rfl, A⟩
 ·replace H := H.know 6 hb (by kernel_rfl)
  refine aw_false (x := .tmp 6) (by kernel_rfl) H (fun fr => by kernel_rfl) ?_
  refine aw_skip (by kernel_rfl) ?_
  show AW cfg 51 g (right (right (bodyC cfg.P 51))) fr h _
  refine aw_seq (by kernel_rfl) ?_
  refine aw_seq (by kernel_rfl) ?_
  refine aw_reg (id := 3) (n := 1) [(0, [])] (by kernel_rfl) (by kernel_rfl) ?_
  refine at_seg [(0, [])] [(0, vs e_S_api_Pair p0), (3, .int .i64 (0 : Int))] H (noU_all rfl) (fun fr => by kernel_rfl) ?_
  intro fr H
  refine at_nil ?_
  show AW cfg 51 g (right (left (right (right (bodyC cfg.P 51))))) fr h _
  refine aw_block (id := 0) (by kernel_rfl) ?_
  obtain ⟨o1, ho, hm⟩ := bind_some hm
  refine aw_mono (Q' := fun e fr' h' => (e = .exit 0 ∧ .inl () = o1 ∧ Has fr' 29 [] ∧ HH g h' [] F) ∨ (∃ (x2 : Bool), e = .ret ∧ .inr x2 = o1 ∧ Has fr' 29 [(2, .bool x2)] ∧ HH g h' [] F) ∨ False) ?_ ?_
  ·refine aw_loop (by kernel_rfl) (fun (s : Int) fr' h' => ∃ (x1 : Int), x1 = s ∧ Has fr' 29 [(0, vs e_S_api_Pair p0), (3, .int .i64 x1)] ∧ HH g h' [] F) ho ⟨(0 : Int), rfl, H.less _ (fun fr => by kernel_rfl), A⟩ ?_
   clear ho hm H A
   intro s q fr h1 hI hm
   obtain ⟨x1, rfl, H, A⟩ := hI
   unfold M_boulterref07_long_L0 at hm
   refine aw_seq (by kernel_rfl) ?_
   refine aw_seq (by kernel_rfl) ?_
   refine aw_reg (id := 4) (n := 4) [(0, []), (1, []), (2, []), (3, [])] (by kernel_rfl) (by kernel_rfl) ?_
   refine at_seg [(0, []), (1, []), (2, []), (3, [])] [(0, vs e_S_api_Pair p0), (3, .int .i64 x1), (10, .bool (decide (x1 < (p0.length : Int))))] H (noU_all rfl) (fun fr => by kernel_rfl) ?_
   intro fr H
   refine at_nil ?_
   show AW cfg 51 g (right (left (left (left (right (left (right (right (bodyC cfg.P 51))))))))) fr h1 _
   rcases iteB_some hm with ⟨hb, hm⟩ | ⟨hb, hm⟩
   ·replace H := H.know 10 hb (by kernel_rfl)
    refine aw_true (x := .tmp 10) (by kernel_rfl) H (fun fr => by kernel_rfl) ?_
    refine aw_skip (by kernel_rfl) ?_
    show AW cfg 51 g (right (left (left (right (left (right (right (bodyC cfg.P 51)))))))) fr h1 _
    refine aw_seq (by kernel_rfl) ?_
    refine aw_block (id := 1) (by kernel_rfl) ?_
    refine aw_seq (by kernel_rfl) ?_
    refine aw_reg (id := 6) (n := 16) [(0, []), (1, []), (2, []), (3, []), (4, []), (5, []), (6, []), (7, []), (8, []), (9, []), (10, []), (11, []), (12, []), (13, []), (14, []), (15, [])] (by kernel_rfl) (by kernel_rfl) ?_
    refine at_seg [(0, []), (1, [])] [(0, vs e_S_api_Pair p0), (3, .int .i64 x1), (13, vs e_S_api_Pair p0), (14, .int .i64 x1)] H (noU_all rfl) (fun fr => by kernel_rfl) ?_
    intro fr H
    obtain ⟨x3, hx, hm⟩ := bind_some hm
    refine at_step (v := .vptr [.str x3.Key, .str x3.Value]) (h1 := h1) [(0, vs e_S_api_Pair p0), (3, .int .i64 x1), (15, .vptr [.str x3.Key, .str x3.Value])] H (fun fr => by kernel_rfl) (fun fr => .of (s_ixV (e := e_S_api_Pair) (x := x3) enc_S_api_Pair (by decide) (by kernel_rfl) hx)) ?_
    intro fr t H
    refine at_seg [(3, [])] [(0, vs e_S_api_Pair p0), (3, .int .i64 x1), (16, .vptr [.str x3.Key, .str x3.Value])] H (noU_all rfl) (fun fr => by kernel_rfl) ?_
    intro fr H
    refine at_step (v := .str x3.Key) (h1 := h1) [(0, vs e_S_api_Pair p0), (3, .int .i64 x1), (17, .str x3.Key)] H (fun fr => by kernel_rfl) (fun fr => .of (s_lv (by kernel_rfl))) ?_
    intro fr t H
    refine at_seg [(5, []), (6, []), (7, [])] [(0, vs e_S_api_Pair p0), (3, .int .i64 x1), (20, .bool (decide ((x3.Key.length : Int) > (300 : Int))))] H (noU_all rfl) (fun fr => by kernel_rfl) ?_
    intro fr H
    obtain ⟨x4, ho, hm⟩ := bind_some hm
    refine at_cut [(8, []), (9, []), (10, []), (11, []), (12, []), (13, []), (14, []), (15, [])] (fun fr' h' => Has fr' 29 [(0, vs e_S_api_Pair p0), (3, .int .i64 x1), (28, .bool x4)] ∧ HH g h' [] F) ?_ ?_
    ·rcases iteB_some ho with ⟨hb, hm⟩ | ⟨hb, hm⟩
     ·replace H := H.know 20 hb (by kernel_rfl)
      refine at_seg [(8, []), (9, []), (10, []), (11, []), (12, []), (13, []), (14, []), (15, [])] [(0, vs e_S_api_Pair p0), (3, .int .i64 x1), (28, .bool true)] H (noU_all rfl) (fun fr => by kernel_rfl) ?_
      intro fr H
      have e1 := Option.some.inj hm
      subst e1
      exact at_nil ⟨H.less _ (fun fr => by kernel_rfl), A⟩
     ·replace H := H.know 20 hb (by kernel_rfl)
      refine at_seg [(8, []), (9, [])] [(0, vs e_S_api_Pair p0), (3, .int .i64 x1), (20, .bool false), (21, vs e_S_api_Pair p0), (22, .int .i64 x1)] H (noU_all rfl) (fun fr => by kernel_rfl) ?_
      intro fr H
      obtain ⟨x5, hx, hm⟩ := bind_some hm
      refine at_step (v := .vptr [.str x5.Key, .str x5.Value]) (h1 := h1) [(0, vs e_S_api_Pair p0), (3, .int .i64 x1), (20, .bool false), (23, .vptr [.str x5.Key, .str x5.Value])] H (fun fr => by kernel_rfl) (fun fr => .of (s_ixV (e := e_S_api_Pair) (x := x5) enc_S_api_Pair (by decide) (by kernel_rfl) hx)) ?_
      intro fr t H
      refine at_seg [(11, [])] [(0, vs e_S_api_Pair p0), (3, .int .i64 x1), (20, .bool false), (24, .vptr [.str x5.Value])] H (noU_all rfl) (fun fr => by kernel_rfl) ?_
      intro fr H
      refine at_step (v := .str x5.Value) (h1 := h1) [(0, vs e_S_api_Pair p0), (3, .int .i64 x1), (20, .bool false), (25, .str x5.Value)] H (fun fr => by kernel_rfl) (fun fr => .of (s_lv (by kernel_rfl))) ?_
      intro fr t H
      refine at_seg [(13, []), (14, []), (15, [])] [(0, vs e_S_api_Pair p0), (3, .int .i64 x1), (28, .bool (decide ((x5.Value.length : Int) > (300 : Int))))] H (noU_all rfl) (fun fr => by kernel_rfl) ?_
      intro fr H
      have e1 := Option.some.inj hm
      subst e1
      exact at_nil ⟨H.less _ (fun fr => by kernel_rfl), A⟩
    ·clear A
     intro t fr h2 hK
     obtain ⟨H, A⟩ := hK
     refine at_nil ?_
     show AW cfg 51 g (right (left (left (right (left (left (right (left (right (right (bodyC cfg.P 51))))))))))) fr h2 _
     rcases iteB_some hm with ⟨hb, hm⟩ | ⟨hb, hm⟩
     ·replace H := H.know 28 hb (by kernel_rfl)
      refine aw_true (x := .tmp 28) (by kernel_rfl) H (fun fr => by kernel_rfl) ?_
      refine aw_seq (by kernel_rfl) ?_
      refine aw_reg (id := 7) (n := 1) [(0, [])] (by kernel_rfl) (by kernel_rfl) ?_
      refine at_seg [(0, [])] [(2, .bool true)] H (noU_all rfl) (fun fr => by kernel_rfl) ?_
      intro fr H
      refine at_nil ?_
      show AW cfg 51 g (right (left (right (left (left (right (left (left (right (left (right (right (bodyC cfg.P 51))))))))))))) fr h2 _
      refine aw_ret (by kernel_rfl) ?_
      exact Exists.intro _ (And.intro (Option.some.inj hm).symm (fun e => Or.inr (Or.inl ⟨true, rfl, e, H.less _ (fun fr => by kernel_rfl), A⟩)))
     ·replace H := H.know 28 hb (by kernel_rfl)
      refine aw_false (x := .tmp 28) (by kernel_rfl) H (fun fr => by kernel_rfl) ?_
      refine aw_skip (by kernel_rfl) ?_
      show AW cfg 51 g (right (right (left (left (right (left (right (right (bodyC cfg.P 51))))))))) fr h2 _
      refine aw_reg (id := 5) (n := 3) [(0, []), (1, []), (2, [])] (by kernel_rfl) (by kernel_rfl) ?_
      refine at_seg [(0, []), (1, []), (2, [])] [(0, vs e_S_api_Pair p0), (3, .int .i64 (IntKind.i64.wrap (x1 + (1 : Int))))] H (noU_all rfl) (fun fr => by kernel_rfl) ?_
      intro fr H
      refine at_nil ?_
      exact Exists.intro (IntKind.i64.wrap (x1 + (1 : Int))) (And.intro (Option.some.inj hm).symm ⟨IntKind.i64.wrap (x1 + (1 : Int)), rfl, H.less _ (fun fr => by kernel_rfl), A⟩)
   ·replace H := H.know 10 hb (by kernel_rfl)
    refine aw_false (x := .tmp 10) (by kernel_rfl) H (fun fr => by kernel_rfl) ?_
    refine aw_exit (i := 0) (by kernel_rfl) ?_
    exact Exists.intro _ (And.intro (Option.some.inj hm).symm (fun e => Or.inl ⟨rfl, e, H.less _ (fun fr => by kernel_rfl), A⟩))
  ·clear ho
   clear A
   intro e fr h3 hQ
   rcases hQ with ⟨rfl, rfl, H, A⟩ | ⟨x2, rfl, rfl, H, A⟩ | hF
   ·skip
    show AW cfg 51 g (right (right (right (bodyC cfg.P 51)))) fr h3 _
    refine aw_seq (by kernel_rfl) ?_
    refine aw_reg (id := 8) (n := 1) [(0, [])] (by kernel_rfl) (by kernel_rfl) ?_
    refine at_seg [(0, [])] [(2, .bool false)] H (noU_all rfl) (fun fr => by kernel_rfl) ?_
    intro fr H
    refine at_nil ?_
    show AW cfg 51 g (right (right (right (right (bodyC cfg.P 51))))) fr h3 _
    refine aw_ret (by kernel_rfl) ?_
    have e1 := Option.some.inj hm
    subst e1
    refine ⟨.inl rfl, .bool false, resH H (fun fr => by kernel_rfl), ?_⟩
    exact ⟨rfl, A⟩
   ·skip
    have e1 := Option.some.inj hm
    subst e1
    refine ⟨.inl rfl, .bool x2, resH H (fun fr => by kernel_rfl), ?_⟩
    exact ⟨rfl, A⟩
   ·exact hF.elim
/-! ### boulter/boulterref07.Long -/
noncomputable def M_boulterref07_Long (p0 : S_api_Member) : Option (Bool) :=
 (M_boulterref07_long p0.Extra).bind fun x1 => some (((((x1 || (decide ((p0.Name.length : Int) > (600 : Int)))) || (decide ((p0.Link.length : Int) > (600 : Int)))) || (decide ((p0.Uname.length : Int) > (100 : Int)))) || (decide ((p0.Gname.length : Int) > (100 : Int)))) || (decide ((p0.Data.length : Int) > (2000 : Int))))
theorem ok_boulterref07_Long {g : Gd} {h : AHeap} {F : List Ck} {p0 : S_api_Member} {q0 : Bool} {av : List AVal} (hm : M_boulterref07_Long p0 = some q0) (hc : canL (cfg.still 31) av = [.agg (e_S_api_Member p0)]) (A : HH g h [] F) : ∃ v h', Runs cfg g h 31 av v h' ∧ v = .bool q0 ∧ HH g h' [] F := by
 refine runsQ1 (n := 36) (rs := [.tmp 2]) (by kernel_rfl) hc (by kernel_rfl) ?_
 clear hc
 unfold M_boulterref07_Long at hm
 refine start (n := 36) [(0, .agg (e_S_api_Member p0))] (by kernel_rfl) (by kernel_rfl) ?_
 intro fr H
 refine aw_seq (by kernel_rfl) ?_
 refine aw_reg (id := 0) (n := 2) [(0, []), (1, [])] (by kernel_rfl) (by kernel_rfl) ?_
 obtain ⟨h1, e1⟩ : ∃ x, x = h.push (.cells none 2 (e_S_api_Member p0)) := ⟨_, rfl⟩
 replace A := (A.push _).to e1
 refine at_step (v := .ptr (some (h.size, 0))) (h1 := h1) [(1, .ptr (some (h.size, 0)))] H (fun fr => by kernel_rfl) (fun fr => .of (s_n' (by kernel_rfl) (congrArg some e1.symm))) ?_
 intro fr t H
 refine at_seg [(1, [])] [(1, .ptr (some (h.size, 0)))] H (noU_all rfl) (fun fr => by kernel_rfl) ?_
 intro fr H
 refine at_nil ?_
 show AW cfg 31 g (right (bodyC cfg.P 31)) fr h1 _
 refine aw_seq (by kernel_rfl) ?_
 refine aw_reg (id := 1) (n := 34) [(0, []), (1, []), (2, []), (3, []), (4, []), (5, []), (6, []), (7, []), (8, []), (9, []), (10, []), (11, []), (12, []), (13, []), (14, []), (15, []), (16, []), (17, []), (18, []), (19, []), (20, []), (21, []), (22, []), (23, []), (24, []), (25, []), (26, []), (27, []), (28, []), (29, []), (30, []), (31, []), (32, []), (33, [])] (by kernel_rfl) (by kernel_rfl) ?_
 refine at_seg [(0, [])] [(1, .ptr (some (h.size, 0))), (3, .ptr (some (h.size, 12)))] H (noU_all rfl) (fun fr => by kernel_rfl) ?_
 intro fr H
 refine at_step (v := vs e_S_api_Pair p0.Extra) (h1 := h1) [(1, .ptr (some (h.size, 0))), (4, vs e_S_api_Pair p0.Extra)] H (fun fr => by kernel_rfl) (fun fr => .of (s_ld (by kernel_rfl) (A.ld1 0 rfl (o := 12) rfl))) ?_
 intro fr t H
 have A1 := A.cut 0
 obtain ⟨x1, hx, hm⟩ := bind_some hm
 obtain ⟨v1, h2, hr, rfl, A1⟩ := ok_boulterref07_long (av := [vs e_S_api_Pair p0.Extra]) hx (by kernel_rfl) A1
 replace A : HH g h2 [.obj h.size (.cells none 2 (e_S_api_Member p0))] F := A.glue0 (n := 0) A1
 refine at_step (v := .bool x1) (h1 := h2) [(1, .ptr (some (h.size, 0))), (5, .bool x1)] H (fun fr => by kernel_rfl) (fun fr => Steps.call (by kernel_rfl) hr) ?_
 intro fr t H
 refine at_seg [(3, [])] [(1, .ptr (some (h.size, 0))), (6, .bool x1)] H (noU_all rfl) (fun fr => by kernel_rfl) ?_
 intro fr H
 refine at_cut [(4, []), (5, []), (6, []), (7, []), (8, [])] (fun fr' h' => h2 = h' ∧ Has fr' 36 [(1, .ptr (some (h.size, 0))), (11, .bool (x1 || (decide ((p0.Name.length : Int) > (600 : Int)))))]) ?_ ?_
 ·cases hb : (x1 : Bool) with
  | true =>
   replace H := H.know 6 hb (by kernel_rfl)
   refine at_seg [(4, []), (5, []), (6, []), (7, []), (8, [])] [(1, .ptr (some (h.size, 0))), (11, .bool true)] H (noU_all rfl) (fun fr => by kernel_rfl) ?_
   intro fr H
   exact at_nil ⟨rfl, by first | exact H.less _ (fun fr => by rfl) | exact H.less _ (fun fr => by rw [hb]; rfl)⟩
  | false =>
   replace H := H.know 6 hb (by kernel_rfl)
   refine at_seg [(4, [])] [(1, .ptr (some (h.size, 0))), (6, .bool false), (7, .ptr (some (h.size, 0)))] H (noU_all rfl) (fun fr => by kernel_rfl) ?_
   intro fr H
   refine at_step (v := .str p0.Name) (h1 := h2) [(1, .ptr (some (h.size, 0))), (6, .bool false), (8, .str p0.Name)] H (fun fr => by kernel_rfl) (fun fr => .of (s_ld (by kernel_rfl) (A.ld1 0 rfl (o := 0) rfl))) ?_
   intro fr t H
   refine at_seg [(6, []), (7, []), (8, [])] [(1, .ptr (some (h.size, 0))), (11, .bool (decide ((p0.Name.length : Int) > (600 : Int))))] H (noU_all rfl) (fun fr => by kernel_rfl) ?_
   intro fr H
   exact at_nil ⟨rfl, by first | exact H.less _ (fun fr => by rfl) | exact H.less _ (fun fr => by rw [hb]; rfl)⟩
 ·intro t fr h' hK
  obtain ⟨e, H⟩ := hK
  subst e
  refine at_seg [(9, [])] [(1, .ptr (some (h.size, 0))), (12, .bool (x1 || (decide ((p0.Name.length : Int) > (600 : Int)))))] H (noU_all rfl) (fun fr => by kernel_rfl) ?_
  intro fr H
  refine at_cut [(10, []), (11, []), (12, []), (13, []), (14, [])] (fun fr' h' => h2 = h' ∧ Has fr' 36 [(1, .ptr (some (h.size, 0))), (17, .bool ((x1 || (decide ((p0.Name.length : Int) > (600 : Int)))) || (decide ((p0.Link.length : Int) > (600 : Int)))))]) ?_ ?_
  ·cases hb : (x1 || (decide ((p0.Name.length : Int) > (600 : Int))) : Bool) with
   | true =>
    replace H := H.know 12 hb (by kernel_rfl)
    refine at_seg [(10, []), (11, []), (12, []), (13, []), (14, [])] [(1, .ptr (some (h.size, 0))), (17, .bool true)] H (noU_all rfl) (fun fr => by kernel_rfl) ?_
    intro fr H
    exact at_nil ⟨rfl, by first | exact H.less _ (fun fr => by rfl) | exact H.less _ (fun fr => by rw [hb]; rfl)⟩
   | false =>
    replace H := H.know 12 hb (by kernel_rfl)
    refine at_seg [(10, [])] [(1, .ptr (some (h.size, 0))), (12, .bool false), (13, .ptr (some (h.size, 1)))] H (noU_all rfl) (fun fr => by kernel_rfl) ?_
    intro fr H
    refine at_step (v := .str p0.Link) (h1 := h2) [(1, .ptr (some (h.size, 0))), (12, .bool false), (14, .str p0.Link)] H (fun fr => by kernel_rfl) (fun fr => .of (s_ld (by kernel_rfl) (A.ld1 0 rfl (o := 1) rfl))) ?_
    intro fr t H
    refine at_seg [(12, []), (13, []), (14, [])] [(1, .ptr (some (h.size, 0))), (17, .bool (decide ((p0.Link.length : Int) > (600 : Int))))] H (noU_all rfl) (fun fr => by kernel_rfl) ?_
    intro fr H
    exact at_nil ⟨rfl, by first | exact H.less _ (fun fr => by rfl) | exact H.less _ (fun fr => by rw [hb]; rfl)⟩
  ·intro t fr h' hK
   obtain ⟨e, H⟩ := hK
   subst e
   refine at_seg [(15, [])] [(1, .ptr (some (h.size, 0))), (18, .bool ((x1 || (decide ((p0.Name.length : Int) > (600 : Int)))) || (decide ((p0.Link.length : Int) > (600 : Int)))))] H (noU_all rfl) (fun fr => by kernel_rfl) ?_
   intro fr H
   refine at_cut [(16, []), (17, []), (18, []), (19, []), (20, [])] (fun fr' h' => h2 = h' ∧ Has fr' 36 [(1, .ptr (some (h.size, 0))), (23, .bool (((x1 || (decide ((p0.Name.length : Int) > (600 : Int)))) || (decide ((p0.Link.length : Int) > (600 : Int)))) || (decide ((p0.Uname.length : Int) > (100 : Int)))))]) ?_ ?_
   ·cases hb : ((x1 || (decide ((p0.Name.length : Int) > (600 : Int)))) || (decide ((p0.Link.length : Int) > (600 : Int))) : Bool) with
    | true =>
     replace H := H.know 18 hb (by kernel_rfl)
     refine at_seg [(16, []), (17, []), (18, []), (19, []), (20, [])] [(1, .ptr (some (h.size, 0))), (23, .bool true)] H (noU_all rfl) (fun fr => by kernel_rfl) ?_
     intro fr H
     exact at_nil ⟨rfl, by first | exact H.less _ (fun fr => by rfl) | exact H.less _ (fun fr => by rw [hb]; rfl)⟩
    | false =>
     replace H := H.know 18 hb (by kernel_rfl)
     refine at_seg [(16, [])] [(1, .ptr (some (h.size, 0))), (18, .bool false), (19, .ptr (some (h.size, 6)))] H (noU_all rfl) (fun fr => by kernel_rfl) ?_
     intro fr H
     refine at_step (v := .str p0.Uname) (h1 := h2) [(1, .ptr (some (h.size, 0))), (18, .bool false), (20, .str p0.Uname)] H (fun fr => by kernel_rfl) (fun fr => .of (s_ld (by kernel_rfl) (A.ld1 0 rfl (o := 6) rfl))) ?_
     intro fr t H
     refine at_seg [(18, []), (19, []), (20, [])] [(1, .ptr (some (h.size, 0))), (23, .bool (decide ((p0.Uname.length : Int) > (100 : Int))))] H (noU_all rfl) (fun fr => by kernel_rfl) ?_
     intro fr H
     exact at_nil ⟨rfl, by first | exact H.less _ (fun fr => by rfl) | exact H.less _ (fun fr => by rw [hb]; rfl)⟩
   ·intro t fr h' hK
    obtain ⟨e, H⟩ := hK
    subst e
    refine at_seg [(21, [])] [(1, .ptr (some (h.size, 0))), (24, .bool (((x1 || (decide ((p0.Name.length : Int) > (600 : Int)))) || (decide ((p0.Link.length : Int) > (600 : Int)))) || (decide ((p0.Uname.length : Int) > (100 : Int)))))] H (noU_all rfl) (fun fr => by kernel_rfl) ?_
    intro fr H
    refine at_cut [(22, []), (23, []), (24, []), (25, []), (26, [])] (fun fr' h' => h2 = h' ∧ Has fr' 36 [(1, .ptr (some (h.size, 0))), (29, .bool ((((x1 || (decide ((p0.Name.length : Int) > (600 : Int)))) || (decide ((p0.Link.length : Int) > (600 : Int)))) || (decide ((p0.Uname.length : Int) > (100 : Int)))) || (decide ((p0.Gname.length : Int) > (100 : Int)))))]) ?_ ?_
    ·cases hb : (((x1 || (decide ((p0.Name.length : Int) > (600 : Int)))) || (decide ((p0.Link.length : Int) > (600 : Int)))) || (decide ((p0.Uname.length : Int) > (100 : Int))) : Bool) with
     | true =>
      replace H := H.know 24 hb (by kernel_rfl)
      refine at_seg [(22, []), (23, []), (24, []), (25, []), (26, [])] [(1, .ptr (some (h.size, 0))), (29, .bool true)] H (noU_all rfl) (fun fr => by kernel_rfl) ?_
      intro fr H
      exact at_nil ⟨rfl, by first | exact H.less _ (fun fr => by rfl) | exact H.less _ (fun fr => by rw [hb]; rfl)⟩
     | false =>
      replace H := H.know 24 hb (by kernel_rfl)
      refine at_seg [(22, [])] [(1, .ptr (some (h.size, 0))), (24, .bool false), (25, .ptr (some (h.size, 7)))] H (noU_all rfl) (fun fr => by kernel_rfl) ?_
      intro fr H
      refine at_step (v := .str p0.Gname) (h1 := h2) [(1, .ptr (some (h.size, 0))), (24, .bool false), (26, .str p0.Gname)] H (fun fr => by kernel_rfl) (fun fr => .of (s_ld (by kernel_rfl) (A.ld1 0 rfl (o := 7) rfl))) ?_
      intro fr t H
      refine at_seg [(24, []), (25, []), (26, [])] [(1, .ptr (some (h.size, 0))), (29, .bool (decide ((p0.Gname.length : Int) > (100 : Int))))] H (noU_all rfl) (fun fr => by kernel_rfl) ?_
      intro fr H
      exact at_nil ⟨rfl, by first | exact H.less _ (fun fr => by rfl) | exact H.less _ (fun fr => by rw [hb]; rfl)⟩
    ·intro t fr h' hK
     obtain ⟨e, H⟩ := hK
     subst e
     refine at_seg [(27, [])] [(1, .ptr (some (h.size, 0))), (30, .bool ((((x1 || (decide ((p0.Name.length : Int) > (600 : Int)))) || (decide ((p0.Link.length : Int) > (600 : Int)))) || (decide ((p0.Uname.length : Int) > (100 : Int)))) || (decide ((p0.Gname.length : Int) > (100 : Int)))))] H (noU_all rfl) (fun fr => by kernel_rfl) ?_
     intro fr H
     refine at_cut [(28, []), (29, []), (30, []), (31, []), (32, [])] (fun fr' h' => h2 = h' ∧ Has fr' 36 [(35, .bool (((((x1 || (decide ((p0.Name.length : Int) > (600 : Int)))) || (decide ((p0.Link.length : Int) > (600 : Int)))) || (decide ((p0.Uname.length : Int) > (100 : Int)))) || (decide ((p0.Gname.length : Int) > (100 : Int)))) || (decide ((p0.Data.length : Int) > (2000 : Int)))))]) ?_ ?_
     ·cases hb : ((((x1 || (decide ((p0.Name.length : Int) > (600 : Int)))) || (decide ((p0.Link.length : Int) > (600 : Int)))) || (decide ((p0.Uname.length : Int) > (100 : Int)))) || (decide ((p0.Gname.length : Int) > (100 : Int))) : Bool) with
      | true =>
       replace H := H.know 30 hb (by kernel_rfl)
       refine at_seg [(28, []), (29, []), (30, []), (31, []), (32, [])] [(35, .bool true)] H (noU_all rfl) (fun fr => by kernel_rfl) ?_
       intro fr H
       exact at_nil ⟨rfl, by first | exact H.less _ (fun fr => by rfl) | exact H.less _ (fun fr => by rw [hb]; rfl)⟩
      | false =>
       replace H := H.know 30 hb (by kernel_rfl)
       refine at_seg [(28, [])] [(30, .bool false), (31, .ptr (some (h.size, 13)))] H (noU_all rfl) (fun fr => by kernel_rfl) ?_
       intro fr H
       refine at_step (v := .str p0.Data) (h1 := h2) [(30, .bool false), (32, .str p0.Data)] H (fun fr => by kernel_rfl) (fun fr => .of (s_ld (by kernel_rfl) (A.ld1 0 rfl (o := 13) rfl))) ?_
       intro fr t H
       refine at_seg [(30, []), (31, []), (32, [])] [(35, .bool (decide ((p0.Data.length : Int) > (2000 : Int))))] H (noU_all rfl) (fun fr => by kernel_rfl) ?_
       intro fr H
       exact at_nil ⟨rfl, by first | exact H.less _ (fun fr => by rfl) | exact H.less _ (fun fr => by rw [hb]; rfl)⟩
     ·intro t fr h' hK
      obtain ⟨e, H⟩ := hK
      subst e
      refine at_seg [(33, [])] [(2, .bool (((((x1 || (decide ((p0.Name.length : Int) > (600 : Int)))) || (decide ((p0.Link.length : Int) > (600 : Int)))) || (decide ((p0.Uname.length : Int) > (100 : Int)))) || (decide ((p0.Gname.length : Int) > (100 : Int)))) || (decide ((p0.Data.length : Int) > (2000 : Int)))))] H (noU_all rfl) (fun fr => by kernel_rfl) ?_
      intro fr H
      refine at_nil ?_
      show AW cfg 31 g (right (right (bodyC cfg.P 31))) fr h2 _
      refine aw_ret (by kernel_rfl) ?_
      have e1 := Option.some.inj hm
      subst e1
      refine ⟨.inl rfl, .bool (((((x1 || (decide ((p0.Name.length : Int) > (600 : Int)))) || (decide ((p0.Link.length : Int) > (600 : Int)))) || (decide ((p0.Uname.length : Int) > (100 : Int)))) || (decide ((p0.Gname.length : Int) > (100 : Int)))) || (decide ((p0.Data.length : Int) > (2000 : Int)))), resH H (fun fr => by kernel_rfl), ?_⟩
      replace A : HH g h2 [] F := (HH.dropF A 0)
      exact ⟨rfl, A⟩
/-! ### boulter/boulterlaw12.long -/
noncomputable def M_boulterlaw12_long_L0 (p0 : List S_api_Member) (s : Int) : Option ((Int) ⊕ ((Unit) ⊕ (Bool))) :=
 match s with
 | x1 => iteB (decide (x1 < (p0.length : Int))) ((ixV p0 x1).bind fun x3 => (M_boulterref07_Long x3).bind fun x4 => iteB x4 (some (.inr (.inr true))) (some (.inl (IntKind.i64.wrap (x1 + (1 : Int)))))) (some (.inr (.inl ())))
noncomputable def M_boulterlaw12_long (p0 : List S_api_Member) : Option (Bool) :=
 iteB (decide ((p0.length : Int) > (8 : Int))) (some true) ((loop (M_boulterlaw12_long_L0 p0) (0 : Int)).bind fun o1 => (match o1 with | .inl _ => some false | .inr x2 => some x2))
theorem ok_boulterlaw12_long {g : Gd} {h : AHeap} {F : List Ck} {p0 : List S_api_Member} {q0 : Bool} {av : List AVal} (hm : M_boulterlaw12_long p0 = some q0) (hc : canL (cfg.still 14) av = [vs e_S_api_Member p0]) (A : HH g h [] F) : ∃ v h', Runs cfg g h 14 av v h' ∧ v = .bool q0 ∧ HH g h' [] F := by
 refine runsQ1 (n := 17) (rs := [.tmp 2]) (by kernel_rfl) hc (by kernel_rfl) ?_
 clear hc
 unfold M_boulterlaw12_long at hm
 refine start (n := 17) [(0, vs e_S_api_Member p0)] (by kernel_rfl) (by kernel_rfl) ?_
 intro fr H
 refine aw_seq (by kernel_rfl) ?_
 refine aw_reg (id := 0) (n := 1) [(0, [])] (by kernel_rfl) (by kernel_rfl) ?_
 refine at_seg [(0, [])] [(0, vs e_S_api_Member p0)] H (noU_all rfl) (fun fr => by kernel_rfl) ?_
 intro fr H
 refine at_nil ?_
 show AW cfg 14 g (right (bodyC cfg.P 14)) fr h _
 refine aw_seq (by kernel_rfl) ?_
 refine aw_seq (by kernel_rfl) ?_
 refine aw_reg (id := 1) (n := 3) [(0, []), (1, []), (2, [])] (by kernel_rfl) (by kernel_rfl) ?_
 refine at_seg [(0, []), (1, []), (2, [])] [(0, vs e_S_api_Member p0), (7, .bool (decide ((p0.length : Int) > (8 : Int))))] H (noU_all rfl) (fun fr => by kernel_rfl) ?_
 intro fr H
 refine at_nil ?_
 show AW cfg 14 g (right (left (right (bodyC cfg.P 14)))) fr h _
 rcases iteB_some hm with ⟨hb, hm⟩ | ⟨hb, hm⟩
 ·replace H := H.know 7 hb (by kernel_rfl)
  refine aw_true (x := .tmp 7) (by kernel_rfl) H (fun fr => by kernel_rfl) ?_
  refine aw_seq (by kernel_rfl) ?_
  refine aw_reg (id := 2) (n := 1) [(0, [])] (by kernel_rfl) (by kernel_rfl) ?_
  refine at_seg [(0, [])] [(2, .bool true)] H (noU_all rfl) (fun fr => by kernel_rfl) ?_
  intro fr H
  refine at_nil ?_
  show AW cfg 14 g (right (left (right (left (right (bodyC cfg.P 14)))))) fr h _
  refine aw_ret (by kernel_rfl) ?_
  have e1 := Option.some.inj hm
  subst e1
  refine ⟨.inl rfl, .bool true, resH H (fun fr => by kernel_rfl), ?_⟩
  exact ⟨rfl, A⟩
 ·replace H := H.know 7 hb (by kernel_rfl)
  refine aw_false (x := .tmp 7) (by kernel_rfl) H (fun fr => by kernel_rfl) ?_
  refine aw_skip (by kernel_rfl) ?_
  show AW cfg 14 g (right (right (bodyC cfg.P 14))) fr h _
  refine aw_seq (by kernel_rfl) ?_
  refine aw_seq (by kernel_rfl) ?_
  refine aw_reg (id := 3) (n := 3) [(0, []), (1, []), (2, [])] (by kernel_rfl) (by kernel_rfl) ?_
  refine at_seg [(0, []), (1, []), (2, [])] [(8, vs e_S_api_Member p0), (9, .int .i64 (p0.length : Int)), (10, .int .i64 (0 : Int))] H (noU_all rfl) (fun fr => by kernel_rfl) ?_
  intro fr H
  refine at_nil ?_
  show AW cfg 14 g (right (left (right (right (bodyC cfg.P 14))))) fr h _
  refine aw_block (id := 0) (by kernel_rfl) ?_
  obtain ⟨o1, ho, hm⟩ := bind_some hm
  refine aw_mono (Q' := fun e fr' h' => (e = .exit 0 ∧ .inl () = o1 ∧ Has fr' 17 [] ∧ HH g h' [] F) ∨ (∃ (x2 : Bool), e = .ret ∧ .inr x2 = o1 ∧ Has fr' 17 [(2, .bool x2)] ∧ HH g h' [] F) ∨ False) ?_ ?_
  ·refine aw_loop (by kernel_rfl) (fun (s : Int) fr' h' => ∃ (x1 : Int), x1 = s ∧ Has fr' 17 [(8, vs e_S_api_Member p0), (9, .int .i64 (p0.length : Int)), (10, .int .i64 x1)] ∧ HH g h' [] F) ho ⟨(0 : Int), rfl, H.less _ (fun fr => by kernel_rfl), A⟩ ?_
   clear ho hm H A
   intro s q fr h1 hI hm
   obtain ⟨x1, rfl, H, A⟩ := hI
   unfold M_boulterlaw12_long_L0 at hm
   refine aw_seq (by kernel_rfl) ?_
   refine aw_reg (id := 4) (n := 1) [(0, [])] (by kernel_rfl) (by kernel_rfl) ?_
   refine at_seg [(0, [])] [(8, vs e_S_api_Member p0), (9, .int .i64 (p0.length : Int)), (10, .int .i64 x1), (11, .bool (decide (x1 < (p0.length : Int))))] H (noU_all rfl) (fun fr => by kernel_rfl) ?_
   intro fr H
   refine at_nil ?_
   show AW cfg 14 g (right (left (left (right (left (right (right (bodyC cfg.P 14)))))))) fr h1 _
   refine aw_seq (by kernel_rfl) ?_
   rcases iteB_some hm with ⟨hb, hm⟩ | ⟨hb, hm⟩
   ·replace H := H.know 11 hb (by kernel_rfl)
    refine aw_true (x := .tmp 11) (by kernel_rfl) H (fun fr => by kernel_rfl) ?_
    refine aw_skip (by kernel_rfl) ?_
    show AW cfg 14 g (right (right (left (left (right (left (right (right (bodyC cfg.P 14))))))))) fr h1 _
    refine aw_seq (by kernel_rfl) ?_
    refine aw_block (id := 1) (by kernel_rfl) ?_
    refine aw_seq (by kernel_rfl) ?_
    refine aw_reg (id := 5) (n := 4) [(0, []), (1, []), (2, []), (3, [])] (by kernel_rfl) (by kernel_rfl) ?_
    obtain ⟨x3, hx, hm⟩ := bind_some hm
    refine at_step (v := .vptr (e_S_api_Member x3)) (h1 := h1) [(8, vs e_S_api_Member p0), (9, .int .i64 (p0.length : Int)), (10, .int .i64 x1), (12, .vptr (e_S_api_Member x3))] H (fun fr => by kernel_rfl) (fun fr => .of (s_ixV (e := e_S_api_Member) (x := x3) enc_S_api_Member (by decide) (by kernel_rfl) hx)) ?_
    intro fr t H
    refine at_step (v := .agg (e_S_api_Member x3)) (h1 := h1) [(8, vs e_S_api_Member p0), (9, .int .i64 (p0.length : Int)), (10, .int .i64 x1), (13, .agg (e_S_api_Member x3))] H (fun fr => by kernel_rfl) (fun fr => .of (s_lv (by kernel_rfl))) ?_
    intro fr t H
    obtain ⟨h2, e1⟩ : ∃ x, x = h1.push (.cells none 2 [.str ([] : List UInt8), .str ([] : List UInt8), .int .u8 (0 : Int), .int .i64 (0 : Int), .int .i64 (0 : Int), .int .i64 (0 : Int), .str ([] : List UInt8), .str ([] : List UInt8), .int .i64 (0 : Int), .int .i64 (0 : Int), .int .i64 (0 : Int), .int .i64 (0 : Int), .slice none 0, .str ([] : List UInt8)]) := ⟨_, rfl⟩
    replace A := (A.push _).to e1
    refine at_step (v := .ptr (some (h1.size, 0))) (h1 := h2) [(4, .ptr (some (h1.size, 0))), (8, vs e_S_api_Member p0), (9, .int .i64 (p0.length : Int)), (10, .int .i64 x1), (13, .agg (e_S_api_Member x3))] H (fun fr => by kernel_rfl) (fun fr => .of (s_n' (by kernel_rfl) (congrArg some e1.symm))) ?_
    intro fr t H
    obtain ⟨h3, hx, A1⟩ := A.st 0 rfl (o := 0) (new := [.str x3.Name, .str x3.Link, .int .u8 x3.Kind, .int .i64 x3.Mode, .int .i64 x3.Uid, .int .i64 x3.Gid, .str x3.Uname, .str x3.Gname, .int .i64 x3.Major, .int .i64 x3.Minor, .int .i64 x3.Time.Sec, .int .i64 x3.Time.Nsec, vs e_S_api_Pair x3.Extra, .str x3.Data]) (ds := [.str x3.Name, .str x3.Link, .int .u8 x3.Kind, .int .i64 x3.Mode, .int .i64 x3.Uid, .int .i64 x3.Gid, .str x3.Uname, .str x3.Gname, .int .i64 x3.Major, .int .i64 x3.Minor, .int .i64 x3.Time.Sec, .int .i64 x3.Time.Nsec, vs e_S_api_Pair x3.Extra, .str x3.Data]) (Nat.le_of_ble_eq_true rfl) rfl rfl
    replace A : HH g h3 [.obj h1.size (.cells none 2 (e_S_api_Member x3))] F := A1
    refine at_step (v := .tuple []) (h1 := h3) [(4, .ptr (some (h1.size, 0))), (8, vs e_S_api_Member p0), (9, .int .i64 (p0.length : Int)), (10, .int .i64 x1)] H (fun fr => by kernel_rfl) (fun fr => .of (s_stG (by kernel_rfl) (stG_st hx rfl))) ?_
    intro fr t H
    refine at_nil ?_
    show AW cfg 14 g (right (left (left (right (right (left (left (right (left (right (right (bodyC cfg.P 14)))))))))))) fr h3 _
    refine aw_seq (by kernel_rfl) ?_
    refine aw_reg (id := 6) (n := 2) [(0, []), (1, [])] (by kernel_rfl) (by kernel_rfl) ?_
    refine at_step (v := .agg (e_S_api_Member x3)) (h1 := h3) [(8, vs e_S_api_Member p0), (9, .int .i64 (p0.length : Int)), (10, .int .i64 x1), (14, .agg (e_S_api_Member x3))] H (fun fr => by kernel_rfl) (fun fr => .of (s_ldA (by kernel_rfl) (A.ldA 0 rfl (o := 0) (n := 14) ⟨Nat.le_of_ble_eq_true rfl, rfl⟩))) ?_
    intro fr t H
    have A1 := A.cut 0
    obtain ⟨x4, hx, hm⟩ := bind_some hm
    obtain ⟨v1, h4, hr, rfl, A1⟩ := ok_boulterref07_Long (av := [.agg (e_S_api_Member x3)]) hx (by kernel_rfl) A1
    replace A : HH g h4 [.obj h1.size (.cells none 2 (e_S_api_Member x3))] F := A.glue0 (n := 0) A1
    refine at_step (v := .bool x4) (h1 := h4) [(8, vs e_S_api_Member p0), (9, .int .i64 (p0.length : Int)), (10, .int .i64 x1), (15, .bool x4)] H (fun fr => by kernel_rfl) (fun fr => Steps.call (by kernel_rfl) hr) ?_
    intro fr t H
    refine at_nil ?_
    show AW cfg 14 g (right (right (left (left (right (right (left (left (right (left (right (right (bodyC cfg.P 14))))))))))))) fr h4 _
    rcases iteB_some hm with ⟨hb, hm⟩ | ⟨hb, hm⟩
    ·replace H := H.know 15 hb (by kernel_rfl)
     refine aw_true (x := .tmp 15) (by kernel_rfl) H (fun fr => by kernel_rfl) ?_
     refine aw_seq (by kernel_rfl) ?_
     refine aw_reg (id := 7) (n := 1) [(0, [])] (by kernel_rfl) (by kernel_rfl) ?_
     refine at_seg [(0, [])] [(2, .bool true)] H (noU_all rfl) (fun fr => by kernel_rfl) ?_
     intro fr H
     refine at_nil ?_
     show AW cfg 14 g (right (left (right (right (left (left (right (right (left (left (right (left (right (right (bodyC cfg.P 14))))))))))))))) fr h4 _
     refine aw_ret (by kernel_rfl) ?_
     replace A : HH g h4 [] F := (HH.dropF A 0)
     exact Exists.intro _ (And.intro (Option.some.inj hm).symm (fun e => Or.inr (Or.inl ⟨true, rfl, e, H.less _ (fun fr => by kernel_rfl), A⟩)))
    ·replace H := H.know 15 hb (by kernel_rfl)
     refine aw_false (x := .tmp 15) (by kernel_rfl) H (fun fr => by kernel_rfl) ?_
     refine aw_skip (by kernel_rfl) ?_
     show AW cfg 14 g (right (right (right (left (left (right (left (right (right (bodyC cfg.P 14)))))))))) fr h4 _
     refine aw_reg (id := 8) (n := 2) [(0, []), (1, [])] (by kernel_rfl) (by kernel_rfl) ?_
     refine at_seg [(0, []), (1, [])] [(8, vs e_S_api_Member p0), (9, .int .i64 (p0.length : Int)), (10, .int .i64 (IntKind.i64.wrap (x1 + (1 : Int))))] H (noU_all rfl) (fun fr => by kernel_rfl) ?_
     intro fr H
     refine at_nil ?_
     replace A : HH g h4 [] F := (HH.dropF A 0)
     exact Exists.intro (IntKind.i64.wrap (x1 + (1 : Int))) (And.intro (Option.some.inj hm).symm ⟨IntKind.i64.wrap (x1 + (1 : Int)), rfl, H.less _ (fun fr => by kernel_rfl), A⟩)
   ·replace H := H.know 11 hb (by kernel_rfl)
    refine aw_false (x := .tmp 11) (by kernel_rfl) H (fun fr => by kernel_rfl) ?_
    refine aw_exit (i := 0) (by kernel_rfl) ?_
    exact Exists.intro _ (And.intro (Option.some.inj hm).symm (fun e => Or.inl ⟨rfl, e, H.less _ (fun fr => by kernel_rfl), A⟩))
  ·clear ho
   clear A
   intro e fr h5 hQ
   rcases hQ with ⟨rfl, rfl, H, A⟩ | ⟨x2, rfl, rfl, H, A⟩ | hF
   ·skip
    show AW cfg 14 g (right (right (right (bodyC cfg.P 14)))) fr h5 _
    refine aw_seq (by kernel_rfl) ?_
    refine aw_reg (id := 9) (n := 1) [(0, [])] (by kernel_rfl) (by kernel_rfl) ?_
    refine at_seg [(0, [])] [(2, .bool false)] H (noU_all rfl) (fun fr => by kernel_rfl) ?_
    intro fr H
    refine at_nil ?_
    show AW cfg 14 g (right (right (right (right (bodyC cfg.P 14))))) fr h5 _
    refine aw_ret (by kernel_rfl) ?_
    have e1 := Option.some.inj hm
    subst e1
    refine ⟨.inl rfl, .bool false, resH H (fun fr => by kernel_rfl), ?_⟩
    exact ⟨rfl, A⟩
   ·skip
    have e1 := Option.some.inj hm
    subst e1
    refine ⟨.inl rfl, .bool x2, resH H (fun fr => by kernel_rfl), ?_⟩
    exact ⟨rfl, A⟩
   ·exact hF.elim
/-! ### boulter/boulterlaw12.awake -/
def M_boulterlaw12_awake : Option Bool := some true
theorem ok_boulterlaw12_awake {g : Gd} {h : AHeap} {q0 : Bool} (hm : M_boulterlaw12_awake = some q0) : Runs cfg g h 15 [] (.bool q0) h := by
 have e1 := Option.some.inj hm
 subst e1
 exact runs4E (by kernel_rfl) rfl rfl (closedF 100000 (by kernel_rfl))
/-! ### boulter/archive.bare -/
noncomputable def M_archive_bare (p0 : S_api_Member) : Option (S_api_Member × (List S_api_Pair)) :=
 some ((⟨p0.Name, p0.Link, p0.Kind, p0.Mode, p0.Uid, p0.Gid, p0.Uname, p0.Gname, p0.Major, p0.Minor, p0.Time, ([] : List S_api_Pair), p0.Data⟩ : S_api_Member), p0.Extra)
theorem ok_archive_bare {g : Gd} {h : AHeap} {F : List Ck} {p0 : S_api_Member} {q0 : S_api_Member} {q1 : List S_api_Pair} {av : List AVal} (hm : M_archive_bare p0 = some (q0, q1)) (hc : canL (cfg.still 34) av = [.agg (e_S_api_Member p0)]) (A : HH g h [] F) : ∃ v h', Runs cfg g h 34 av v h' ∧ v = .tuple [.agg (e_S_api_Member q0), vs e_S_api_Pair q1] ∧ HH g h' [] F := by
 refine runsQ7 (n := 10) (rs := [.cell 2 31, .tmp 3]) (by kernel_rfl) hc (by kernel_rfl) ?_
 clear hc
 unfold M_archive_bare at hm
 refine start (n := 10) [(0, .agg (e_S_api_Member p0))] (by kernel_rfl) (by kernel_rfl) ?_
 intro fr H
 refine aw_seq (by kernel_rfl) ?_
 refine aw_reg (id := 0) (n := 3) [(0, []), (1, []), (2, [])] (by kernel_rfl) (by kernel_rfl) ?_
 obtain ⟨h1, e1⟩ : ∃ x, x = h.push (.cells none 2 (e_S_api_Member p0)) := ⟨_, rfl⟩
 replace A := (A.push _).to e1
 refine at_step (v := .ptr (some (h.size, 0))) (h1 := h1) [(1, .ptr (some (h.size, 0)))] H (fun fr => by kernel_rfl) (fun fr => .of (s_n' (by kernel_rfl) (congrArg some e1.symm))) ?_
 intro fr t H
 obtain ⟨h2, e2⟩ : ∃ x, x = h1.push (.cells none 2 [.str ([] : List UInt8), .str ([] : List UInt8), .int .u8 (0 : Int), .int .i64 (0 : Int), .int .i64 (0 : Int), .int .i64 (0 : Int), .str ([] : List UInt8), .str ([] : List UInt8), .int .i64 (0 : Int), .int .i64 (0 : Int), .int .i64 (0 : Int), .int .i64 (0 : Int), .slice none 0, .str ([] : List UInt8)]) := ⟨_, rfl⟩
 replace A := (A.push _).to e2
 refine at_step (v := .ptr (some (h1.size, 0))) (h1 := h2) [(1, .ptr (some (h.size, 0))), (2, .ptr (some (h1.size, 0)))] H (fun fr => by kernel_rfl) (fun fr => .of (s_n' (by kernel_rfl) (congrArg some e2.symm))) ?_
 intro fr t H
 refine at_seg [(2, [])] [(1, .ptr (some (h.size, 0))), (2, .ptr (some (h1.size, 0)))] H (noU_all rfl) (fun fr => by kernel_rfl) ?_
 intro fr H
 refine at_nil ?_
 show AW cfg 34 g (right (bodyC cfg.P 34)) fr h2 _
 refine aw_seq (by kernel_rfl) ?_
 refine aw_reg (id := 1) (n := 3) [(0, []), (1, []), (2, [])] (by kernel_rfl) (by kernel_rfl) ?_
 refine at_seg [(0, [])] [(1, .ptr (some (h.size, 0))), (2, .ptr (some (h1.size, 0))), (5, .ptr (some (h.size, 12)))] H (noU_all rfl) (fun fr => by kernel_rfl) ?_
 intro fr H
 refine at_step (v := vs e_S_api_Pair p0.Extra) (h1 := h2) [(1, .ptr (some (h.size, 0))), (2, .ptr (some (h1.size, 0))), (6, vs e_S_api_Pair p0.Extra)] H (fun fr => by kernel_rfl) (fun fr => .of (s_ld (by kernel_rfl) (A.ld1 1 rfl (o := 12) rfl))) ?_
 intro fr t H
 refine at_seg [(2, [])] [(1, .ptr (some (h.size, 0))), (2, .ptr (some (h1.size, 0))), (4, vs e_S_api_Pair p0.Extra)] H (noU_all rfl) (fun fr => by kernel_rfl) ?_
 intro fr H
 refine at_nil ?_
 show AW cfg 34 g (right (right (bodyC cfg.P 34))) fr h2 _
 refine aw_seq (by kernel_rfl) ?_
 refine aw_reg (id := 2) (n := 2) [(0, []), (1, [])] (by kernel_rfl) (by kernel_rfl) ?_
 refine at_seg [(0, [])] [(1, .ptr (some (h.size, 0))), (2, .ptr (some (h1.size, 0))), (4, vs e_S_api_Pair p0.Extra), (7, .ptr (some (h.size, 12)))] H (noU_all rfl) (fun fr => by kernel_rfl) ?_
 intro fr H
 obtain ⟨h3, hx, A1⟩ := A.st 1 rfl (o := 12) (new := [.slice none 0]) (ds := [.str p0.Name, .str p0.Link, .int .u8 p0.Kind, .int .i64 p0.Mode, .int .i64 p0.Uid, .int .i64 p0.Gid, .str p0.Uname, .str p0.Gname, .int .i64 p0.Major, .int .i64 p0.Minor, .int .i64 p0.Time.Sec, .int .i64 p0.Time.Nsec, .slice none 0, .str p0.Data]) (Nat.le_of_ble_eq_true rfl) rfl rfl
 replace A : HH g h3 [.obj h1.size (.cells none 2 [.str ([] : List UInt8), .str ([] : List UInt8), .int .u8 (0 : Int), .int .i64 (0 : Int), .int .i64 (0 : Int), .int .i64 (0 : Int), .str ([] : List UInt8), .str ([] : List UInt8), .int .i64 (0 : Int), .int .i64 (0 : Int), .int .i64 (0 : Int), .int .i64 (0 : Int), .slice none 0, .str ([] : List UInt8)]), .obj h.size (.cells none 2 [.str p0.Name, .str p0.Link, .int .u8 p0.Kind, .int .i64 p0.Mode, .int .i64 p0.Uid, .int .i64 p0.Gid, .str p0.Uname, .str p0.Gname, .int .i64 p0.Major, .int .i64 p0.Minor, .int .i64 p0.Time.Sec, .int .i64 p0.Time.Nsec, .slice none 0, .str p0.Data])] F := A1
 refine at_step (v := .tuple []) (h1 := h3) [(1, .ptr (some (h.size, 0))), (2, .ptr (some (h1.size, 0))), (4, vs e_S_api_Pair p0.Extra)] H (fun fr => by kernel_rfl) (fun fr => .of (s_st (by kernel_rfl) rfl hx)) ?_
 intro fr t H
 refine at_nil ?_
 show AW cfg 34 g (right (right (right (bodyC cfg.P 34)))) fr h3 _
 refine aw_seq (by kernel_rfl) ?_
 refine aw_reg (id := 3) (n := 4) [(0, []), (1, []), (2, []), (3, [])] (by kernel_rfl) (by kernel_rfl) ?_
 refine at_step (v := .agg [.str p0.Name, .str p0.Link, .int .u8 p0.Kind, .int .i64 p0.Mode, .int .i64 p0.Uid, .int .i64 p0.Gid, .str p0.Uname, .str p0.Gname, .int .i64 p0.Major, .int .i64 p0.Minor, .int .i64 p0.Time.Sec, .int .i64 p0.Time.Nsec, .slice none 0, .str p0.Data]) (h1 := h3) [(2, .ptr (some (h1.size, 0))), (4, vs e_S_api_Pair p0.Extra), (8, .agg [.str p0.Name, .str p0.Link, .int .u8 p0.Kind, .int .i64 p0.Mode, .int .i64 p0.Uid, .int .i64 p0.Gid, .str p0.Uname, .str p0.Gname, .int .i64 p0.Major, .int .i64 p0.Minor, .int .i64 p0.Time.Sec, .int .i64 p0.Time.Nsec, .slice none 0, .str p0.Data])] H (fun fr => by kernel_rfl) (fun fr => .of (s_ldA (by kernel_rfl) (A.ldA 1 rfl (o := 0) (n := 14) ⟨Nat.le_of_ble_eq_true rfl, rfl⟩))) ?_
 intro fr t H
 refine at_seg [(1, [])] [(2, .ptr (some (h1.size, 0))), (8, .agg [.str p0.Name, .str p0.Link, .int .u8 p0.Kind, .int .i64 p0.Mode, .int .i64 p0.Uid, .int .i64 p0.Gid, .str p0.Uname, .str p0.Gname, .int .i64 p0.Major, .int .i64 p0.Minor, .int .i64 p0.Time.Sec, .int .i64 p0.Time.Nsec, .slice none 0, .str p0.Data]), (9, vs e_S_api_Pair p0.Extra)] H (noU_all rfl) (fun fr => by kernel_rfl) ?_
 intro fr H
 obtain ⟨h4, hx, A1⟩ := A.st 0 rfl (o := 0) (new := [.str p0.Name, .str p0.Link, .int .u8 p0.Kind, .int .i64 p0.Mode, .int .i64 p0.Uid, .int .i64 p0.Gid, .str p0.Uname, .str p0.Gname, .int .i64 p0.Major, .int .i64 p0.Minor, .int .i64 p0.Time.Sec, .int .i64 p0.Time.Nsec, .slice none 0, .str p0.Data]) (ds := [.str p0.Name, .str p0.Link, .int .u8 p0.Kind, .int .i64 p0.Mode, .int .i64 p0.Uid, .int .i64 p0.Gid, .str p0.Uname, .str p0.Gname, .int .i64 p0.Major, .int .i64 p0.Minor, .int .i64 p0.Time.Sec, .int .i64 p0.Time.Nsec, .slice none 0, .str p0.Data]) (Nat.le_of_ble_eq_true rfl) rfl rfl
 replace A : HH g h4 [.obj h1.size (.cells none 2 [.str p0.Name, .str p0.Link, .int .u8 p0.Kind, .int .i64 p0.Mode, .int .i64 p0.Uid, .int .i64 p0.Gid, .str p0.Uname, .str p0.Gname, .int .i64 p0.Major, .int .i64 p0.Minor, .int .i64 p0.Time.Sec, .int .i64 p0.Time.Nsec, .slice none 0, .str p0.Data]), .obj h.size (.cells none 2 [.str p0.Name, .str p0.Link, .int .u8 p0.Kind, .int .i64 p0.Mode, .int .i64 p0.Uid, .int .i64 p0.Gid, .str p0.Uname, .str p0.Gname, .int .i64 p0.Major, .int .i64 p0.Minor, .int .i64 p0.Time.Sec, .int .i64 p0.Time.Nsec, .slice none 0, .str p0.Data])] F := A1
 refine at_step (v := .tuple []) (h1 := h4) [(2, .ptr (some (h1.size, 0))), (9, vs e_S_api_Pair p0.Extra)] H (fun fr => by kernel_rfl) (fun fr => .of (s_stG (by kernel_rfl) (stG_st hx rfl))) ?_
 intro fr t H
 refine at_seg [(3, [])] [(2, .ptr (some (h1.size, 0))), (3, vs e_S_api_Pair p0.Extra)] H (noU_all rfl) (fun fr => by kernel_rfl) ?_
 intro fr H
 refine at_nil ?_
 show AW cfg 34 g (right (right (right (right (bodyC cfg.P 34))))) fr h4 _
 refine aw_ret (by kernel_rfl) ?_
 have e0 := Option.some.inj hm
 obtain ⟨y0, z0⟩ := Prod.mk.inj e0
 subst y0
 subst z0
 refine ⟨.inl rfl, .tuple [.agg [.str p0.Name, .str p0.Link, .int .u8 p0.Kind, .int .i64 p0.Mode, .int .i64 p0.Uid, .int .i64 p0.Gid, .str p0.Uname, .str p0.Gname, .int .i64 p0.Major, .int .i64 p0.Minor, .int .i64 p0.Time.Sec, .int .i64 p0.Time.Nsec, .slice none 0, .str p0.Data], vs e_S_api_Pair p0.Extra], resL_many (.cell (resT H (fun fr => by kernel_rfl)) (load_ldA (by kernel_rfl) (by kernel_rfl) (A.ldA 0 rfl (o := 0) (n := 14) ⟨Nat.le_of_ble_eq_true rfl, rfl⟩)) (.tmp (resT H (fun fr => by kernel_rfl)) .nil)), ?_⟩
 refine ⟨.tuple [.agg [.str p0.Name, .str p0.Link, .int .u8 p0.Kind, .int .i64 p0.Mode, .int .i64 p0.Uid, .int .i64 p0.Gid, .str p0.Uname, .str p0.Gname, .int .i64 p0.Major, .int .i64 p0.Minor, .int .i64 p0.Time.Sec, .int .i64 p0.Time.Nsec, vs e_S_api_Pair ([] : List S_api_Pair), .str p0.Data], vs e_S_api_Pair p0.Extra], h4, by first | rfl | (simp only [fz3T, fz3A, fz3B, fz3R, fz2A, fz2R, fz2V, fz2I, fz2B, fz2S, fz2N, fzL0, fzL1, fz1I, fz1B, fz1S, fz1V, fz1N, Option.map_some] <;> rfl), ?_⟩
 replace A : HH g h4 [] F := (HH.dropF A 0)
 exact ⟨rfl, A⟩
/-! ### slices.Equal[[]boulter/api.Pair,boulter/api.Pair] -/
noncomputable def M_slices_Equal_boulter_api_Pair_boulter_api_Pair_L0 (p0 : List S_api_Pair) (p1 : List S_api_Pair) (s : Int) : Option ((Int) ⊕ ((Unit) ⊕ (Bool))) :=
 match s with
 | x1 => iteB (decide (x1 < (p0.length : Int))) ((ixV p0 x1).bind fun x3 => (ixV p1 x1).bind fun x4 => (eqG cfg.P 40 [.str x3.Key, .str x3.Value] [.str x4.Key, .str x4.Value]).bind fun x5 => iteB (!x5) (some (.inr (.inr false))) (some (.inl (IntKind.i64.wrap (x1 + (1 : Int)))))) (some (.inr (.inl ())))
noncomputable def M_slices_Equal_boulter_api_Pair_boulter_api_Pair (p0 : List S_api_Pair) (p1 : List S_api_Pair) : Option (Bool) :=
 iteB ((p0.length : Int) != (p1.length : Int)) (some false) ((loop (M_slices_Equal_boulter_api_Pair_boulter_api_Pair_L0 p0 p1) (0 : Int)).bind fun o1 => (match o1 with | .inl _ => some true | .inr x2 => some x2))
theorem ok_slices_Equal_boulter_api_Pair_boulter_api_Pair {g : Gd} {h : AHeap} {F : List Ck} {p0 : List S_api_Pair} {p1 : List S_api_Pair} {q0 : Bool} {av : List AVal} (hm : M_slices_Equal_boulter_api_Pair_boulter_api_Pair p0 p1 = some q0) (hc : canL (cfg.still 35) av = [vs e_S_api_Pair p0, vs e_S_api_Pair p1]) (A : HH g h [] F) : ∃ v h', Runs cfg g h 35 av v h' ∧ v = .bool q0 ∧ HH g h' [] F := by
 refine runsQ1 (n := 26) (rs := [.tmp 4]) (by kernel_rfl) hc (by kernel_rfl) ?_
 clear hc
 unfold M_slices_Equal_boulter_api_Pair_boulter_api_Pair at hm
 refine start (n := 26) [(0, vs e_S_api_Pair p0), (1, vs e_S_api_Pair p1)] (by kernel_rfl) (by kernel_rfl) ?_
 intro fr H
 refine aw_seq (by kernel_rfl) ?_
 refine aw_reg (id := 0) (n := 1) [(0, [])] (by kernel_rfl) (by kernel_rfl) ?_
 refine at_seg [(0, [])] [(0, vs e_S_api_Pair p0), (1, vs e_S_api_Pair p1)] H (noU_all rfl) (fun fr => by kernel_rfl) ?_
 intro fr H
 refine at_nil ?_
 show AW cfg 35 g (right (bodyC cfg.P 35)) fr h _
 refine aw_seq (by kernel_rfl) ?_
 refine aw_seq (by kernel_rfl) ?_
 refine aw_reg (id := 1) (n := 5) [(0, []), (1, []), (2, []), (3, []), (4, [])] (by kernel_rfl) (by kernel_rfl) ?_
 refine at_seg [(0, []), (1, []), (2, []), (3, []), (4, [])] [(0, vs e_S_api_Pair p0), (1, vs e_S_api_Pair p1), (10, .bool ((p0.length : Int) != (p1.length : Int)))] H (noU_all rfl) (fun fr => by kernel_rfl) ?_
 intro fr H
 refine at_nil ?_
 show AW cfg 35 g (right (left (right (bodyC cfg.P 35)))) fr h _
 rcases iteB_some hm with ⟨hb, hm⟩ | ⟨hb, hm⟩
 ·replace H := H.know 10 hb (by kernel_rfl)
  refine aw_true (x := .tmp 10) (by kernel_rfl) H (fun fr => by kernel_rfl) ?_
  refine aw_seq (by kernel_rfl) ?_
  refine aw_reg (id := 2) (n := 1) [(0, [])] (by kernel_rfl) (by kernel_rfl) ?_
  refine at_seg [(0, [])] [(4, .bool false)] H (noU_all rfl) (fun fr => by kernel_rfl) ?_
  intro fr H
  refine at_nil ?_
  show AW cfg 35 g (right (left (right (left (right (bodyC cfg.P 35)))))) fr h _
  refine aw_ret (by kernel_rfl) ?_
  have e1 := Option.some.inj hm
  subst e1
  refine ⟨.inl rfl, .bool false, resH H (fun fr => by kernel_rfl), ?_⟩
  exact ⟨rfl, A⟩
 ·replace H := H.know 10 hb (by kernel_rfl)
  refine aw_false (x := .tmp 10) (by kernel_rfl) H (fun fr => by kernel_rfl) ?_
  refine aw_skip (by kernel_rfl) ?_
  show AW cfg 35 g (right (right (bodyC cfg.P 35))) fr h _
  refine aw_seq (by kernel_rfl) ?_
  refine aw_seq (by kernel_rfl) ?_
  refine aw_reg (id := 3) (n := 3) [(0, []), (1, []), (2, [])] (by kernel_rfl) (by kernel_rfl) ?_
  refine at_seg [(0, []), (1, []), (2, [])] [(0, vs e_S_api_Pair p0), (1, vs e_S_api_Pair p1), (12, .int .i64 (p0.length : Int)), (13, .int .i64 (0 : Int))] H (noU_all rfl) (fun fr => by kernel_rfl) ?_
  intro fr H
  refine at_nil ?_
  show AW cfg 35 g (right (left (right (right (bodyC cfg.P 35))))) fr h _
  refine aw_block (id := 0) (by kernel_rfl) ?_
  obtain ⟨o1, ho, hm⟩ := bind_some hm
  refine aw_mono (Q' := fun e fr' h' => (e = .exit 0 ∧ .inl () = o1 ∧ Has fr' 26 [] ∧ HH g h' [] F) ∨ (∃ (x2 : Bool), e = .ret ∧ .inr x2 = o1 ∧ Has fr' 26 [(4, .bool x2)] ∧ HH g h' [] F) ∨ False) ?_ ?_
  ·refine aw_loop (by kernel_rfl) (fun (s : Int) fr' h' => ∃ (x1 : Int), x1 = s ∧ Has fr' 26 [(0, vs e_S_api_Pair p0), (1, vs e_S_api_Pair p1), (12, .int .i64 (p0.length : Int)), (13, .int .i64 x1)] ∧ HH g h' [] F) ho ⟨(0 : Int), rfl, H.less _ (fun fr => by kernel_rfl), A⟩ ?_
   clear ho hm H A
   intro s q fr h1 hI hm
   obtain ⟨x1, rfl, H, A⟩ := hI
   unfold M_slices_Equal_boulter_api_Pair_boulter_api_Pair_L0 at hm
   refine aw_seq (by kernel_rfl) ?_
   refine aw_reg (id := 4) (n := 1) [(0, [])] (by kernel_rfl) (by kernel_rfl) ?_
   refine at_seg [(0, [])] [(0, vs e_S_api_Pair p0), (1, vs e_S_api_Pair p1), (12, .int .i64 (p0.length : Int)), (13, .int .i64 x1), (14, .bool (decide (x1 < (p0.length : Int))))] H (noU_all rfl) (fun fr => by kernel_rfl) ?_
   intro fr H
   refine at_nil ?_
   show AW cfg 35 g (right (left (left (right (left (right (right (bodyC cfg.P 35)))))))) fr h1 _
   refine aw_seq (by kernel_rfl) ?_
   rcases iteB_some hm with ⟨hb, hm⟩ | ⟨hb, hm⟩
   ·replace H := H.know 14 hb (by kernel_rfl)
    refine aw_true (x := .tmp 14) (by kernel_rfl) H (fun fr => by kernel_rfl) ?_
    refine aw_skip (by kernel_rfl) ?_
    show AW cfg 35 g (right (right (left (left (right (left (right (right (bodyC cfg.P 35))))))))) fr h1 _
    refine aw_seq (by kernel_rfl) ?_
    refine aw_block (id := 1) (by kernel_rfl) ?_
    refine aw_seq (by kernel_rfl) ?_
    refine aw_reg (id := 5) (n := 2) [(0, []), (1, [])] (by kernel_rfl) (by kernel_rfl) ?_
    refine at_seg [(0, []), (1, [])] [(0, vs e_S_api_Pair p0), (1, vs e_S_api_Pair p1), (5, .int .i64 x1), (12, .int .i64 (p0.length : Int)), (13, .int .i64 x1)] H (noU_all rfl) (fun fr => by kernel_rfl) ?_
    intro fr H
    refine at_nil ?_
    show AW cfg 35 g (right (left (left (right (right (left (left (right (left (right (right (bodyC cfg.P 35)))))))))))) fr h1 _
    refine aw_seq (by kernel_rfl) ?_
    refine aw_draw (id := 6) (n := 9) (by kernel_rfl) [(0, []), (1, []), (2, []), (3, []), (4, []), (5, []), (6, []), (7, []), (8, [])] (by kernel_rfl) ?_
    refine at_seg [(0, []), (1, [])] [(0, vs e_S_api_Pair p0), (1, vs e_S_api_Pair p1), (5, .int .i64 x1), (12, .int .i64 (p0.length : Int)), (13, .int .i64 x1), (16, vs e_S_api_Pair p0), (17, .int .i64 x1)] H (noU_all rfl) (fun fr => by kernel_rfl) ?_
    intro fr H
    obtain ⟨x3, hx, hm⟩ := bind_some hm
    refine at_step (v := .vptr [.str x3.Key, .str x3.Value]) (h1 := h1) [(0, vs e_S_api_Pair p0), (1, vs e_S_api_Pair p1), (5, .int .i64 x1), (12, .int .i64 (p0.length : Int)), (13, .int .i64 x1), (18, .vptr [.str x3.Key, .str x3.Value])] H (fun fr => by kernel_rfl) (fun fr => .of (s_ixV (e := e_S_api_Pair) (x := x3) enc_S_api_Pair (by decide) (by kernel_rfl) hx)) ?_
    intro fr t H
    refine at_step (v := .agg [.str x3.Key, .str x3.Value]) (h1 := h1) [(0, vs e_S_api_Pair p0), (1, vs e_S_api_Pair p1), (5, .int .i64 x1), (12, .int .i64 (p0.length : Int)), (13, .int .i64 x1), (19, .agg [.str x3.Key, .str x3.Value])] H (fun fr => by kernel_rfl) (fun fr => .of (s_lv (by kernel_rfl))) ?_
    intro fr t H
    refine at_seg [(4, []), (5, [])] [(0, vs e_S_api_Pair p0), (1, vs e_S_api_Pair p1), (12, .int .i64 (p0.length : Int)), (13, .int .i64 x1), (19, .agg [.str x3.Key, .str x3.Value]), (20, vs e_S_api_Pair p1), (21, .int .i64 x1)] H (noU_all rfl) (fun fr => by kernel_rfl) ?_
    intro fr H
    obtain ⟨x4, hx, hm⟩ := bind_some hm
    refine at_step (v := .vptr [.str x4.Key, .str x4.Value]) (h1 := h1) [(0, vs e_S_api_Pair p0), (1, vs e_S_api_Pair p1), (12, .int .i64 (p0.length : Int)), (13, .int .i64 x1), (19, .agg [.str x3.Key, .str x3.Value]), (22, .vptr [.str x4.Key, .str x4.Value])] H (fun fr => by kernel_rfl) (fun fr => .of (s_ixV (e := e_S_api_Pair) (x := x4) enc_S_api_Pair (by decide) (by kernel_rfl) hx)) ?_
    intro fr t H
    refine at_step (v := .agg [.str x4.Key, .str x4.Value]) (h1 := h1) [(0, vs e_S_api_Pair p0), (1, vs e_S_api_Pair p1), (12, .int .i64 (p0.length : Int)), (13, .int .i64 x1), (19, .agg [.str x3.Key, .str x3.Value]), (23, .agg [.str x4.Key, .str x4.Value])] H (fun fr => by kernel_rfl) (fun fr => .of (s_lv (by kernel_rfl))) ?_
    intro fr t H
    obtain ⟨x5, hx, hm⟩ := bind_some hm
    refine at_step (v := .bool (!x5)) (h1 := h1) [(0, vs e_S_api_Pair p0), (1, vs e_S_api_Pair p1), (12, .int .i64 (p0.length : Int)), (13, .int .i64 x1), (24, .bool (!x5))] H (fun fr => by kernel_rfl) (fun fr => .of (s_neG (by kernel_rfl) hx)) ?_
    intro fr t H
    refine at_nil ?_
    show AW cfg 35 g (right (right (left (left (right (right (left (left (right (left (right (right (bodyC cfg.P 35))))))))))))) fr h1 _
    rcases iteB_some hm with ⟨hb, hm⟩ | ⟨hb, hm⟩
    ·replace H := H.know 24 hb (by kernel_rfl)
     refine aw_true (x := .tmp 24) (by kernel_rfl) H (fun fr => by kernel_rfl) ?_
     refine aw_seq (by kernel_rfl) ?_
     refine aw_reg (id := 7) (n := 1) [(0, [])] (by kernel_rfl) (by kernel_rfl) ?_
     refine at_seg [(0, [])] [(4, .bool false)] H (noU_all rfl) (fun fr => by kernel_rfl) ?_
     intro fr H
     refine at_nil ?_
     show AW cfg 35 g (right (left (right (right (left (left (right (right (left (left (right (left (right (right (bodyC cfg.P 35))))))))))))))) fr h1 _
     refine aw_ret (by kernel_rfl) ?_
     exact Exists.intro _ (And.intro (Option.some.inj hm).symm (fun e => Or.inr (Or.inl ⟨false, rfl, e, H.less _ (fun fr => by kernel_rfl), A⟩)))
    ·replace H := H.know 24 hb (by kernel_rfl)
     refine aw_false (x := .tmp 24) (by kernel_rfl) H (fun fr => by kernel_rfl) ?_
     refine aw_skip (by kernel_rfl) ?_
     show AW cfg 35 g (right (right (right (left (left (right (left (right (right (bodyC cfg.P 35)))))))))) fr h1 _
     refine aw_reg (id := 8) (n := 2) [(0, []), (1, [])] (by kernel_rfl) (by kernel_rfl) ?_
     refine at_seg [(0, []), (1, [])] [(0, vs e_S_api_Pair p0), (1, vs e_S_api_Pair p1), (12, .int .i64 (p0.length : Int)), (13, .int .i64 (IntKind.i64.wrap (x1 + (1 : Int))))] H (noU_all rfl) (fun fr => by kernel_rfl) ?_
     intro fr H
     refine at_nil ?_
     exact Exists.intro (IntKind.i64.wrap (x1 + (1 : Int))) (And.intro (Option.some.inj hm).symm ⟨IntKind.i64.wrap (x1 + (1 : Int)), rfl, H.less _ (fun fr => by kernel_rfl), A⟩)
   ·replace H := H.know 14 hb (by kernel_rfl)
    refine aw_false (x := .tmp 14) (by kernel_rfl) H (fun fr => by kernel_rfl) ?_
    refine aw_exit (i := 0) (by kernel_rfl) ?_
    exact Exists.intro _ (And.intro (Option.some.inj hm).symm (fun e => Or.inl ⟨rfl, e, H.less _ (fun fr => by kernel_rfl), A⟩))
  ·clear ho
   clear A
   intro e fr h2 hQ
   rcases hQ with ⟨rfl, rfl, H, A⟩ | ⟨x2, rfl, rfl, H, A⟩ | hF
   ·skip
    show AW cfg 35 g (right (right (right (bodyC cfg.P 35)))) fr h2 _
    refine aw_seq (by kernel_rfl) ?_
    refine aw_reg (id := 9) (n := 1) [(0, [])] (by kernel_rfl) (by kernel_rfl) ?_
    refine at_seg [(0, [])] [(4, .bool true)] H (noU_all rfl) (fun fr => by kernel_rfl) ?_
    intro fr H
    refine at_nil ?_
    show AW cfg 35 g (right (right (right (right (bodyC cfg.P 35))))) fr h2 _
    refine aw_ret (by kernel_rfl) ?_
    have e1 := Option.some.inj hm
    subst e1
    refine ⟨.inl rfl, .bool true, resH H (fun fr => by kernel_rfl), ?_⟩
    exact ⟨rfl, A⟩
   ·skip
    have e1 := Option.some.inj hm
    subst e1
    refine ⟨.inl rfl, .bool x2, resH H (fun fr => by kernel_rfl), ?_⟩
    exact ⟨rfl, A⟩
   ·exact hF.elim
/-! ### boulter/archive.Same -/
noncomputable def M_archive_Same (p0 : S_api_Member) (p1 : S_api_Member) : Option (Bool) :=
 (M_archive_bare p0).bind fun (x1, x2) => (M_archive_bare p1).bind fun (x3, x4) => (M_slices_Equal_boulter_api_Pair_boulter_api_Pair x2 x4).bind fun x5 => (iteB ((((((((((x5 && (x1.Name == x3.Name)) && (x1.Link == x3.Link)) && (x1.Kind == x3.Kind)) && (x1.Mode == x3.Mode)) && (x1.Uid == x3.Uid)) && (x1.Gid == x3.Gid)) && (x1.Uname == x3.Uname)) && (x1.Gname == x3.Gname)) && (x1.Major == x3.Major)) && (x1.Minor == x3.Minor)) ((eqG cfg.P 29 [.int .i64 x1.Time.Sec, .int .i64 x1.Time.Nsec] [.int .i64 x3.Time.Sec, .int .i64 x3.Time.Nsec]).bind fun x7 => some x7) (some false) : Option (Bool)).bind fun x6 => some (x6 && (x1.Data == x3.Data))
theorem ok_archive_Same {g : Gd} {h : AHeap} {F : List Ck} {p0 : S_api_Member} {p1 : S_api_Member} {q0 : Bool} {av : List AVal} (hm : M_archive_Same p0 p1 = some q0) (hc : canL (cfg.still 16) av = [.agg (e_S_api_Member p0), .agg (e_S_api_Member p1)]) (A : HH g h [] F) : ∃ v h', Runs cfg g h 16 av v h' ∧ v = .bool q0 ∧ HH g h' [] F := by
 refine runsQ1 (n := 106) (rs := [.tmp 4]) (by kernel_rfl) hc (by kernel_rfl) ?_
 clear hc
 unfold M_archive_Same at hm
 refine start (n := 106) [(0, .agg (e_S_api_Member p0)), (1, .agg (e_S_api_Member p1))] (by kernel_rfl) (by kernel_rfl) ?_
 intro fr H
 refine aw_seq (by kernel_rfl) ?_
 refine aw_reg (id := 0) (n := 3) [(0, []), (1, []), (2, [])] (by kernel_rfl) (by kernel_rfl) ?_
 obtain ⟨h1, e1⟩ : ∃ x, x = h.push (.cells none 2 (e_S_api_Member p0)) := ⟨_, rfl⟩
 replace A := (A.push _).to e1
 refine at_step (v := .ptr (some (h.size, 0))) (h1 := h1) [(1, .agg (e_S_api_Member p1)), (2, .ptr (some (h.size, 0)))] H (fun fr => by kernel_rfl) (fun fr => .of (s_n' (by kernel_rfl) (congrArg some e1.symm))) ?_
 intro fr t H
 obtain ⟨h2, e2⟩ : ∃ x, x = h1.push (.cells none 2 (e_S_api_Member p1)) := ⟨_, rfl⟩
 replace A := (A.push _).to e2
 refine at_step (v := .ptr (some (h1.size, 0))) (h1 := h2) [(2, .ptr (some (h.size, 0))), (3, .ptr (some (h1.size, 0)))] H (fun fr => by kernel_rfl) (fun fr => .of (s_n' (by kernel_rfl) (congrArg some e2.symm))) ?_
 intro fr t H
 refine at_seg [(2, [])] [(2, .ptr (some (h.size, 0))), (3, .ptr (some (h1.size, 0)))] H (noU_all rfl) (fun fr => by kernel_rfl) ?_
 intro fr H
 refine at_nil ?_
 show AW cfg 16 g (right (bodyC cfg.P 16)) fr h2 _
 refine aw_seq (by kernel_rfl) ?_
 refine aw_reg (id := 1) (n := 8) [(0, []), (1, []), (2, []), (3, []), (4, []), (5, []), (6, []), (7, [])] (by kernel_rfl) (by kernel_rfl) ?_
 refine at_step (v := .agg (e_S_api_Member p0)) (h1 := h2) [(3, .ptr (some (h1.size, 0))), (10, .agg (e_S_api_Member p0))] H (fun fr => by kernel_rfl) (fun fr => .of (s_ldA (by kernel_rfl) (A.ldA 1 rfl (o := 0) (n := 14) ⟨Nat.le_of_ble_eq_true rfl, rfl⟩))) ?_
 intro fr t H
 have A1 := A.cut 0
 obtain ⟨⟨x1, x2⟩, hx, hm⟩ := bind_some hm
 obtain ⟨v1, h3, hr, rfl, A1⟩ := ok_archive_bare (av := [.agg (e_S_api_Member p0)]) hx (by kernel_rfl) A1
 replace A : HH g h3 [.obj h1.size (.cells none 2 (e_S_api_Member p1)), .obj h.size (.cells none 2 (e_S_api_Member p0))] F := A.glue0 (n := 0) A1
 refine at_step (v := .tuple [.agg (e_S_api_Member x1), vs e_S_api_Pair x2]) (h1 := h3) [(3, .ptr (some (h1.size, 0))), (11, .tuple [.agg (e_S_api_Member x1), vs e_S_api_Pair x2])] H (fun fr => by kernel_rfl) (fun fr => Steps.call (by kernel_rfl) hr) ?_
 intro fr t H
 refine at_seg [(2, []), (3, []), (4, [])] [(3, .ptr (some (h1.size, 0))), (12, .agg (e_S_api_Member x1)), (13, vs e_S_api_Pair x2)] H (noU_all rfl) (fun fr => by kernel_rfl) ?_
 intro fr H
 obtain ⟨h4, e3⟩ : ∃ x, x = h3.push (.cells none 2 [.str ([] : List UInt8), .str ([] : List UInt8), .int .u8 (0 : Int), .int .i64 (0 : Int), .int .i64 (0 : Int), .int .i64 (0 : Int), .str ([] : List UInt8), .str ([] : List UInt8), .int .i64 (0 : Int), .int .i64 (0 : Int), .int .i64 (0 : Int), .int .i64 (0 : Int), .slice none 0, .str ([] : List UInt8)]) := ⟨_, rfl⟩
 replace A := (A.push _).to e3
 refine at_step (v := .ptr (some (h3.size, 0))) (h1 := h4) [(3, .ptr (some (h1.size, 0))), (5, .ptr (some (h3.size, 0))), (12, .agg (e_S_api_Member x1)), (13, vs e_S_api_Pair x2)] H (fun fr => by kernel_rfl) (fun fr => .of (s_n' (by kernel_rfl) (congrArg some e3.symm))) ?_
 intro fr t H
 obtain ⟨h5, hx, A1⟩ := A.st 0 rfl (o := 0) (new := [.str x1.Name, .str x1.Link, .int .u8 x1.Kind, .int .i64 x1.Mode, .int .i64 x1.Uid, .int .i64 x1.Gid, .str x1.Uname, .str x1.Gname, .int .i64 x1.Major, .int .i64 x1.Minor, .int .i64 x1.Time.Sec, .int .i64 x1.Time.Nsec, vs e_S_api_Pair x1.Extra, .str x1.Data]) (ds := [.str x1.Name, .str x1.Link, .int .u8 x1.Kind, .int .i64 x1.Mode, .int .i64 x1.Uid, .int .i64 x1.Gid, .str x1.Uname, .str x1.Gname, .int .i64 x1.Major, .int .i64 x1.Minor, .int .i64 x1.Time.Sec, .int .i64 x1.Time.Nsec, vs e_S_api_Pair x1.Extra, .str x1.Data]) (Nat.le_of_ble_eq_true rfl) rfl rfl
 replace A : HH g h5 [.obj h3.size (.cells none 2 (e_S_api_Member x1)), .obj h1.size (.cells none 2 (e_S_api_Member p1)), .obj h.size (.cells none 2 (e_S_api_Member p0))] F := A1
 refine at_step (v := .tuple []) (h1 := h5) [(3, .ptr (some (h1.size, 0))), (5, .ptr (some (h3.size, 0))), (13, vs e_S_api_Pair x2)] H (fun fr => by kernel_rfl) (fun fr => .of (s_stG (by kernel_rfl) (stG_st hx rfl))) ?_
 intro fr t H
 refine at_seg [(7, [])] [(3, .ptr (some (h1.size, 0))), (5, .ptr (some (h3.size, 0))), (6, vs e_S_api_Pair x2)] H (noU_all rfl) (fun fr => by kernel_rfl) ?_
 intro fr H
 refine at_nil ?_
 show AW cfg 16 g (right (right (bodyC cfg.P 16))) fr h5 _
 refine aw_seq (by kernel_rfl) ?_
 refine aw_reg (id := 2) (n := 8) [(0, []), (1, []), (2, []), (3, []), (4, []), (5, []), (6, []), (7, [])] (by kernel_rfl) (by kernel_rfl) ?_
 refine at_step (v := .agg (e_S_api_Member p1)) (h1 := h5) [(5, .ptr (some (h3.size, 0))), (6, vs e_S_api_Pair x2), (15, .agg (e_S_api_Member p1))] H (fun fr => by kernel_rfl) (fun fr => .of (s_ldA (by kernel_rfl) (A.ldA 1 rfl (o := 0) (n := 14) ⟨Nat.le_of_ble_eq_true rfl, rfl⟩))) ?_
 intro fr t H
 have A1 := A.cut 0
 obtain ⟨⟨x3, x4⟩, hx, hm⟩ := bind_some hm
 obtain ⟨v1, h6, hr, rfl, A1⟩ := ok_archive_bare (av := [.agg (e_S_api_Member p1)]) hx (by kernel_rfl) A1
 replace A : HH g h6 [.obj h3.size (.cells none 2 (e_S_api_Member x1)), .obj h1.size (.cells none 2 (e_S_api_Member p1)), .obj h.size (.cells none 2 (e_S_api_Member p0))] F := A.glue0 (n := 0) A1
 refine at_step (v := .tuple [.agg (e_S_api_Member x3), vs e_S_api_Pair x4]) (h1 := h6) [(5, .ptr (some (h3.size, 0))), (6, vs e_S_api_Pair x2), (16, .tuple [.agg (e_S_api_Member x3), vs e_S_api_Pair x4])] H (fun fr => by kernel_rfl) (fun fr => Steps.call (by kernel_rfl) hr) ?_
 intro fr t H
 refine at_seg [(2, []), (3, []), (4, [])] [(5, .ptr (some (h3.size, 0))), (6, vs e_S_api_Pair x2), (17, .agg (e_S_api_Member x3)), (18, vs e_S_api_Pair x4)] H (noU_all rfl) (fun fr => by kernel_rfl) ?_
 intro fr H
 obtain ⟨h7, e4⟩ : ∃ x, x = h6.push (.cells none 2 [.str ([] : List UInt8), .str ([] : List UInt8), .int .u8 (0 : Int), .int .i64 (0 : Int), .int .i64 (0 : Int), .int .i64 (0 : Int), .str ([] : List UInt8), .str ([] : List UInt8), .int .i64 (0 : Int), .int .i64 (0 : Int), .int .i64 (0 : Int), .int .i64 (0 : Int), .slice none 0, .str ([] : List UInt8)]) := ⟨_, rfl⟩
 replace A := (A.push _).to e4
 refine at_step (v := .ptr (some (h6.size, 0))) (h1 := h7) [(5, .ptr (some (h3.size, 0))), (6, vs e_S_api_Pair x2), (7, .ptr (some (h6.size, 0))), (17, .agg (e_S_api_Member x3)), (18, vs e_S_api_Pair x4)] H (fun fr => by kernel_rfl) (fun fr => .of (s_n' (by kernel_rfl) (congrArg some e4.symm))) ?_
 intro fr t H
 obtain ⟨h8, hx, A1⟩ := A.st 0 rfl (o := 0) (new := [.str x3.Name, .str x3.Link, .int .u8 x3.Kind, .int .i64 x3.Mode, .int .i64 x3.Uid, .int .i64 x3.Gid, .str x3.Uname, .str x3.Gname, .int .i64 x3.Major, .int .i64 x3.Minor, .int .i64 x3.Time.Sec, .int .i64 x3.Time.Nsec, vs e_S_api_Pair x3.Extra, .str x3.Data]) (ds := [.str x3.Name, .str x3.Link, .int .u8 x3.Kind, .int .i64 x3.Mode, .int .i64 x3.Uid, .int .i64 x3.Gid, .str x3.Uname, .str x3.Gname, .int .i64 x3.Major, .int .i64 x3.Minor, .int .i64 x3.Time.Sec, .int .i64 x3.Time.Nsec, vs e_S_api_Pair x3.Extra, .str x3.Data]) (Nat.le_of_ble_eq_true rfl) rfl rfl
 replace A : HH g h8 [.obj h6.size (.cells none 2 (e_S_api_Member x3)), .obj h3.size (.cells none 2 (e_S_api_Member x1)), .obj h1.size (.cells none 2 (e_S_api_Member p1)), .obj h.size (.cells none 2 (e_S_api_Member p0))] F := A1
 refine at_step (v := .tuple []) (h1 := h8) [(5, .ptr (some (h3.size, 0))), (6, vs e_S_api_Pair x2), (7, .ptr (some (h6.size, 0))), (18, vs e_S_api_Pair x4)] H (fun fr => by kernel_rfl) (fun fr => .of (s_stG (by kernel_rfl) (stG_st hx rfl))) ?_
 intro fr t H
 refine at_seg [(7, [])] [(5, .ptr (some (h3.size, 0))), (6, vs e_S_api_Pair x2), (7, .ptr (some (h6.size, 0))), (8, vs e_S_api_Pair x4)] H (noU_all rfl) (fun fr => by kernel_rfl) ?_
 intro fr H
 refine at_nil ?_
 show AW cfg 16 g (right (right (right (bodyC cfg.P 16)))) fr h8 _
 refine aw_seq (by kernel_rfl) ?_
 refine aw_reg (id := 3) (n := 88) [(0, []), (1, []), (2, []), (3, []), (4, []), (5, []), (6, []), (7, []), (8, []), (9, []), (10, []), (11, []), (12, []), (13, []), (14, []), (15, []), (16, []), (17, []), (18, []), (19, []), (20, []), (21, []), (22, []), (23, []), (24, []), (25, []), (26, []), (27, []), (28, []), (29, []), (30, []), (31, []), (32, []), (33, []), (34, []), (35, []), (36, []), (37, []), (38, []), (39, []), (40, []), (41, []), (42, []), (43, []), (44, []), (45, []), (46, []), (47, []), (48, []), (49, []), (50, []), (51, []), (52, []), (53, []), (54, []), (55, []), (56, []), (57, []), (58, []), (59, []), (60, []), (61, []), (62, []), (63, []), (64, []), (65, []), (66, []), (67, []), (68, []), (69, []), (70, []), (71, []), (72, []), (73, []), (74, []), (75, []), (76, []), (77, []), (78, []), (79, []), (80, []), (81, []), (82, []), (83, []), (84, []), (85, []), (86, []), (87, [])] (by kernel_rfl) (by kernel_rfl) ?_
 refine at_seg [(0, []), (1, [])] [(5, .ptr (some (h3.size, 0))), (7, .ptr (some (h6.size, 0))), (19, vs e_S_api_Pair x2), (20, vs e_S_api_Pair x4)] H (noU_all rfl) (fun fr => by kernel_rfl) ?_
 intro fr H
 have A1 := A.cut 0
 obtain ⟨x5, hx, hm⟩ := bind_some hm
 obtain ⟨v1, h9, hr, rfl, A1⟩ := ok_slices_Equal_boulter_api_Pair_boulter_api_Pair (av := [vs e_S_api_Pair x2, vs e_S_api_Pair x4]) hx (by kernel_rfl) A1
 replace A : HH g h9 [.obj h6.size (.cells none 2 (e_S_api_Member x3)), .obj h3.size (.cells none 2 (e_S_api_Member x1)), .obj h1.size (.cells none 2 (e_S_api_Member p1)), .obj h.size (.cells none 2 (e_S_api_Member p0))] F := A.glue0 (n := 0) A1
 refine at_step (v := .bool x5) (h1 := h9) [(5, .ptr (some (h3.size, 0))), (7, .ptr (some (h6.size, 0))), (21, .bool x5)] H (fun fr => by kernel_rfl) (fun fr => Steps.call (by kernel_rfl) hr) ?_
 intro fr t H
 refine at_seg [(3, [])] [(5, .ptr (some (h3.size, 0))), (7, .ptr (some (h6.size, 0))), (22, .bool x5)] H (noU_all rfl) (fun fr => by kernel_rfl) ?_
 intro fr H
 refine at_cut [(4, []), (5, []), (6, []), (7, []), (8, []), (9, [])] (fun fr' h' => h9 = h' ∧ Has fr' 106 [(5, .ptr (some (h3.size, 0))), (7, .ptr (some (h6.size, 0))), (28, .bool (x5 && (x1.Name == x3.Name)))]) ?_ ?_
 ·cases hb : (x5 : Bool) with
  | true =>
   replace H := H.know 22 hb (by kernel_rfl)
   refine at_seg [(4, [])] [(5, .ptr (some (h3.size, 0))), (7, .ptr (some (h6.size, 0))), (22, .bool true), (23, .ptr (some (h3.size, 0)))] H (noU_all rfl) (fun fr => by kernel_rfl) ?_
   intro fr H
   refine at_step (v := .str x1.Name) (h1 := h9) [(5, .ptr (some (h3.size, 0))), (7, .ptr (some (h6.size, 0))), (22, .bool true), (24, .str x1.Name)] H (fun fr => by kernel_rfl) (fun fr => .of (s_ld (by kernel_rfl) (A.ld1 1 rfl (o := 0) rfl))) ?_
   intro fr t H
   refine at_seg [(6, [])] [(5, .ptr (some (h3.size, 0))), (7, .ptr (some (h6.size, 0))), (22, .bool true), (24, .str x1.Name), (25, .ptr (some (h6.size, 0)))] H (noU_all rfl) (fun fr => by kernel_rfl) ?_
   intro fr H
   refine at_step (v := .str x3.Name) (h1 := h9) [(5, .ptr (some (h3.size, 0))), (7, .ptr (some (h6.size, 0))), (22, .bool true), (24, .str x1.Name), (26, .str x3.Name)] H (fun fr => by kernel_rfl) (fun fr => .of (s_ld (by kernel_rfl) (A.ld1 0 rfl (o := 0) rfl))) ?_
   intro fr t H
   refine at_seg [(8, []), (9, [])] [(5, .ptr (some (h3.size, 0))), (7, .ptr (some (h6.size, 0))), (28, .bool (x1.Name == x3.Name))] H (noU_all rfl) (fun fr => by kernel_rfl) ?_
   intro fr H
   exact at_nil ⟨rfl, by first | exact H.less _ (fun fr => by rfl) | exact H.less _ (fun fr => by rw [hb]; rfl)⟩
  | false =>
   replace H := H.know 22 hb (by kernel_rfl)
   refine at_seg [(4, []), (5, []), (6, []), (7, []), (8, []), (9, [])] [(5, .ptr (some (h3.size, 0))), (7, .ptr (some (h6.size, 0))), (28, .bool false)] H (noU_all rfl) (fun fr => by kernel_rfl) ?_
   intro fr H
   exact at_nil ⟨rfl, by first | exact H.less _ (fun fr => by rfl) | exact H.less _ (fun fr => by rw [hb]; rfl)⟩
 ·intro t fr h' hK
  obtain ⟨e, H⟩ := hK
  subst e
  refine at_seg [(10, [])] [(5, .ptr (some (h3.size, 0))), (7, .ptr (some (h6.size, 0))), (29, .bool (x5 && (x1.Name == x3.Name)))] H (noU_all rfl) (fun fr => by kernel_rfl) ?_
  intro fr H
  refine at_cut [(11, []), (12, []), (13, []), (14, []), (15, []), (16, [])] (fun fr' h' => h9 = h' ∧ Has fr' 106 [(5, .ptr (some (h3.size, 0))), (7, .ptr (some (h6.size, 0))), (35, .bool ((x5 && (x1.Name == x3.Name)) && (x1.Link == x3.Link)))]) ?_ ?_
  ·cases hb : (x5 && (x1.Name == x3.Name) : Bool) with
   | true =>
    replace H := H.know 29 hb (by kernel_rfl)
    refine at_seg [(11, [])] [(5, .ptr (some (h3.size, 0))), (7, .ptr (some (h6.size, 0))), (29, .bool true), (30, .ptr (some (h3.size, 1)))] H (noU_all rfl) (fun fr => by kernel_rfl) ?_
    intro fr H
    refine at_step (v := .str x1.Link) (h1 := h9) [(5, .ptr (some (h3.size, 0))), (7, .ptr (some (h6.size, 0))), (29, .bool true), (31, .str x1.Link)] H (fun fr => by kernel_rfl) (fun fr => .of (s_ld (by kernel_rfl) (A.ld1 1 rfl (o := 1) rfl))) ?_
    intro fr t H
    refine at_seg [(13, [])] [(5, .ptr (some (h3.size, 0))), (7, .ptr (some (h6.size, 0))), (29, .bool true), (31, .str x1.Link), (32, .ptr (some (h6.size, 1)))] H (noU_all rfl) (fun fr => by kernel_rfl) ?_
    intro fr H
    refine at_step (v := .str x3.Link) (h1 := h9) [(5, .ptr (some (h3.size, 0))), (7, .ptr (some (h6.size, 0))), (29, .bool true), (31, .str x1.Link), (33, .str x3.Link)] H (fun fr => by kernel_rfl) (fun fr => .of (s_ld (by kernel_rfl) (A.ld1 0 rfl (o := 1) rfl))) ?_
    intro fr t H
    refine at_seg [(15, []), (16, [])] [(5, .ptr (some (h3.size, 0))), (7, .ptr (some (h6.size, 0))), (35, .bool (x1.Link == x3.Link))] H (noU_all rfl) (fun fr => by kernel_rfl) ?_
    intro fr H
    exact at_nil ⟨rfl, by first | exact H.less _ (fun fr => by rfl) | exact H.less _ (fun fr => by rw [hb]; rfl)⟩
   | false =>
    replace H := H.know 29 hb (by kernel_rfl)
    refine at_seg [(11, []), (12, []), (13, []), (14, []), (15, []), (16, [])] [(5, .ptr (some (h3.size, 0))), (7, .ptr (some (h6.size, 0))), (35, .bool false)] H (noU_all rfl) (fun fr => by kernel_rfl) ?_
    intro fr H
    exact at_nil ⟨rfl, by first | exact H.less _ (fun fr => by rfl) | exact H.less _ (fun fr => by rw [hb]; rfl)⟩
  ·intro t fr h' hK
   obtain ⟨e, H⟩ := hK
   subst e
   refine at_seg [(17, [])] [(5, .ptr (some (h3.size, 0))), (7, .ptr (some (h6.size, 0))), (36, .bool ((x5 && (x1.Name == x3.Name)) && (x1.Link == x3.Link)))] H (noU_all rfl) (fun fr => by kernel_rfl) ?_
   intro fr H
   refine at_cut [(18, []), (19, []), (20, []), (21, []), (22, []), (23, [])] (fun fr' h' => h9 = h' ∧ Has fr' 106 [(5, .ptr (some (h3.size, 0))), (7, .ptr (some (h6.size, 0))), (42, .bool (((x5 && (x1.Name == x3.Name)) && (x1.Link == x3.Link)) && (x1.Kind == x3.Kind)))]) ?_ ?_
   ·cases hb : ((x5 && (x1.Name == x3.Name)) && (x1.Link == x3.Link) : Bool) with
    | true =>
     replace H := H.know 36 hb (by kernel_rfl)
     refine at_seg [(18, [])] [(5, .ptr (some (h3.size, 0))), (7, .ptr (some (h6.size, 0))), (36, .bool true), (37, .ptr (some (h3.size, 2)))] H (noU_all rfl) (fun fr => by kernel_rfl) ?_
     intro fr H
     refine at_step (v := .int .u8 x1.Kind) (h1 := h9) [(5, .ptr (some (h3.size, 0))), (7, .ptr (some (h6.size, 0))), (36, .bool true), (38, .int .u8 x1.Kind)] H (fun fr => by kernel_rfl) (fun fr => .of (s_ld (by kernel_rfl) (A.ld1 1 rfl (o := 2) rfl))) ?_
     intro fr t H
     refine at_seg [(20, [])] [(5, .ptr (some (h3.size, 0))), (7, .ptr (some (h6.size, 0))), (36, .bool true), (38, .int .u8 x1.Kind), (39, .ptr (some (h6.size, 2)))] H (noU_all rfl) (fun fr => by kernel_rfl) ?_
     intro fr H
     refine at_step (v := .int .u8 x3.Kind) (h1 := h9) [(5, .ptr (some (h3.size, 0))), (7, .ptr (some (h6.size, 0))), (36, .bool true), (38, .int .u8 x1.Kind), (40, .int .u8 x3.Kind)] H (fun fr => by kernel_rfl) (fun fr => .of (s_ld (by kernel_rfl) (A.ld1 0 rfl (o := 2) rfl))) ?_
     intro fr t H
     refine at_seg [(22, []), (23, [])] [(5, .ptr (some (h3.size, 0))), (7, .ptr (some (h6.size, 0))), (42, .bool (x1.Kind == x3.Kind))] H (noU_all rfl) (fun fr => by kernel_rfl) ?_
     intro fr H
     exact at_nil ⟨rfl, by first | exact H.less _ (fun fr => by rfl) | exact H.less _ (fun fr => by rw [hb]; rfl)⟩
    | false =>
     replace H := H.know 36 hb (by kernel_rfl)
     refine at_seg [(18, []), (19, []), (20, []), (21, []), (22, []), (23, [])] [(5, .ptr (some (h3.size, 0))), (7, .ptr (some (h6.size, 0))), (42, .bool false)] H (noU_all rfl) (fun fr => by kernel_rfl) ?_
     intro fr H
     exact at_nil ⟨rfl, by first | exact H.less _ (fun fr => by rfl) | exact H.less _ (fun fr => by rw [hb]; rfl)⟩
   ·intro t fr h' hK
    obtain ⟨e, H⟩ := hK
    subst e
    refine at_seg [(24, [])] [(5, .ptr (some (h3.size, 0))), (7, .ptr (some (h6.size, 0))), (43, .bool (((x5 && (x1.Name == x3.Name)) && (x1.Link == x3.Link)) && (x1.Kind == x3.Kind)))] H (noU_all rfl) (fun fr => by kernel_rfl) ?_
    intro fr H
    refine at_cut [(25, []), (26, []), (27, []), (28, []), (29, []), (30, [])] (fun fr' h' => h9 = h' ∧ Has fr' 106 [(5, .ptr (some (h3.size, 0))), (7, .ptr (some (h6.size, 0))), (49, .bool ((((x5 && (x1.Name == x3.Name)) && (x1.Link == x3.Link)) && (x1.Kind == x3.Kind)) && (x1.Mode == x3.Mode)))]) ?_ ?_
    ·cases hb : (((x5 && (x1.Name == x3.Name)) && (x1.Link == x3.Link)) && (x1.Kind == x3.Kind) : Bool) with
     | true =>
      replace H := H.know 43 hb (by kernel_rfl)
      refine at_seg [(25, [])] [(5, .ptr (some (h3.size, 0))), (7, .ptr (some (h6.size, 0))), (43, .bool true), (44, .ptr (some (h3.size, 3)))] H (noU_all rfl) (fun fr => by kernel_rfl) ?_
      intro fr H
      refine at_step (v := .int .i64 x1.Mode) (h1 := h9) [(5, .ptr (some (h3.size, 0))), (7, .ptr (some (h6.size, 0))), (43, .bool true), (45, .int .i64 x1.Mode)] H (fun fr => by kernel_rfl) (fun fr => .of (s_ld (by kernel_rfl) (A.ld1 1 rfl (o := 3) rfl))) ?_
      intro fr t H
      refine at_seg [(27, [])] [(5, .ptr (some (h3.size, 0))), (7, .ptr (some (h6.size, 0))), (43, .bool true), (45, .int .i64 x1.Mode), (46, .ptr (some (h6.size, 3)))] H (noU_all rfl) (fun fr => by kernel_rfl) ?_
      intro fr H
      refine at_step (v := .int .i64 x3.Mode) (h1 := h9) [(5, .ptr (some (h3.size, 0))), (7, .ptr (some (h6.size, 0))), (43, .bool true), (45, .int .i64 x1.Mode), (47, .int .i64 x3.Mode)] H (fun fr => by kernel_rfl) (fun fr => .of (s_ld (by kernel_rfl) (A.ld1 0 rfl (o := 3) rfl))) ?_
      intro fr t H
      refine at_seg [(29, []), (30, [])] [(5, .ptr (some (h3.size, 0))), (7, .ptr (some (h6.size, 0))), (49, .bool (x1.Mode == x3.Mode))] H (noU_all rfl) (fun fr => by kernel_rfl) ?_
      intro fr H
      exact at_nil ⟨rfl, by first | exact H.less _ (fun fr => by rfl) | exact H.less _ (fun fr => by rw [hb]; rfl)⟩
     | false =>
      replace H := H.know 43 hb (by kernel_rfl)
      refine at_seg [(25, []), (26, []), (27, []), (28, []), (29, []), (30, [])] [(5, .ptr (some (h3.size, 0))), (7, .ptr (some (h6.size, 0))), (49, .bool false)] H (noU_all rfl) (fun fr => by kernel_rfl) ?_
      intro fr H
      exact at_nil ⟨rfl, by first | exact H.less _ (fun fr => by rfl) | exact H.less _ (fun fr => by rw [hb]; rfl)⟩
    ·intro t fr h' hK
     obtain ⟨e, H⟩ := hK
     subst e
     refine at_seg [(31, [])] [(5, .ptr (some (h3.size, 0))), (7, .ptr (some (h6.size, 0))), (50, .bool ((((x5 && (x1.Name == x3.Name)) && (x1.Link == x3.Link)) && (x1.Kind == x3.Kind)) && (x1.Mode == x3.Mode)))] H (noU_all rfl) (fun fr => by kernel_rfl) ?_
     intro fr H
     refine at_cut [(32, []), (33, []), (34, []), (35, []), (36, []), (37, [])] (fun fr' h' => h9 = h' ∧ Has fr' 106 [(5, .ptr (some (h3.size, 0))), (7, .ptr (some (h6.size, 0))), (56, .bool (((((x5 && (x1.Name == x3.Name)) && (x1.Link == x3.Link)) && (x1.Kind == x3.Kind)) && (x1.Mode == x3.Mode)) && (x1.Uid == x3.Uid)))]) ?_ ?_
     ·cases hb : ((((x5 && (x1.Name == x3.Name)) && (x1.Link == x3.Link)) && (x1.Kind == x3.Kind)) && (x1.Mode == x3.Mode) : Bool) with
      | true =>
       replace H := H.know 50 hb (by kernel_rfl)
       refine at_seg [(32, [])] [(5, .ptr (some (h3.size, 0))), (7, .ptr (some (h6.size, 0))), (50, .bool true), (51, .ptr (some (h3.size, 4)))] H (noU_all rfl) (fun fr => by kernel_rfl) ?_
       intro fr H
       refine at_step (v := .int .i64 x1.Uid) (h1 := h9) [(5, .ptr (some (h3.size, 0))), (7, .ptr (some (h6.size, 0))), (50, .bool true), (52, .int .i64 x1.Uid)] H (fun fr => by kernel_rfl) (fun fr => .of (s_ld (by kernel_rfl) (A.ld1 1 rfl (o := 4) rfl))) ?_
       intro fr t H
       refine at_seg [(34, [])] [(5, .ptr (some (h3.size, 0))), (7, .ptr (some (h6.size, 0))), (50, .bool true), (52, .int .i64 x1.Uid), (53, .ptr (some (h6.size, 4)))] H (noU_all rfl) (fun fr => by kernel_rfl) ?_
       intro fr H
       refine at_step (v := .int .i64 x3.Uid) (h1 := h9) [(5, .ptr (some (h3.size, 0))), (7, .ptr (some (h6.size, 0))), (50, .bool true), (52, .int .i64 x1.Uid), (54, .int .i64 x3.Uid)] H (fun fr => by kernel_rfl) (fun fr => .of (s_ld (by kernel_rfl) (A.ld1 0 rfl (o := 4) rfl))) ?_
       intro fr t H
       refine at_seg [(36, []), (37, [])] [(5, .ptr (some (h3.size, 0))), (7, .ptr (some (h6.size, 0))), (56, .bool (x1.Uid == x3.Uid))] H (noU_all rfl) (fun fr => by kernel_rfl) ?_
       intro fr H
       exact at_nil ⟨rfl, by first | exact H.less _ (fun fr => by rfl) | exact H.less _ (fun fr => by rw [hb]; rfl)⟩
      | false =>
       replace H := H.know 50 hb (by kernel_rfl)
       refine at_seg [(32, []), (33, []), (34, []), (35, []), (36, []), (37, [])] [(5, .ptr (some (h3.size, 0))), (7, .ptr (some (h6.size, 0))), (56, .bool false)] H (noU_all rfl) (fun fr => by kernel_rfl) ?_
       intro fr H
       exact at_nil ⟨rfl, by first | exact H.less _ (fun fr => by rfl) | exact H.less _ (fun fr => by rw [hb]; rfl)⟩
     ·intro t fr h' hK
      obtain ⟨e, H⟩ := hK
      subst e
      refine at_seg [(38, [])] [(5, .ptr (some (h3.size, 0))), (7, .ptr (some (h6.size, 0))), (57, .bool (((((x5 && (x1.Name == x3.Name)) && (x1.Link == x3.Link)) && (x1.Kind == x3.Kind)) && (x1.Mode == x3.Mode)) && (x1.Uid == x3.Uid)))] H (noU_all rfl) (fun fr => by kernel_rfl) ?_
      intro fr H
      refine at_cut [(39, []), (40, []), (41, []), (42, []), (43, []), (44, [])] (fun fr' h' => h9 = h' ∧ Has fr' 106 [(5, .ptr (some (h3.size, 0))), (7, .ptr (some (h6.size, 0))), (63, .bool ((((((x5 && (x1.Name == x3.Name)) && (x1.Link == x3.Link)) && (x1.Kind == x3.Kind)) && (x1.Mode == x3.Mode)) && (x1.Uid == x3.Uid)) && (x1.Gid == x3.Gid)))]) ?_ ?_
      ·cases hb : (((((x5 && (x1.Name == x3.Name)) && (x1.Link == x3.Link)) && (x1.Kind == x3.Kind)) && (x1.Mode == x3.Mode)) && (x1.Uid == x3.Uid) : Bool) with
       | true =>
        replace H := H.know 57 hb (by kernel_rfl)
        refine at_seg [(39, [])] [(5, .ptr (some (h3.size, 0))), (7, .ptr (some (h6.size, 0))), (57, .bool true), (58, .ptr (some (h3.size, 5)))] H (noU_all rfl) (fun fr => by kernel_rfl) ?_
        intro fr H
        refine at_step (v := .int .i64 x1.Gid) (h1 := h9) [(5, .ptr (some (h3.size, 0))), (7, .ptr (some (h6.size, 0))), (57, .bool true), (59, .int .i64 x1.Gid)] H (fun fr => by kernel_rfl) (fun fr => .of (s_ld (by kernel_rfl) (A.ld1 1 rfl (o := 5) rfl))) ?_
        intro fr t H
        refine at_seg [(41, [])] [(5, .ptr (some (h3.size, 0))), (7, .ptr (some (h6.size, 0))), (57, .bool true), (59, .int .i64 x1.Gid), (60, .ptr (some (h6.size, 5)))] H (noU_all rfl) (fun fr => by kernel_rfl) ?_
        intro fr H
        refine at_step (v := .int .i64 x3.Gid) (h1 := h9) [(5, .ptr (some (h3.size, 0))), (7, .ptr (some (h6.size, 0))), (57, .bool true), (59, .int .i64 x1.Gid), (61, .int .i64 x3.Gid)] H (fun fr => by kernel_rfl) (fun fr => .of (s_ld (by kernel_rfl) (A.ld1 0 rfl (o := 5) rfl))) ?_
        intro fr t H
        refine at_seg [(43, []), (44, [])] [(5, .ptr (some (h3.size, 0))), (7, .ptr (some (h6.size, 0))), (63, .bool (x1.Gid == x3.Gid))] H (noU_all rfl) (fun fr => by kernel_rfl) ?_
        intro fr H
        exact at_nil ⟨rfl, by first | exact H.less _ (fun fr => by rfl) | exact H.less _ (fun fr => by rw [hb]; rfl)⟩
       | false =>
        replace H := H.know 57 hb (by kernel_rfl)
        refine at_seg [(39, []), (40, []), (41, []), (42, []), (43, []), (44, [])] [(5, .ptr (some (h3.size, 0))), (7, .ptr (some (h6.size, 0))), (63, .bool false)] H (noU_all rfl) (fun fr => by kernel_rfl) ?_
        intro fr H
        exact at_nil ⟨rfl, by first | exact H.less _ (fun fr => by rfl) | exact H.less _ (fun fr => by rw [hb]; rfl)⟩
      ·intro t fr h' hK
       obtain ⟨e, H⟩ := hK
       subst e
       refine at_seg [(45, [])] [(5, .ptr (some (h3.size, 0))), (7, .ptr (some (h6.size, 0))), (64, .bool ((((((x5 && (x1.Name == x3.Name)) && (x1.Link == x3.Link)) && (x1.Kind == x3.Kind)) && (x1.Mode == x3.Mode)) && (x1.Uid == x3.Uid)) && (x1.Gid == x3.Gid)))] H (noU_all rfl) (fun fr => by kernel_rfl) ?_
       intro fr H
       refine at_cut [(46, []), (47, []), (48, []), (49, []), (50, []), (51, [])] (fun fr' h' => h9 = h' ∧ Has fr' 106 [(5, .ptr (some (h3.size, 0))), (7, .ptr (some (h6.size, 0))), (70, .bool (((((((x5 && (x1.Name == x3.Name)) && (x1.Link == x3.Link)) && (x1.Kind == x3.Kind)) && (x1.Mode == x3.Mode)) && (x1.Uid == x3.Uid)) && (x1.Gid == x3.Gid)) && (x1.Uname == x3.Uname)))]) ?_ ?_
       ·cases hb : ((((((x5 && (x1.Name == x3.Name)) && (x1.Link == x3.Link)) && (x1.Kind == x3.Kind)) && (x1.Mode == x3.Mode)) && (x1.Uid == x3.Uid)) && (x1.Gid == x3.Gid) : Bool) with
        | true =>
         replace H := H.know 64 hb (by kernel_rfl)
         refine at_seg [(46, [])] [(5, .ptr (some (h3.size, 0))), (7, .ptr (some (h6.size, 0))), (64, .bool true), (65, .ptr (some (h3.size, 6)))] H (noU_all rfl) (fun fr => by kernel_rfl) ?_
         intro fr H
         refine at_step (v := .str x1.Uname) (h1 := h9) [(5, .ptr (some (h3.size, 0))), (7, .ptr (some (h6.size, 0))), (64, .bool true), (66, .str x1.Uname)] H (fun fr => by kernel_rfl) (fun fr => .of (s_ld (by kernel_rfl) (A.ld1 1 rfl (o := 6) rfl))) ?_
         intro fr t H
         refine at_seg [(48, [])] [(5, .ptr (some (h3.size, 0))), (7, .ptr (some (h6.size, 0))), (64, .bool true), (66, .str x1.Uname), (67, .ptr (some (h6.size, 6)))] H (noU_all rfl) (fun fr => by kernel_rfl) ?_
         intro fr H
         refine at_step (v := .str x3.Uname) (h1 := h9) [(5, .ptr (some (h3.size, 0))), (7, .ptr (some (h6.size, 0))), (64, .bool true), (66, .str x1.Uname), (68, .str x3.Uname)] H (fun fr => by kernel_rfl) (fun fr => .of (s_ld (by kernel_rfl) (A.ld1 0 rfl (o := 6) rfl))) ?_
         intro fr t H
         refine at_seg [(50, []), (51, [])] [(5, .ptr (some (h3.size, 0))), (7, .ptr (some (h6.size, 0))), (70, .bool (x1.Uname == x3.Uname))] H (noU_all rfl) (fun fr => by kernel_rfl) ?_
         intro fr H
         exact at_nil ⟨rfl, by first | exact H.less _ (fun fr => by rfl) | exact H.less _ (fun fr => by rw [hb]; rfl)⟩
        | false =>
         replace H := H.know 64 hb (by kernel_rfl)
         refine at_seg [(46, []), (47, []), (48, []), (49, []), (50, []), (51, [])] [(5, .ptr (some (h3.size, 0))), (7, .ptr (some (h6.size, 0))), (70, .bool false)] H (noU_all rfl) (fun fr => by kernel_rfl) ?_
         intro fr H
         exact at_nil ⟨rfl, by first | exact H.less _ (fun fr => by rfl) | exact H.less _ (fun fr => by rw [hb]; rfl)⟩
       ·intro t fr h' hK
        obtain ⟨e, H⟩ := hK
        subst e
        refine at_seg [(52, [])] [(5, .ptr (some (h3.size, 0))), (7, .ptr (some (h6.size, 0))), (71, .bool (((((((x5 && (x1.Name == x3.Name)) && (x1.Link == x3.Link)) && (x1.Kind == x3.Kind)) && (x1.Mode == x3.Mode)) && (x1.Uid == x3.Uid)) && (x1.Gid == x3.Gid)) && (x1.Uname == x3.Uname)))] H (noU_all rfl) (fun fr => by kernel_rfl) ?_
        intro fr H
        refine at_cut [(53, []), (54, []), (55, []), (56, []), (57, []), (58, [])] (fun fr' h' => h9 = h' ∧ Has fr' 106 [(5, .ptr (some (h3.size, 0))), (7, .ptr (some (h6.size, 0))), (77, .bool ((((((((x5 && (x1.Name == x3.Name)) && (x1.Link == x3.Link)) && (x1.Kind == x3.Kind)) && (x1.Mode == x3.Mode)) && (x1.Uid == x3.Uid)) && (x1.Gid == x3.Gid)) && (x1.Uname == x3.Uname)) && (x1.Gname == x3.Gname)))]) ?_ ?_
        ·cases hb : (((((((x5 && (x1.Name == x3.Name)) && (x1.Link == x3.Link)) && (x1.Kind == x3.Kind)) && (x1.Mode == x3.Mode)) && (x1.Uid == x3.Uid)) && (x1.Gid == x3.Gid)) && (x1.Uname == x3.Uname) : Bool) with
         | true =>
          replace H := H.know 71 hb (by kernel_rfl)
          refine at_seg [(53, [])] [(5, .ptr (some (h3.size, 0))), (7, .ptr (some (h6.size, 0))), (71, .bool true), (72, .ptr (some (h3.size, 7)))] H (noU_all rfl) (fun fr => by kernel_rfl) ?_
          intro fr H
          refine at_step (v := .str x1.Gname) (h1 := h9) [(5, .ptr (some (h3.size, 0))), (7, .ptr (some (h6.size, 0))), (71, .bool true), (73, .str x1.Gname)] H (fun fr => by kernel_rfl) (fun fr => .of (s_ld (by kernel_rfl) (A.ld1 1 rfl (o := 7) rfl))) ?_
          intro fr t H
          refine at_seg [(55, [])] [(5, .ptr (some (h3.size, 0))), (7, .ptr (some (h6.size, 0))), (71, .bool true), (73, .str x1.Gname), (74, .ptr (some (h6.size, 7)))] H (noU_all rfl) (fun fr => by kernel_rfl) ?_
          intro fr H
          refine at_step (v := .str x3.Gname) (h1 := h9) [(5, .ptr (some (h3.size, 0))), (7, .ptr (some (h6.size, 0))), (71, .bool true), (73, .str x1.Gname), (75, .str x3.Gname)] H (fun fr => by kernel_rfl) (fun fr => .of (s_ld (by kernel_rfl) (A.ld1 0 rfl (o := 7) rfl))) ?_
          intro fr t H
          refine at_seg [(57, []), (58, [])] [(5, .ptr (some (h3.size, 0))), (7, .ptr (some (h6.size, 0))), (77, .bool (x1.Gname == x3.Gname))] H (noU_all rfl) (fun fr => by kernel_rfl) ?_
          intro fr H
          exact at_nil ⟨rfl, by first | exact H.less _ (fun fr => by rfl) | exact H.less _ (fun fr => by rw [hb]; rfl)⟩
         | false =>
          replace H := H.know 71 hb (by kernel_rfl)
          refine at_seg [(53, []), (54, []), (55, []), (56, []), (57, []), (58, [])] [(5, .ptr (some (h3.size, 0))), (7, .ptr (some (h6.size, 0))), (77, .bool false)] H (noU_all rfl) (fun fr => by kernel_rfl) ?_
          intro fr H
          exact at_nil ⟨rfl, by first | exact H.less _ (fun fr => by rfl) | exact H.less _ (fun fr => by rw [hb]; rfl)⟩
        ·intro t fr h' hK
         obtain ⟨e, H⟩ := hK
         subst e
         refine at_seg [(59, [])] [(5, .ptr (some (h3.size, 0))), (7, .ptr (some (h6.size, 0))), (78, .bool ((((((((x5 && (x1.Name == x3.Name)) && (x1.Link == x3.Link)) && (x1.Kind == x3.Kind)) && (x1.Mode == x3.Mode)) && (x1.Uid == x3.Uid)) && (x1.Gid == x3.Gid)) && (x1.Uname == x3.Uname)) && (x1.Gname == x3.Gname)))] H (noU_all rfl) (fun fr => by kernel_rfl) ?_
         intro fr H
         refine at_cut [(60, []), (61, []), (62, []), (63, []), (64, []), (65, [])] (fun fr' h' => h9 = h' ∧ Has fr' 106 [(5, .ptr (some (h3.size, 0))), (7, .ptr (some (h6.size, 0))), (84, .bool (((((((((x5 && (x1.Name == x3.Name)) && (x1.Link == x3.Link)) && (x1.Kind == x3.Kind)) && (x1.Mode == x3.Mode)) && (x1.Uid == x3.Uid)) && (x1.Gid == x3.Gid)) && (x1.Uname == x3.Uname)) && (x1.Gname == x3.Gname)) && (x1.Major == x3.Major)))]) ?_ ?_
         ·cases hb : ((((((((x5 && (x1.Name == x3.Name)) && (x1.Link == x3.Link)) && (x1.Kind == x3.Kind)) && (x1.Mode == x3.Mode)) && (x1.Uid == x3.Uid)) && (x1.Gid == x3.Gid)) && (x1.Uname == x3.Uname)) && (x1.Gname == x3.Gname) : Bool) with
          | true =>
           replace H := H.know 78 hb (by kernel_rfl)
           refine at_seg [(60, [])] [(5, .ptr (some (h3.size, 0))), (7, .ptr (some (h6.size, 0))), (78, .bool true), (79, .ptr (some (h3.size, 8)))] H (noU_all rfl) (fun fr => by kernel_rfl) ?_
           intro fr H
           refine at_step (v := .int .i64 x1.Major) (h1 := h9) [(5, .ptr (some (h3.size, 0))), (7, .ptr (some (h6.size, 0))), (78, .bool true), (80, .int .i64 x1.Major)] H (fun fr => by kernel_rfl) (fun fr => .of (s_ld (by kernel_rfl) (A.ld1 1 rfl (o := 8) rfl))) ?_
           intro fr t H
           refine at_seg [(62, [])] [(5, .ptr (some (h3.size, 0))), (7, .ptr (some (h6.size, 0))), (78, .bool true), (80, .int .i64 x1.Major), (81, .ptr (some (h6.size, 8)))] H (noU_all rfl) (fun fr => by kernel_rfl) ?_
           intro fr H
           refine at_step (v := .int .i64 x3.Major) (h1 := h9) [(5, .ptr (some (h3.size, 0))), (7, .ptr (some (h6.size, 0))), (78, .bool true), (80, .int .i64 x1.Major), (82, .int .i64 x3.Major)] H (fun fr => by kernel_rfl) (fun fr => .of (s_ld (by kernel_rfl) (A.ld1 0 rfl (o := 8) rfl))) ?_
           intro fr t H
           refine at_seg [(64, []), (65, [])] [(5, .ptr (some (h3.size, 0))), (7, .ptr (some (h6.size, 0))), (84, .bool (x1.Major == x3.Major))] H (noU_all rfl) (fun fr => by kernel_rfl) ?_
           intro fr H
           exact at_nil ⟨rfl, by first | exact H.less _ (fun fr => by rfl) | exact H.less _ (fun fr => by rw [hb]; rfl)⟩
          | false =>
           replace H := H.know 78 hb (by kernel_rfl)
           refine at_seg [(60, []), (61, []), (62, []), (63, []), (64, []), (65, [])] [(5, .ptr (some (h3.size, 0))), (7, .ptr (some (h6.size, 0))), (84, .bool false)] H (noU_all rfl) (fun fr => by kernel_rfl) ?_
           intro fr H
           exact at_nil ⟨rfl, by first | exact H.less _ (fun fr => by rfl) | exact H.less _ (fun fr => by rw [hb]; rfl)⟩
         ·intro t fr h' hK
          obtain ⟨e, H⟩ := hK
          subst e
          refine at_seg [(66, [])] [(5, .ptr (some (h3.size, 0))), (7, .ptr (some (h6.size, 0))), (85, .bool (((((((((x5 && (x1.Name == x3.Name)) && (x1.Link == x3.Link)) && (x1.Kind == x3.Kind)) && (x1.Mode == x3.Mode)) && (x1.Uid == x3.Uid)) && (x1.Gid == x3.Gid)) && (x1.Uname == x3.Uname)) && (x1.Gname == x3.Gname)) && (x1.Major == x3.Major)))] H (noU_all rfl) (fun fr => by kernel_rfl) ?_
          intro fr H
          refine at_cut [(67, []), (68, []), (69, []), (70, []), (71, []), (72, [])] (fun fr' h' => h9 = h' ∧ Has fr' 106 [(5, .ptr (some (h3.size, 0))), (7, .ptr (some (h6.size, 0))), (91, .bool ((((((((((x5 && (x1.Name == x3.Name)) && (x1.Link == x3.Link)) && (x1.Kind == x3.Kind)) && (x1.Mode == x3.Mode)) && (x1.Uid == x3.Uid)) && (x1.Gid == x3.Gid)) && (x1.Uname == x3.Uname)) && (x1.Gname == x3.Gname)) && (x1.Major == x3.Major)) && (x1.Minor == x3.Minor)))]) ?_ ?_
          ·cases hb : (((((((((x5 && (x1.Name == x3.Name)) && (x1.Link == x3.Link)) && (x1.Kind == x3.Kind)) && (x1.Mode == x3.Mode)) && (x1.Uid == x3.Uid)) && (x1.Gid == x3.Gid)) && (x1.Uname == x3.Uname)) && (x1.Gname == x3.Gname)) && (x1.Major == x3.Major) : Bool) with
           | true =>
            replace H := H.know 85 hb (by kernel_rfl)
            refine at_seg [(67, [])] [(5, .ptr (some (h3.size, 0))), (7, .ptr (some (h6.size, 0))), (85, .bool true), (86, .ptr (some (h3.size, 9)))] H (noU_all rfl) (fun fr => by kernel_rfl) ?_
            intro fr H
            refine at_step (v := .int .i64 x1.Minor) (h1 := h9) [(5, .ptr (some (h3.size, 0))), (7, .ptr (some (h6.size, 0))), (85, .bool true), (87, .int .i64 x1.Minor)] H (fun fr => by kernel_rfl) (fun fr => .of (s_ld (by kernel_rfl) (A.ld1 1 rfl (o := 9) rfl))) ?_
            intro fr t H
            refine at_seg [(69, [])] [(5, .ptr (some (h3.size, 0))), (7, .ptr (some (h6.size, 0))), (85, .bool true), (87, .int .i64 x1.Minor), (88, .ptr (some (h6.size, 9)))] H (noU_all rfl) (fun fr => by kernel_rfl) ?_
            intro fr H
            refine at_step (v := .int .i64 x3.Minor) (h1 := h9) [(5, .ptr (some (h3.size, 0))), (7, .ptr (some (h6.size, 0))), (85, .bool true), (87, .int .i64 x1.Minor), (89, .int .i64 x3.Minor)] H (fun fr => by kernel_rfl) (fun fr => .of (s_ld (by kernel_rfl) (A.ld1 0 rfl (o := 9) rfl))) ?_
            intro fr t H
            refine at_seg [(71, []), (72, [])] [(5, .ptr (some (h3.size, 0))), (7, .ptr (some (h6.size, 0))), (91, .bool (x1.Minor == x3.Minor))] H (noU_all rfl) (fun fr => by kernel_rfl) ?_
            intro fr H
            exact at_nil ⟨rfl, by first | exact H.less _ (fun fr => by rfl) | exact H.less _ (fun fr => by rw [hb]; rfl)⟩
           | false =>
            replace H := H.know 85 hb (by kernel_rfl)
            refine at_seg [(67, []), (68, []), (69, []), (70, []), (71, []), (72, [])] [(5, .ptr (some (h3.size, 0))), (7, .ptr (some (h6.size, 0))), (91, .bool false)] H (noU_all rfl) (fun fr => by kernel_rfl) ?_
            intro fr H
            exact at_nil ⟨rfl, by first | exact H.less _ (fun fr => by rfl) | exact H.less _ (fun fr => by rw [hb]; rfl)⟩
          ·intro t fr h' hK
           obtain ⟨e, H⟩ := hK
           subst e
           refine at_seg [(73, [])] [(5, .ptr (some (h3.size, 0))), (7, .ptr (some (h6.size, 0))), (92, .bool ((((((((((x5 && (x1.Name == x3.Name)) && (x1.Link == x3.Link)) && (x1.Kind == x3.Kind)) && (x1.Mode == x3.Mode)) && (x1.Uid == x3.Uid)) && (x1.Gid == x3.Gid)) && (x1.Uname == x3.Uname)) && (x1.Gname == x3.Gname)) && (x1.Major == x3.Major)) && (x1.Minor == x3.Minor)))] H (noU_all rfl) (fun fr => by kernel_rfl) ?_
           intro fr H
           obtain ⟨x6, ho, hm⟩ := bind_some hm
           refine at_cut [(74, []), (75, []), (76, []), (77, []), (78, []), (79, [])] (fun fr' h' => Has fr' 106 [(5, .ptr (some (h3.size, 0))), (7, .ptr (some (h6.size, 0))), (98, .bool x6)] ∧ HH g h' [.obj h6.size (.cells none 2 (e_S_api_Member x3)), .obj h3.size (.cells none 2 (e_S_api_Member x1)), .obj h1.size (.cells none 2 (e_S_api_Member p1)), .obj h.size (.cells none 2 (e_S_api_Member p0))] F) ?_ ?_
           ·rcases iteB_some ho with ⟨hb, hm⟩ | ⟨hb, hm⟩
            ·replace H := H.know 92 hb (by kernel_rfl)
             refine at_seg [(74, [])] [(5, .ptr (some (h3.size, 0))), (7, .ptr (some (h6.size, 0))), (92, .bool true), (93, .ptr (some (h3.size, 10)))] H (noU_all rfl) (fun fr => by kernel_rfl) ?_
             intro fr H
             refine at_step (v := .agg [.int .i64 x1.Time.Sec, .int .i64 x1.Time.Nsec]) (h1 := h9) [(5, .ptr (some (h3.size, 0))), (7, .ptr (some (h6.size, 0))), (92, .bool true), (94, .agg [.int .i64 x1.Time.Sec, .int .i64 x1.Time.Nsec])] H (fun fr => by kernel_rfl) (fun fr => .of (s_ldA (by kernel_rfl) (A.ldA 1 rfl (o := 10) (n := 2) ⟨Nat.le_of_ble_eq_true rfl, rfl⟩))) ?_
             intro fr t H
             refine at_seg [(76, [])] [(5, .ptr (some (h3.size, 0))), (7, .ptr (some (h6.size, 0))), (92, .bool true), (94, .agg [.int .i64 x1.Time.Sec, .int .i64 x1.Time.Nsec]), (95, .ptr (some (h6.size, 10)))] H (noU_all rfl) (fun fr => by kernel_rfl) ?_
             intro fr H
             refine at_step (v := .agg [.int .i64 x3.Time.Sec, .int .i64 x3.Time.Nsec]) (h1 := h9) [(5, .ptr (some (h3.size, 0))), (7, .ptr (some (h6.size, 0))), (92, .bool true), (94, .agg [.int .i64 x1.Time.Sec, .int .i64 x1.Time.Nsec]), (96, .agg [.int .i64 x3.Time.Sec, .int .i64 x3.Time.Nsec])] H (fun fr => by kernel_rfl) (fun fr => .of (s_ldA (by kernel_rfl) (A.ldA 0 rfl (o := 10) (n := 2) ⟨Nat.le_of_ble_eq_true rfl, rfl⟩))) ?_
             intro fr t H
             obtain ⟨x7, hx, hm⟩ := bind_some hm
             refine at_step (v := .bool x7) (h1 := h9) [(5, .ptr (some (h3.size, 0))), (7, .ptr (some (h6.size, 0))), (92, .bool true), (97, .bool x7)] H (fun fr => by kernel_rfl) (fun fr => .of (s_eqG (by kernel_rfl) hx)) ?_
             intro fr t H
             refine at_seg [(79, [])] [(5, .ptr (some (h3.size, 0))), (7, .ptr (some (h6.size, 0))), (98, .bool x7)] H (noU_all rfl) (fun fr => by kernel_rfl) ?_
             intro fr H
             have e1 := Option.some.inj hm
             subst e1
             exact at_nil ⟨H.less _ (fun fr => by kernel_rfl), A⟩
            ·replace H := H.know 92 hb (by kernel_rfl)
             refine at_seg [(74, []), (75, []), (76, []), (77, []), (78, []), (79, [])] [(5, .ptr (some (h3.size, 0))), (7, .ptr (some (h6.size, 0))), (98, .bool false)] H (noU_all rfl) (fun fr => by kernel_rfl) ?_
             intro fr H
             have e1 := Option.some.inj hm
             subst e1
             exact at_nil ⟨H.less _ (fun fr => by kernel_rfl), A⟩
           ·clear A
            intro t fr h10 hK
            obtain ⟨H, A⟩ := hK
            refine at_seg [(80, [])] [(5, .ptr (some (h3.size, 0))), (7, .ptr (some (h6.size, 0))), (99, .bool x6)] H (noU_all rfl) (fun fr => by kernel_rfl) ?_
            intro fr H
            refine at_cut [(81, []), (82, []), (83, []), (84, []), (85, []), (86, [])] (fun fr' h' => h10 = h' ∧ Has fr' 106 [(105, .bool (x6 && (x1.Data == x3.Data)))]) ?_ ?_
            ·cases hb : (x6 : Bool) with
             | true =>
              replace H := H.know 99 hb (by kernel_rfl)
              refine at_seg [(81, [])] [(7, .ptr (some (h6.size, 0))), (99, .bool true), (100, .ptr (some (h3.size, 13)))] H (noU_all rfl) (fun fr => by kernel_rfl) ?_
              intro fr H
              refine at_step (v := .str x1.Data) (h1 := h10) [(7, .ptr (some (h6.size, 0))), (99, .bool true), (101, .str x1.Data)] H (fun fr => by kernel_rfl) (fun fr => .of (s_ld (by kernel_rfl) (A.ld1 1 rfl (o := 13) rfl))) ?_
              intro fr t H
              refine at_seg [(83, [])] [(99, .bool true), (101, .str x1.Data), (102, .ptr (some (h6.size, 13)))] H (noU_all rfl) (fun fr => by kernel_rfl) ?_
              intro fr H
              refine at_step (v := .str x3.Data) (h1 := h10) [(99, .bool true), (101, .str x1.Data), (103, .str x3.Data)] H (fun fr => by kernel_rfl) (fun fr => .of (s_ld (by kernel_rfl) (A.ld1 0 rfl (o := 13) rfl))) ?_
              intro fr t H
              refine at_seg [(85, []), (86, [])] [(105, .bool (x1.Data == x3.Data))] H (noU_all rfl) (fun fr => by kernel_rfl) ?_
              intro fr H
              exact at_nil ⟨rfl, by first | exact H.less _ (fun fr => by rfl) | exact H.less _ (fun fr => by rw [hb]; rfl)⟩
             | false =>
              replace H := H.know 99 hb (by kernel_rfl)
              refine at_seg [(81, []), (82, []), (83, []), (84, []), (85, []), (86, [])] [(105, .bool false)] H (noU_all rfl) (fun fr => by kernel_rfl) ?_
              intro fr H
              exact at_nil ⟨rfl, by first | exact H.less _ (fun fr => by rfl) | exact H.less _ (fun fr => by rw [hb]; rfl)⟩
            ·intro t fr h' hK
             obtain ⟨e, H⟩ := hK
             subst e
             refine at_seg [(87, [])] [(4, .bool (x6 && (x1.Data == x3.Data)))] H (noU_all rfl) (fun fr => by kernel_rfl) ?_
             intro fr H
             refine at_nil ?_
             show AW cfg 16 g (right (right (right (right (bodyC cfg.P 16))))) fr h10 _
             refine aw_ret (by kernel_rfl) ?_
             have e1 := Option.some.inj hm
             subst e1
             refine ⟨.inl rfl, .bool (x6 && (x1.Data == x3.Data)), resH H (fun fr => by kernel_rfl), ?_⟩
             replace A : HH g h10 [] F := (HH.dropF A 0)
             exact ⟨rfl, A⟩
end Go.Av.L
