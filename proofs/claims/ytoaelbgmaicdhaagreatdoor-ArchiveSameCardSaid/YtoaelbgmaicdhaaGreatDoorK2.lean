/-
 Models of functions, and that the abstract run tells them. Written by lift2.py.
-/
import Derived.Test.YtoaelbgmaicdhaaGreatDoorKCfg
import Derived.Test.YtoaelbgmaicdhaaGreatDoorK0
import Derived.Test.YtoaelbgmaicdhaaGreatDoorK1
namespace Go.Av.L
open Go.Av Go.Lib
set_option maxRecDepth 10000
set_option linter.unusedVariables false
set_option linter.unusedSimpArgs false
/-! ### boulter/boulterlaw12.ArchiveSame -/
noncomputable def M_boulterlaw12_ArchiveSame_L0 (p0 : List S_api_Member) (p1 : List S_api_Member) (s : Int) : Option ((Int) ⊕ ((Unit) ⊕ (Bool))) :=
 match s with
 | x5 => iteB ((decide (x5 < (p0.length : Int))) && (decide (x5 < (p1.length : Int)))) ((ixV p0 x5).bind fun x7 => (ixV p1 x5).bind fun x8 => (ixV p0 x5).bind fun x9 => (ixV p1 x5).bind fun x10 => (M_archive_Same x7 x8).bind fun x11 => (M_boulterref07_Same x9 x10).bind fun x12 => iteB (!(x11 == x12)) (some (.inr (.inr false))) (some (.inl (IntKind.i64.wrap (x5 + (1 : Int)))))) (some (.inr (.inl ())))
noncomputable def M_boulterlaw12_ArchiveSame (p0 : List S_api_Member) (p1 : List S_api_Member) (p2 : List UInt8) : Option (Bool) :=
 (M_boulterlaw12_long p0).bind fun x1 => (iteB x1 (some true) ((M_boulterlaw12_long p1).bind fun x3 => some x3) : Option (Bool)).bind fun x2 => iteB (x2 || (decide ((p2.length : Int) > (600 : Int)))) ((M_boulterlaw12_awake).bind fun x4 => some x4) ((loop (M_boulterlaw12_ArchiveSame_L0 p0 p1) (0 : Int)).bind fun o1 => (match o1 with | .inl _ => (M_archive_Find p0 p2).bind fun (x13, x14) => (M_boulterref12_Find p0 p2).bind fun x15 => (M_archive_Equal p0 p1).bind fun x16 => (M_boulterref12_Same p0 p1).bind fun x17 => (iteB (((x16 == x17) && (x14 == (decide (x15 ≥ (0 : Int))))) && (x13 == (mx x15 (0 : Int)))) ((M_boulterlaw12_awake).bind fun x19 => some x19) (some false) : Option (Bool)).bind fun x18 => some x18 | .inr x6 => some x6))
theorem ok_boulterlaw12_ArchiveSame {g : Gd} {h : AHeap} {F : List Ck} {p0 : List S_api_Member} {p1 : List S_api_Member} {p2 : List UInt8} {q0 : Bool} {av : List AVal} (hm : M_boulterlaw12_ArchiveSame p0 p1 p2 = some q0) (hc : canL (cfg.still 5) av = [vs e_S_api_Member p0, vs e_S_api_Member p1, .str p2]) (A : HH g h [] F) : ∃ v h', Runs cfg g h 5 av v h' ∧ v = .bool q0 ∧ HH g h' [] F := by
 refine runsQ1 (n := 85) (rs := [.tmp 6]) (by kernel_rfl) hc (by kernel_rfl) ?_
 clear hc
 unfold M_boulterlaw12_ArchiveSame at hm
 refine start (n := 85) [(0, vs e_S_api_Member p0), (1, vs e_S_api_Member p1), (2, .str p2)] (by kernel_rfl) (by kernel_rfl) ?_
 intro fr H
 refine aw_seq (by kernel_rfl) ?_
 refine aw_reg (id := 0) (n := 1) [(0, [])] (by kernel_rfl) (by kernel_rfl) ?_
 refine at_seg [(0, [])] [(0, vs e_S_api_Member p0), (1, vs e_S_api_Member p1), (2, .str p2)] H (noU_all rfl) (fun fr => by kernel_rfl) ?_
 intro fr H
 refine at_nil ?_
 show AW cfg 5 g (right (bodyC cfg.P 5)) fr h _
 refine aw_seq (by kernel_rfl) ?_
 refine aw_seq (by kernel_rfl) ?_
 refine aw_reg (id := 1) (n := 11) [(0, []), (1, []), (2, []), (3, []), (4, []), (5, []), (6, []), (7, []), (8, []), (9, []), (10, [])] (by kernel_rfl) (by kernel_rfl) ?_
 refine at_seg [(0, [])] [(0, vs e_S_api_Member p0), (1, vs e_S_api_Member p1), (2, .str p2), (11, vs e_S_api_Member p0)] H (noU_all rfl) (fun fr => by kernel_rfl) ?_
 intro fr H
 have A1 := A.cut 0
 obtain ⟨x1, hx, hm⟩ := bind_some hm
 obtain ⟨v1, h1, hr, rfl, A1⟩ := ok_boulterlaw12_long (av := [vs e_S_api_Member p0]) hx (by kernel_rfl) A1
 replace A : HH g h1 [] F := A.glue0 (n := 0) A1
 refine at_step (v := .bool x1) (h1 := h1) [(0, vs e_S_api_Member p0), (1, vs e_S_api_Member p1), (2, .str p2), (12, .bool x1)] H (fun fr => by kernel_rfl) (fun fr => Steps.call (by kernel_rfl) hr) ?_
 intro fr t H
 refine at_seg [(2, [])] [(0, vs e_S_api_Member p0), (1, vs e_S_api_Member p1), (2, .str p2), (13, .bool x1)] H (noU_all rfl) (fun fr => by kernel_rfl) ?_
 intro fr H
 obtain ⟨x2, ho, hm⟩ := bind_some hm
 refine at_cut [(3, []), (4, []), (5, [])] (fun fr' h' => Has fr' 85 [(0, vs e_S_api_Member p0), (1, vs e_S_api_Member p1), (2, .str p2), (16, .bool x2)] ∧ HH g h' [] F) ?_ ?_
 ·rcases iteB_some ho with ⟨hb, hm⟩ | ⟨hb, hm⟩
  ·replace H := H.know 13 hb (by kernel_rfl)
   refine at_seg [(3, []), (4, []), (5, [])] [(0, vs e_S_api_Member p0), (1, vs e_S_api_Member p1), (2, .str p2), (16, .bool true)] H (noU_all rfl) (fun fr => by kernel_rfl) ?_
   intro fr H
   have e1 := Option.some.inj hm
   subst e1
   exact at_nil ⟨H.less _ (fun fr => by kernel_rfl), A⟩
  ·replace H := H.know 13 hb (by kernel_rfl)
   refine at_seg [(3, [])] [(0, vs e_S_api_Member p0), (1, vs e_S_api_Member p1), (2, .str p2), (13, .bool false), (14, vs e_S_api_Member p1)] H (noU_all rfl) (fun fr => by kernel_rfl) ?_
   intro fr H
   have A1 := A.cut 0
   obtain ⟨x3, hx, hm⟩ := bind_some hm
   obtain ⟨v1, h3, hr, rfl, A1⟩ := ok_boulterlaw12_long (av := [vs e_S_api_Member p1]) hx (by kernel_rfl) A1
   replace A : HH g h3 [] F := A.glue0 (n := 0) A1
   refine at_step (v := .bool x3) (h1 := h3) [(0, vs e_S_api_Member p0), (1, vs e_S_api_Member p1), (2, .str p2), (13, .bool false), (15, .bool x3)] H (fun fr => by kernel_rfl) (fun fr => Steps.call (by kernel_rfl) hr) ?_
   intro fr t H
   refine at_seg [(5, [])] [(0, vs e_S_api_Member p0), (1, vs e_S_api_Member p1), (2, .str p2), (16, .bool x3)] H (noU_all rfl) (fun fr => by kernel_rfl) ?_
   intro fr H
   have e1 := Option.some.inj hm
   subst e1
   exact at_nil ⟨H.less _ (fun fr => by kernel_rfl), A⟩
 ·clear A
  intro t fr h2 hK
  obtain ⟨H, A⟩ := hK
  refine at_seg [(6, [])] [(0, vs e_S_api_Member p0), (1, vs e_S_api_Member p1), (2, .str p2), (17, .bool x2)] H (noU_all rfl) (fun fr => by kernel_rfl) ?_
  intro fr H
  refine at_cut [(7, []), (8, []), (9, []), (10, [])] (fun fr' h' => h2 = h' ∧ Has fr' 85 [(0, vs e_S_api_Member p0), (1, vs e_S_api_Member p1), (2, .str p2), (21, .bool (x2 || (decide ((p2.length : Int) > (600 : Int)))))]) ?_ ?_
  ·cases hb : (x2 : Bool) with
   | true =>
    replace H := H.know 17 hb (by kernel_rfl)
    refine at_seg [(7, []), (8, []), (9, []), (10, [])] [(0, vs e_S_api_Member p0), (1, vs e_S_api_Member p1), (2, .str p2), (21, .bool true)] H (noU_all rfl) (fun fr => by kernel_rfl) ?_
    intro fr H
    exact at_nil ⟨rfl, by first | exact H.less _ (fun fr => by rfl) | exact H.less _ (fun fr => by rw [hb]; rfl)⟩
   | false =>
    replace H := H.know 17 hb (by kernel_rfl)
    refine at_seg [(7, []), (8, []), (9, []), (10, [])] [(0, vs e_S_api_Member p0), (1, vs e_S_api_Member p1), (2, .str p2), (21, .bool (decide ((p2.length : Int) > (600 : Int))))] H (noU_all rfl) (fun fr => by kernel_rfl) ?_
    intro fr H
    exact at_nil ⟨rfl, by first | exact H.less _ (fun fr => by rfl) | exact H.less _ (fun fr => by rw [hb]; rfl)⟩
  ·intro t fr h' hK
   obtain ⟨e, H⟩ := hK
   subst e
   refine at_nil ?_
   show AW cfg 5 g (right (left (right (bodyC cfg.P 5)))) fr h2 _
   rcases iteB_some hm with ⟨hb, hm⟩ | ⟨hb, hm⟩
   ·replace H := H.know 21 hb (by kernel_rfl)
    refine aw_true (x := .tmp 21) (by kernel_rfl) H (fun fr => by kernel_rfl) ?_
    refine aw_seq (by kernel_rfl) ?_
    refine aw_reg (id := 2) (n := 2) [(0, []), (1, [])] (by kernel_rfl) (by kernel_rfl) ?_
    obtain ⟨x4, hx, hm⟩ := bind_some hm
    refine at_step (v := .bool x4) (h1 := h2) [(22, .bool x4)] H (fun fr => by kernel_rfl) (fun fr => Steps.call (by kernel_rfl) (ok_boulterlaw12_awake hx)) ?_
    intro fr t H
    refine at_seg [(1, [])] [(6, .bool x4)] H (noU_all rfl) (fun fr => by kernel_rfl) ?_
    intro fr H
    refine at_nil ?_
    show AW cfg 5 g (right (left (right (left (right (bodyC cfg.P 5)))))) fr h2 _
    refine aw_ret (by kernel_rfl) ?_
    have e1 := Option.some.inj hm
    subst e1
    refine ⟨.inl rfl, .bool x4, resH H (fun fr => by kernel_rfl), ?_⟩
    exact ⟨rfl, A⟩
   ·replace H := H.know 21 hb (by kernel_rfl)
    refine aw_false (x := .tmp 21) (by kernel_rfl) H (fun fr => by kernel_rfl) ?_
    refine aw_skip (by kernel_rfl) ?_
    show AW cfg 5 g (right (right (bodyC cfg.P 5))) fr h2 _
    refine aw_seq (by kernel_rfl) ?_
    refine aw_seq (by kernel_rfl) ?_
    refine aw_reg (id := 3) (n := 1) [(0, [])] (by kernel_rfl) (by kernel_rfl) ?_
    refine at_seg [(0, [])] [(0, vs e_S_api_Member p0), (1, vs e_S_api_Member p1), (2, .str p2), (7, .int .i64 (0 : Int))] H (noU_all rfl) (fun fr => by kernel_rfl) ?_
    intro fr H
    refine at_nil ?_
    show AW cfg 5 g (right (left (right (right (bodyC cfg.P 5))))) fr h2 _
    refine aw_block (id := 0) (by kernel_rfl) ?_
    obtain ⟨o1, ho, hm⟩ := bind_some hm
    refine aw_mono (Q' := fun e fr' h' => (e = .exit 0 ∧ .inl () = o1 ∧ Has fr' 85 [(0, vs e_S_api_Member p0), (1, vs e_S_api_Member p1), (2, .str p2)] ∧ HH g h' [] F) ∨ (∃ (x6 : Bool), e = .ret ∧ .inr x6 = o1 ∧ Has fr' 85 [(6, .bool x6)] ∧ HH g h' [] F) ∨ False) ?_ ?_
    ·refine aw_loop (by kernel_rfl) (fun (s : Int) fr' h' => ∃ (x5 : Int), x5 = s ∧ Has fr' 85 [(0, vs e_S_api_Member p0), (1, vs e_S_api_Member p1), (2, .str p2), (7, .int .i64 x5)] ∧ HH g h' [] F) ho ⟨(0 : Int), rfl, H.less _ (fun fr => by kernel_rfl), A⟩ ?_
     clear ho hm H A
     intro s q fr h4 hI hm
     obtain ⟨x5, rfl, H, A⟩ := hI
     unfold M_boulterlaw12_ArchiveSame_L0 at hm
     refine aw_seq (by kernel_rfl) ?_
     refine aw_seq (by kernel_rfl) ?_
     refine aw_reg (id := 4) (n := 10) [(0, []), (1, []), (2, []), (3, []), (4, []), (5, []), (6, []), (7, []), (8, []), (9, [])] (by kernel_rfl) (by kernel_rfl) ?_
     refine at_seg [(0, []), (1, []), (2, []), (3, []), (4, [])] [(0, vs e_S_api_Member p0), (1, vs e_S_api_Member p1), (2, .str p2), (7, .int .i64 x5), (27, .bool (decide (x5 < (p0.length : Int))))] H (noU_all rfl) (fun fr => by kernel_rfl) ?_
     intro fr H
     refine at_cut [(5, []), (6, []), (7, []), (8, []), (9, [])] (fun fr' h' => h4 = h' ∧ Has fr' 85 [(0, vs e_S_api_Member p0), (1, vs e_S_api_Member p1), (2, .str p2), (7, .int .i64 x5), (32, .bool ((decide (x5 < (p0.length : Int))) && (decide (x5 < (p1.length : Int)))))]) ?_ ?_
     ·cases hb : (decide (x5 < (p0.length : Int)) : Bool) with
      | true =>
       replace H := H.know 27 hb (by kernel_rfl)
       refine at_seg [(5, []), (6, []), (7, []), (8, []), (9, [])] [(0, vs e_S_api_Member p0), (1, vs e_S_api_Member p1), (2, .str p2), (7, .int .i64 x5), (32, .bool (decide (x5 < (p1.length : Int))))] H (noU_all rfl) (fun fr => by kernel_rfl) ?_
       intro fr H
       exact at_nil ⟨rfl, by first | exact H.less _ (fun fr => by rfl) | exact H.less _ (fun fr => by rw [hb]; rfl)⟩
      | false =>
       replace H := H.know 27 hb (by kernel_rfl)
       refine at_seg [(5, []), (6, []), (7, []), (8, []), (9, [])] [(0, vs e_S_api_Member p0), (1, vs e_S_api_Member p1), (2, .str p2), (7, .int .i64 x5), (32, .bool false)] H (noU_all rfl) (fun fr => by kernel_rfl) ?_
       intro fr H
       exact at_nil ⟨rfl, by first | exact H.less _ (fun fr => by rfl) | exact H.less _ (fun fr => by rw [hb]; rfl)⟩
     ·intro t fr h' hK
      obtain ⟨e, H⟩ := hK
      subst e
      refine at_nil ?_
      show AW cfg 5 g (right (left (left (left (right (left (right (right (bodyC cfg.P 5))))))))) fr h4 _
      rcases iteB_some hm with ⟨hb, hm⟩ | ⟨hb, hm⟩
      ·replace H := H.know 32 hb (by kernel_rfl)
       refine aw_true (x := .tmp 32) (by kernel_rfl) H (fun fr => by kernel_rfl) ?_
       refine aw_skip (by kernel_rfl) ?_
       show AW cfg 5 g (right (left (left (right (left (right (right (bodyC cfg.P 5)))))))) fr h4 _
       refine aw_seq (by kernel_rfl) ?_
       refine aw_block (id := 1) (by kernel_rfl) ?_
       refine aw_seq (by kernel_rfl) ?_
       refine aw_draw (id := 6) (n := 19) (by kernel_rfl) [(0, []), (1, []), (2, []), (3, []), (4, []), (5, []), (6, []), (7, []), (9, []), (10, []), (11, []), (12, []), (13, []), (14, []), (15, []), (16, []), (8, [12, 16]), (17, []), (18, [])] (by kernel_rfl) ?_
       refine at_seg [(0, []), (1, [])] [(0, vs e_S_api_Member p0), (1, vs e_S_api_Member p1), (2, .str p2), (7, .int .i64 x5), (35, vs e_S_api_Member p0), (36, .int .i64 x5)] H (noU_all rfl) (fun fr => by kernel_rfl) ?_
       intro fr H
       obtain ⟨x7, hx, hm⟩ := bind_some hm
       refine at_stepT (v := .vptr (e_S_api_Member x7)) (h1 := h4) (tch' := []) (g.prot) [(0, vs e_S_api_Member p0), (1, vs e_S_api_Member p1), (2, .str p2), (7, .int .i64 x5), (37, .vptr (e_S_api_Member x7))] H (fun fr => by kernel_rfl) (by kernel_rfl) (fun fr => by kernel_rfl) (fun fr => .of (s_ixV (e := e_S_api_Member) (x := x7) enc_S_api_Member (by decide) (by kernel_rfl) hx)) (fun fr => by kernel_rfl) ?_
       intro fr H
       refine at_stepT (v := .agg (e_S_api_Member x7)) (h1 := h4) (tch' := []) (g.prot) [(0, vs e_S_api_Member p0), (1, vs e_S_api_Member p1), (2, .str p2), (7, .int .i64 x5), (38, .agg (e_S_api_Member x7))] H (fun fr => by kernel_rfl) (by kernel_rfl) (fun fr => by kernel_rfl) (fun fr => .of (s_lv (by kernel_rfl))) (fun fr => by kernel_rfl) ?_
       intro fr H
       refine at_seg [(4, []), (5, [])] [(0, vs e_S_api_Member p0), (1, vs e_S_api_Member p1), (2, .str p2), (7, .int .i64 x5), (38, .agg (e_S_api_Member x7)), (39, vs e_S_api_Member p1), (40, .int .i64 x5)] H (noU_all rfl) (fun fr => by kernel_rfl) ?_
       intro fr H
       obtain ⟨x8, hx, hm⟩ := bind_some hm
       refine at_stepT (v := .vptr (e_S_api_Member x8)) (h1 := h4) (tch' := []) (g.prot) [(0, vs e_S_api_Member p0), (1, vs e_S_api_Member p1), (2, .str p2), (7, .int .i64 x5), (38, .agg (e_S_api_Member x7)), (41, .vptr (e_S_api_Member x8))] H (fun fr => by kernel_rfl) (by kernel_rfl) (fun fr => by kernel_rfl) (fun fr => .of (s_ixV (e := e_S_api_Member) (x := x8) enc_S_api_Member (by decide) (by kernel_rfl) hx)) (fun fr => by kernel_rfl) ?_
       intro fr H
       refine at_stepT (v := .agg (e_S_api_Member x8)) (h1 := h4) (tch' := []) (g.prot) [(0, vs e_S_api_Member p0), (1, vs e_S_api_Member p1), (2, .str p2), (7, .int .i64 x5), (38, .agg (e_S_api_Member x7)), (42, .agg (e_S_api_Member x8))] H (fun fr => by kernel_rfl) (by kernel_rfl) (fun fr => by kernel_rfl) (fun fr => .of (s_lv (by kernel_rfl))) (fun fr => by kernel_rfl) ?_
       intro fr H
       refine at_seg [(9, []), (10, [])] [(0, vs e_S_api_Member p0), (1, vs e_S_api_Member p1), (2, .str p2), (7, .int .i64 x5), (38, .agg (e_S_api_Member x7)), (42, .agg (e_S_api_Member x8)), (44, vs e_S_api_Member p0), (45, .int .i64 x5)] H (noU_all rfl) (fun fr => by kernel_rfl) ?_
       intro fr H
       obtain ⟨x9, hx, hm⟩ := bind_some hm
       refine at_stepT (v := .vptr (e_S_api_Member x9)) (h1 := h4) (tch' := []) (g.prot) [(0, vs e_S_api_Member p0), (1, vs e_S_api_Member p1), (2, .str p2), (7, .int .i64 x5), (38, .agg (e_S_api_Member x7)), (42, .agg (e_S_api_Member x8)), (46, .vptr (e_S_api_Member x9))] H (fun fr => by kernel_rfl) (by kernel_rfl) (fun fr => by kernel_rfl) (fun fr => .of (s_ixV (e := e_S_api_Member) (x := x9) enc_S_api_Member (by decide) (by kernel_rfl) hx)) (fun fr => by kernel_rfl) ?_
       intro fr H
       refine at_stepT (v := .agg (e_S_api_Member x9)) (h1 := h4) (tch' := []) (g.prot) [(0, vs e_S_api_Member p0), (1, vs e_S_api_Member p1), (2, .str p2), (7, .int .i64 x5), (38, .agg (e_S_api_Member x7)), (42, .agg (e_S_api_Member x8)), (47, .agg (e_S_api_Member x9))] H (fun fr => by kernel_rfl) (by kernel_rfl) (fun fr => by kernel_rfl) (fun fr => .of (s_lv (by kernel_rfl))) (fun fr => by kernel_rfl) ?_
       intro fr H
       refine at_seg [(13, []), (14, [])] [(0, vs e_S_api_Member p0), (1, vs e_S_api_Member p1), (2, .str p2), (7, .int .i64 x5), (38, .agg (e_S_api_Member x7)), (42, .agg (e_S_api_Member x8)), (47, .agg (e_S_api_Member x9)), (48, vs e_S_api_Member p1), (49, .int .i64 x5)] H (noU_all rfl) (fun fr => by kernel_rfl) ?_
       intro fr H
       obtain ⟨x10, hx, hm⟩ := bind_some hm
       refine at_stepT (v := .vptr (e_S_api_Member x10)) (h1 := h4) (tch' := []) (g.prot) [(0, vs e_S_api_Member p0), (1, vs e_S_api_Member p1), (2, .str p2), (7, .int .i64 x5), (38, .agg (e_S_api_Member x7)), (42, .agg (e_S_api_Member x8)), (47, .agg (e_S_api_Member x9)), (50, .vptr (e_S_api_Member x10))] H (fun fr => by kernel_rfl) (by kernel_rfl) (fun fr => by kernel_rfl) (fun fr => .of (s_ixV (e := e_S_api_Member) (x := x10) enc_S_api_Member (by decide) (by kernel_rfl) hx)) (fun fr => by kernel_rfl) ?_
       intro fr H
       refine at_stepT (v := .agg (e_S_api_Member x10)) (h1 := h4) (tch' := []) (g.prot) [(0, vs e_S_api_Member p0), (1, vs e_S_api_Member p1), (2, .str p2), (7, .int .i64 x5), (38, .agg (e_S_api_Member x7)), (42, .agg (e_S_api_Member x8)), (47, .agg (e_S_api_Member x9)), (51, .agg (e_S_api_Member x10))] H (fun fr => by kernel_rfl) (by kernel_rfl) (fun fr => by kernel_rfl) (fun fr => .of (s_lv (by kernel_rfl))) (fun fr => by kernel_rfl) ?_
       intro fr H
       have A1 := A.cut 0
       obtain ⟨x11, hx, hm⟩ := bind_some hm
       obtain ⟨v1, h5, hr, rfl, A1⟩ := ok_archive_Same (av := [.agg (e_S_api_Member x7), .agg (e_S_api_Member x8)]) hx (by kernel_rfl) A1
       replace A : HH g h5 [] F := A.glue0 (n := 0) A1
       refine at_stepT (v := .bool x11) (h1 := h5) (tch' := []) (g.prot) [(0, vs e_S_api_Member p0), (1, vs e_S_api_Member p1), (2, .str p2), (7, .int .i64 x5), (43, .bool x11), (47, .agg (e_S_api_Member x9)), (51, .agg (e_S_api_Member x10))] H (fun fr => by kernel_rfl) (by kernel_rfl) (fun fr => by kernel_rfl) (fun fr => Steps.call (by kernel_rfl) hr) (fun fr => by kernel_rfl) ?_
       intro fr H
       have A1 := A.cut 0
       obtain ⟨x12, hx, hm⟩ := bind_some hm
       obtain ⟨v1, h6, hr, rfl, A1⟩ := ok_boulterref07_Same (av := [.agg (e_S_api_Member x9), .agg (e_S_api_Member x10)]) hx (by kernel_rfl) A1
       replace A : HH g h6 [] F := A.glue0 (n := 0) A1
       refine at_stepT (v := .bool x12) (h1 := h6) (tch' := []) (g.prot) [(0, vs e_S_api_Member p0), (1, vs e_S_api_Member p1), (2, .str p2), (7, .int .i64 x5), (43, .bool x11), (52, .bool x12)] H (fun fr => by kernel_rfl) (by kernel_rfl) (fun fr => by kernel_rfl) (fun fr => Steps.call (by kernel_rfl) hr) (fun fr => by kernel_rfl) ?_
       intro fr H
       refine at_seg [(18, [])] [(0, vs e_S_api_Member p0), (1, vs e_S_api_Member p1), (2, .str p2), (7, .int .i64 x5), (53, .bool (!(x11 == x12)))] H (noU_all rfl) (fun fr => by kernel_rfl) ?_
       intro fr H
       refine at_nil ?_
       show AW cfg 5 g (right (left (left (right (left (left (right (left (right (right (bodyC cfg.P 5))))))))))) fr h6 _
       rcases iteB_some hm with ⟨hb, hm⟩ | ⟨hb, hm⟩
       ·replace H := H.know 53 hb (by kernel_rfl)
        refine aw_true (x := .tmp 53) (by kernel_rfl) H (fun fr => by kernel_rfl) ?_
        refine aw_seq (by kernel_rfl) ?_
        refine aw_reg (id := 7) (n := 1) [(0, [])] (by kernel_rfl) (by kernel_rfl) ?_
        refine at_seg [(0, [])] [(6, .bool false)] H (noU_all rfl) (fun fr => by kernel_rfl) ?_
        intro fr H
        refine at_nil ?_
        show AW cfg 5 g (right (left (right (left (left (right (left (left (right (left (right (right (bodyC cfg.P 5))))))))))))) fr h6 _
        refine aw_ret (by kernel_rfl) ?_
        exact Exists.intro _ (And.intro (Option.some.inj hm).symm (fun e => Or.inr (Or.inl ⟨false, rfl, e, H.less _ (fun fr => by kernel_rfl), A⟩)))
       ·replace H := H.know 53 hb (by kernel_rfl)
        refine aw_false (x := .tmp 53) (by kernel_rfl) H (fun fr => by kernel_rfl) ?_
        refine aw_skip (by kernel_rfl) ?_
        show AW cfg 5 g (right (right (left (left (right (left (right (right (bodyC cfg.P 5))))))))) fr h6 _
        refine aw_reg (id := 5) (n := 3) [(0, []), (1, []), (2, [])] (by kernel_rfl) (by kernel_rfl) ?_
        refine at_seg [(0, []), (1, []), (2, [])] [(0, vs e_S_api_Member p0), (1, vs e_S_api_Member p1), (2, .str p2), (7, .int .i64 (IntKind.i64.wrap (x5 + (1 : Int))))] H (noU_all rfl) (fun fr => by kernel_rfl) ?_
        intro fr H
        refine at_nil ?_
        exact Exists.intro (IntKind.i64.wrap (x5 + (1 : Int))) (And.intro (Option.some.inj hm).symm ⟨IntKind.i64.wrap (x5 + (1 : Int)), rfl, H.less _ (fun fr => by kernel_rfl), A⟩)
      ·replace H := H.know 32 hb (by kernel_rfl)
       refine aw_false (x := .tmp 32) (by kernel_rfl) H (fun fr => by kernel_rfl) ?_
       refine aw_exit (i := 0) (by kernel_rfl) ?_
       exact Exists.intro _ (And.intro (Option.some.inj hm).symm (fun e => Or.inl ⟨rfl, e, H.less _ (fun fr => by kernel_rfl), A⟩))
    ·clear ho
     clear A
     intro e fr h7 hQ
     rcases hQ with ⟨rfl, rfl, H, A⟩ | ⟨x6, rfl, rfl, H, A⟩ | hF
     ·skip
      show AW cfg 5 g (right (right (right (bodyC cfg.P 5)))) fr h7 _
      refine aw_seq (by kernel_rfl) ?_
      refine aw_reg (id := 8) (n := 8) [(0, []), (1, []), (2, []), (3, []), (4, []), (5, []), (6, []), (7, [])] (by kernel_rfl) (by kernel_rfl) ?_
      refine at_seg [(0, []), (1, [])] [(0, vs e_S_api_Member p0), (1, vs e_S_api_Member p1), (2, .str p2), (55, vs e_S_api_Member p0), (56, .str p2)] H (noU_all rfl) (fun fr => by kernel_rfl) ?_
      intro fr H
      have A1 := A.cut 0
      obtain ⟨⟨x13, x14⟩, hx, hm⟩ := bind_some hm
      obtain ⟨v1, h8, hr, rfl, A1⟩ := ok_archive_Find (av := [vs e_S_api_Member p0, .str p2]) hx (by kernel_rfl) A1
      replace A : HH g h8 [] F := A.glue0 (n := 0) A1
      refine at_step (v := .tuple [.int .i64 x13, .bool x14]) (h1 := h8) [(0, vs e_S_api_Member p0), (1, vs e_S_api_Member p1), (2, .str p2), (57, .tuple [.int .i64 x13, .bool x14])] H (fun fr => by kernel_rfl) (fun fr => Steps.call (by kernel_rfl) hr) ?_
      intro fr t H
      refine at_seg [(3, []), (4, []), (5, []), (6, []), (7, [])] [(0, vs e_S_api_Member p0), (1, vs e_S_api_Member p1), (2, .str p2), (8, .int .i64 x13), (9, .bool x14)] H (noU_all rfl) (fun fr => by kernel_rfl) ?_
      intro fr H
      refine at_nil ?_
      show AW cfg 5 g (right (right (right (right (bodyC cfg.P 5))))) fr h8 _
      refine aw_seq (by kernel_rfl) ?_
      refine aw_reg (id := 9) (n := 4) [(0, []), (1, []), (2, []), (3, [])] (by kernel_rfl) (by kernel_rfl) ?_
      refine at_seg [(0, []), (1, [])] [(0, vs e_S_api_Member p0), (1, vs e_S_api_Member p1), (8, .int .i64 x13), (9, .bool x14), (60, vs e_S_api_Member p0), (61, .str p2)] H (noU_all rfl) (fun fr => by kernel_rfl) ?_
      intro fr H
      have A1 := A.cut 0
      obtain ⟨x15, hx, hm⟩ := bind_some hm
      obtain ⟨v1, h9, hr, rfl, A1⟩ := ok_boulterref12_Find (av := [vs e_S_api_Member p0, .str p2]) hx (by kernel_rfl) A1
      replace A : HH g h9 [] F := A.glue0 (n := 0) A1
      refine at_step (v := .int .i64 x15) (h1 := h9) [(0, vs e_S_api_Member p0), (1, vs e_S_api_Member p1), (8, .int .i64 x13), (9, .bool x14), (62, .int .i64 x15)] H (fun fr => by kernel_rfl) (fun fr => Steps.call (by kernel_rfl) hr) ?_
      intro fr t H
      refine at_seg [(3, [])] [(0, vs e_S_api_Member p0), (1, vs e_S_api_Member p1), (8, .int .i64 x13), (9, .bool x14), (10, .int .i64 x15)] H (noU_all rfl) (fun fr => by kernel_rfl) ?_
      intro fr H
      refine at_nil ?_
      show AW cfg 5 g (right (right (right (right (right (bodyC cfg.P 5)))))) fr h9 _
      refine aw_seq (by kernel_rfl) ?_
      refine aw_reg (id := 10) (n := 23) [(0, []), (1, []), (2, []), (3, []), (4, []), (5, []), (6, []), (7, []), (8, []), (9, []), (10, []), (11, []), (12, []), (13, []), (14, []), (15, []), (16, []), (17, []), (18, []), (19, []), (20, []), (21, []), (22, [])] (by kernel_rfl) (by kernel_rfl) ?_
      refine at_seg [(0, []), (1, [])] [(0, vs e_S_api_Member p0), (1, vs e_S_api_Member p1), (8, .int .i64 x13), (9, .bool x14), (10, .int .i64 x15), (63, vs e_S_api_Member p0), (64, vs e_S_api_Member p1)] H (noU_all rfl) (fun fr => by kernel_rfl) ?_
      intro fr H
      have A1 := A.cut 0
      obtain ⟨x16, hx, hm⟩ := bind_some hm
      obtain ⟨v1, h10, hr, rfl, A1⟩ := ok_archive_Equal (av := [vs e_S_api_Member p0, vs e_S_api_Member p1]) hx (by kernel_rfl) A1
      replace A : HH g h10 [] F := A.glue0 (n := 0) A1
      refine at_step (v := .bool x16) (h1 := h10) [(0, vs e_S_api_Member p0), (1, vs e_S_api_Member p1), (8, .int .i64 x13), (9, .bool x14), (10, .int .i64 x15), (65, .bool x16)] H (fun fr => by kernel_rfl) (fun fr => Steps.call (by kernel_rfl) hr) ?_
      intro fr t H
      refine at_seg [(3, []), (4, [])] [(8, .int .i64 x13), (9, .bool x14), (10, .int .i64 x15), (65, .bool x16), (66, vs e_S_api_Member p0), (67, vs e_S_api_Member p1)] H (noU_all rfl) (fun fr => by kernel_rfl) ?_
      intro fr H
      have A1 := A.cut 0
      obtain ⟨x17, hx, hm⟩ := bind_some hm
      obtain ⟨v1, h11, hr, rfl, A1⟩ := ok_boulterref12_Same (av := [vs e_S_api_Member p0, vs e_S_api_Member p1]) hx (by kernel_rfl) A1
      replace A : HH g h11 [] F := A.glue0 (n := 0) A1
      refine at_step (v := .bool x17) (h1 := h11) [(8, .int .i64 x13), (9, .bool x14), (10, .int .i64 x15), (65, .bool x16), (68, .bool x17)] H (fun fr => by kernel_rfl) (fun fr => Steps.call (by kernel_rfl) hr) ?_
      intro fr t H
      refine at_seg [(6, []), (7, [])] [(8, .int .i64 x13), (9, .bool x14), (10, .int .i64 x15), (70, .bool (x16 == x17))] H (noU_all rfl) (fun fr => by kernel_rfl) ?_
      intro fr H
      refine at_cut [(8, []), (9, []), (10, []), (11, []), (12, [])] (fun fr' h' => h11 = h' ∧ Has fr' 85 [(8, .int .i64 x13), (10, .int .i64 x15), (75, .bool ((x16 == x17) && (x14 == (decide (x15 ≥ (0 : Int))))))]) ?_ ?_
      ·cases hb : (x16 == x17 : Bool) with
       | true =>
        replace H := H.know 70 hb (by kernel_rfl)
        refine at_seg [(8, []), (9, []), (10, []), (11, []), (12, [])] [(8, .int .i64 x13), (10, .int .i64 x15), (75, .bool (x14 == (decide (x15 ≥ (0 : Int)))))] H (noU_all rfl) (fun fr => by kernel_rfl) ?_
        intro fr H
        exact at_nil ⟨rfl, by first | exact H.less _ (fun fr => by rfl) | exact H.less _ (fun fr => by rw [hb]; rfl)⟩
       | false =>
        replace H := H.know 70 hb (by kernel_rfl)
        refine at_seg [(8, []), (9, []), (10, []), (11, []), (12, [])] [(8, .int .i64 x13), (10, .int .i64 x15), (75, .bool false)] H (noU_all rfl) (fun fr => by kernel_rfl) ?_
        intro fr H
        exact at_nil ⟨rfl, by first | exact H.less _ (fun fr => by rfl) | exact H.less _ (fun fr => by rw [hb]; rfl)⟩
      ·intro t fr h' hK
       obtain ⟨e, H⟩ := hK
       subst e
       refine at_seg [(13, [])] [(8, .int .i64 x13), (10, .int .i64 x15), (76, .bool ((x16 == x17) && (x14 == (decide (x15 ≥ (0 : Int))))))] H (noU_all rfl) (fun fr => by kernel_rfl) ?_
       intro fr H
       refine at_cut [(14, []), (15, []), (16, []), (17, []), (18, [])] (fun fr' h' => h11 = h' ∧ Has fr' 85 [(81, .bool (((x16 == x17) && (x14 == (decide (x15 ≥ (0 : Int))))) && (x13 == (mx x15 (0 : Int)))))]) ?_ ?_
       ·cases hb : ((x16 == x17) && (x14 == (decide (x15 ≥ (0 : Int)))) : Bool) with
        | true =>
         replace H := H.know 76 hb (by kernel_rfl)
         refine at_seg [(14, []), (15, []), (16, []), (17, []), (18, [])] [(81, .bool (x13 == (mx x15 (0 : Int))))] H (noU_all rfl) (fun fr => by kernel_rfl) ?_
         intro fr H
         exact at_nil ⟨rfl, by first | exact H.less _ (fun fr => by rfl) | exact H.less _ (fun fr => by rw [hb]; rfl)⟩
        | false =>
         replace H := H.know 76 hb (by kernel_rfl)
         refine at_seg [(14, []), (15, []), (16, []), (17, []), (18, [])] [(81, .bool false)] H (noU_all rfl) (fun fr => by kernel_rfl) ?_
         intro fr H
         exact at_nil ⟨rfl, by first | exact H.less _ (fun fr => by rfl) | exact H.less _ (fun fr => by rw [hb]; rfl)⟩
       ·intro t fr h' hK
        obtain ⟨e, H⟩ := hK
        subst e
        refine at_seg [(19, [])] [(82, .bool (((x16 == x17) && (x14 == (decide (x15 ≥ (0 : Int))))) && (x13 == (mx x15 (0 : Int)))))] H (noU_all rfl) (fun fr => by kernel_rfl) ?_
        intro fr H
        obtain ⟨x18, ho, hm⟩ := bind_some hm
        refine at_cut [(20, []), (21, [])] (fun fr' h' => Has fr' 85 [(84, .bool x18)] ∧ HH g h' [] F) ?_ ?_
        ·rcases iteB_some ho with ⟨hb, hm⟩ | ⟨hb, hm⟩
         ·replace H := H.know 82 hb (by kernel_rfl)
          obtain ⟨x19, hx, hm⟩ := bind_some hm
          refine at_step (v := .bool x19) (h1 := h11) [(82, .bool true), (83, .bool x19)] H (fun fr => by kernel_rfl) (fun fr => Steps.call (by kernel_rfl) (ok_boulterlaw12_awake hx)) ?_
          intro fr t H
          refine at_seg [(21, [])] [(84, .bool x19)] H (noU_all rfl) (fun fr => by kernel_rfl) ?_
          intro fr H
          have e1 := Option.some.inj hm
          subst e1
          exact at_nil ⟨H.less _ (fun fr => by kernel_rfl), A⟩
         ·replace H := H.know 82 hb (by kernel_rfl)
          refine at_seg [(20, []), (21, [])] [(84, .bool false)] H (noU_all rfl) (fun fr => by kernel_rfl) ?_
          intro fr H
          have e1 := Option.some.inj hm
          subst e1
          exact at_nil ⟨H.less _ (fun fr => by kernel_rfl), A⟩
        ·clear A
         intro t fr h12 hK
         obtain ⟨H, A⟩ := hK
         refine at_seg [(22, [])] [(6, .bool x18)] H (noU_all rfl) (fun fr => by kernel_rfl) ?_
         intro fr H
         refine at_nil ?_
         show AW cfg 5 g (right (right (right (right (right (right (bodyC cfg.P 5))))))) fr h12 _
         refine aw_ret (by kernel_rfl) ?_
         have e1 := Option.some.inj hm
         subst e1
         refine ⟨.inl rfl, .bool x18, resH H (fun fr => by kernel_rfl), ?_⟩
         exact ⟨rfl, A⟩
     ·skip
      have e1 := Option.some.inj hm
      subst e1
      refine ⟨.inl rfl, .bool x6, resH H (fun fr => by kernel_rfl), ?_⟩
      exact ⟨rfl, A⟩
     ·exact hF.elim
end Go.Av.L
