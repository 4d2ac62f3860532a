/-
  Models of functions of package law31, and that the abstract run tells them. Written by lift2.py.
-/
import Derived.Test.YtcmfogjpkkodbaaKCfg
import Derived.Test.YtcmfogjpkkodbaaKexfile
import Derived.Test.YtcmfogjpkkodbaaKlaw31
import Derived.Test.YtcmfogjpkkodbaaKref31
namespace Go.Av.L
open Go.Av
set_option linter.unusedVariables false
set_option linter.unusedSimpArgs false
/-! ### boulter/boulterlaw31.ExfileCuts -/
noncomputable def M_boulterlaw31_ExfileCuts (p0 : List UInt8) (p1 : Int) : Option (Bool) :=
 iteB (decide ((p0.length : Int) > (400 : Int))) ((M_boulterlaw31_awake).bind fun x1 => some x1) ((M_exfile_Cut p0 p1).bind fun (x2, x3, x4) => (iteB (decide (p1 ≥ (0 : Int))) ((M_boulterref31_Cut p0 (mn p1 (500 : Int))).bind fun x6 => some x6) (some (-1 : Int)) : Option ((Int))).bind fun x5 => iteB (decide (x5 < (0 : Int))) ((iteB (((x2 == ([] : List UInt8)) && (x3 == ([] : List UInt8))) && (!x4)) ((M_boulterlaw31_awake).bind fun x8 => some x8) (some false) : Option (Bool)).bind fun x7 => some x7) ((iteB x4 ((subS p0 none (some x5)).bind fun x10 => some (x2 == x10)) (some false) : Option (Bool)).bind fun x9 => (iteB x9 ((subS p0 (some x5) none).bind fun x12 => some (x3 == x12)) (some false) : Option (Bool)).bind fun x11 => (iteB x11 ((M_boulterlaw31_awake).bind fun x14 => some x14) (some false) : Option (Bool)).bind fun x13 => some x13))
theorem ok_boulterlaw31_ExfileCuts {g : Gd} {h : AHeap} {F : List Ck} {p0 : List UInt8} {p1 : Int} {q0 : Bool} {av : List AVal} (hm : M_boulterlaw31_ExfileCuts p0 p1 = some q0) (hc : canL (cfg.still 3) av = [.str p0, .int .i64 p1]) (A : HH g h [] F) : ∃ v h', Runs cfg g h 3 av v h' ∧ v = .bool q0 ∧ HH g h' [] F := by
  refine runsQ1 (n := 59) (rs := [.tmp 4]) (by kernel_rfl) hc (by kernel_rfl) ?_
  clear hc
  unfold M_boulterlaw31_ExfileCuts at hm
  refine start (n := 59) [(0, .str p0), (1, .int .i64 p1)] (by kernel_rfl) (by kernel_rfl) ?_
  intro fr H
  refine aw_seq (by kernel_rfl) ?_
  refine aw_reg (id := 0) (n := 1) [(0, [])] (by kernel_rfl) (by kernel_rfl) ?_
  refine at_seg [(0, [])] [(0, .str p0), (1, .int .i64 p1)] H (noU_all rfl) (fun fr => by kernel_rfl) ?_
  intro fr H
  refine at_nil ?_
  show AW cfg 3 g (right (bodyC cfg.P 3)) fr h _
  refine aw_seq (by kernel_rfl) ?_
  refine aw_seq (by kernel_rfl) ?_
  refine aw_reg (id := 1) (n := 3) [(0, []), (1, []), (2, [])] (by kernel_rfl) (by kernel_rfl) ?_
  refine at_seg [(0, []), (1, []), (2, [])] [(0, .str p0), (1, .int .i64 p1), (11, .bool (decide ((p0.length : Int) > (400 : Int))))] H (noU_all rfl) (fun fr => by kernel_rfl) ?_
  intro fr H
  refine at_nil ?_
  show AW cfg 3 g (right (left (right (bodyC cfg.P 3)))) fr h _
  rcases iteB_some hm with ⟨hb, hm⟩ | ⟨hb, hm⟩
  · replace H := H.know 11 hb (by kernel_rfl)
    refine aw_true (x := .tmp 11) (by kernel_rfl) H (fun fr => by kernel_rfl) ?_
    refine aw_seq (by kernel_rfl) ?_
    refine aw_reg (id := 2) (n := 2) [(0, []), (1, [])] (by kernel_rfl) (by kernel_rfl) ?_
    obtain ⟨x1, hx, hm⟩ := bind_some hm
    refine at_step (v := .bool x1) (h1 := h) [(12, .bool x1)] H (fun fr => by kernel_rfl) (fun fr => Steps.call (by kernel_rfl) (ok_boulterlaw31_awake hx)) ?_
    intro fr t H
    refine at_seg [(1, [])] [(4, .bool x1)] H (noU_all rfl) (fun fr => by kernel_rfl) ?_
    intro fr H
    refine at_nil ?_
    show AW cfg 3 g (right (left (right (left (right (bodyC cfg.P 3)))))) fr h _
    refine aw_ret (by kernel_rfl) ?_
    have e1 := Option.some.inj hm
    subst e1
    refine ⟨.inl rfl, .bool x1, resH H (fun fr => by kernel_rfl), ?_⟩
    exact ⟨rfl, A⟩
  · replace H := H.know 11 hb (by kernel_rfl)
    refine aw_false (x := .tmp 11) (by kernel_rfl) H (fun fr => by kernel_rfl) ?_
    refine aw_skip (by kernel_rfl) ?_
    show AW cfg 3 g (right (right (bodyC cfg.P 3))) fr h _
    refine aw_seq (by kernel_rfl) ?_
    refine aw_reg (id := 3) (n := 10) [(0, []), (1, []), (2, []), (3, []), (4, []), (5, []), (6, []), (7, []), (8, []), (9, [])] (by kernel_rfl) (by kernel_rfl) ?_
    refine at_seg [(0, []), (1, [])] [(0, .str p0), (1, .int .i64 p1), (14, .str p0), (15, .int .i64 p1)] H (noU_all rfl) (fun fr => by kernel_rfl) ?_
    intro fr H
    have A1 := A.cut 0
    obtain ⟨⟨x2, x3, x4⟩, hx, hm⟩ := bind_some hm
    obtain ⟨v1, h1, hr, rfl, A1⟩ := ok_exfile_Cut (av := [.str p0, .int .i64 p1]) hx (by kernel_rfl) A1
    replace A : HH g h1 [] F := A.glue0 (n := 0) A1
    refine at_step (v := .tuple [.str x2, .str x3, .bool x4]) (h1 := h1) [(0, .str p0), (1, .int .i64 p1), (16, .tuple [.str x2, .str x3, .bool x4])] H (fun fr => by kernel_rfl) (fun fr => Steps.call (by kernel_rfl) hr) ?_
    intro fr t H
    refine at_seg [(3, []), (4, []), (5, []), (6, []), (7, []), (8, []), (9, [])] [(0, .str p0), (1, .int .i64 p1), (5, .str x2), (6, .str x3), (7, .bool x4)] H (noU_all rfl) (fun fr => by kernel_rfl) ?_
    intro fr H
    refine at_nil ?_
    show AW cfg 3 g (right (right (right (bodyC cfg.P 3)))) fr h1 _
    refine aw_seq (by kernel_rfl) ?_
    refine aw_reg (id := 4) (n := 1) [(0, [])] (by kernel_rfl) (by kernel_rfl) ?_
    refine at_seg [(0, [])] [(0, .str p0), (1, .int .i64 p1), (5, .str x2), (6, .str x3), (7, .bool x4), (8, .int .i64 (-1 : Int))] H (noU_all rfl) (fun fr => by kernel_rfl) ?_
    intro fr H
    refine at_nil ?_
    show AW cfg 3 g (right (right (right (right (bodyC cfg.P 3))))) fr h1 _
    refine aw_seq (by kernel_rfl) ?_
    obtain ⟨o1, ho, hm⟩ := bind_some hm
    refine aw_mono (Q' := fun e fr' h' => (∃ (x5 : Int), e = .normal ∧ x5 = o1 ∧ Has fr' 59 [(0, .str p0), (5, .str x2), (6, .str x3), (7, .bool x4), (8, .int .i64 x5)] ∧ HH g h' [] F) ∨ False) ?_ ?_
    · replace hm := ho
      clear ho
      refine aw_seq (by kernel_rfl) ?_
      refine aw_reg (id := 5) (n := 2) [(0, []), (1, [])] (by kernel_rfl) (by kernel_rfl) ?_
      refine at_seg [(0, []), (1, [])] [(0, .str p0), (1, .int .i64 p1), (5, .str x2), (6, .str x3), (7, .bool x4), (8, .int .i64 (-1 : Int)), (21, .bool (decide (p1 ≥ (0 : Int))))] H (noU_all rfl) (fun fr => by kernel_rfl) ?_
      intro fr H
      refine at_nil ?_
      show AW cfg 3 g (right (left (right (right (right (right (bodyC cfg.P 3))))))) fr h1 _
      rcases iteB_some hm with ⟨hb, hm⟩ | ⟨hb, hm⟩
      · replace H := H.know 21 hb (by kernel_rfl)
        refine aw_true (x := .tmp 21) (by kernel_rfl) H (fun fr => by kernel_rfl) ?_
        refine aw_reg (id := 6) (n := 5) [(0, []), (1, []), (2, []), (3, []), (4, [])] (by kernel_rfl) (by kernel_rfl) ?_
        refine at_seg [(0, []), (1, []), (2, [])] [(0, .str p0), (5, .str x2), (6, .str x3), (7, .bool x4), (22, .str p0), (24, .int .i64 (mn p1 (500 : Int)))] H (noU_all rfl) (fun fr => by kernel_rfl) ?_
        intro fr H
        have A1 := A.cut 0
        obtain ⟨x6, hx, hm⟩ := bind_some hm
        obtain ⟨v1, h2, hr, rfl, A1⟩ := ok_boulterref31_Cut (av := [.str p0, .int .i64 (mn p1 (500 : Int))]) hx (by kernel_rfl) A1
        replace A : HH g h2 [] F := A.glue0 (n := 0) A1
        refine at_step (v := .int .i64 x6) (h1 := h2) [(0, .str p0), (5, .str x2), (6, .str x3), (7, .bool x4), (25, .int .i64 x6)] H (fun fr => by kernel_rfl) (fun fr => Steps.call (by kernel_rfl) hr) ?_
        intro fr t H
        refine at_seg [(4, [])] [(0, .str p0), (5, .str x2), (6, .str x3), (7, .bool x4), (8, .int .i64 x6)] H (noU_all rfl) (fun fr => by kernel_rfl) ?_
        intro fr H
        refine at_nil ?_
        exact Or.inl ⟨x6, rfl, Option.some.inj hm, H.less _ (fun fr => by kernel_rfl), A⟩
      · replace H := H.know 21 hb (by kernel_rfl)
        refine aw_false (x := .tmp 21) (by kernel_rfl) H (fun fr => by kernel_rfl) ?_
        refine aw_skip (by kernel_rfl) ?_
        exact Or.inl ⟨(-1 : Int), rfl, Option.some.inj hm, H.less _ (fun fr => by kernel_rfl), A⟩
    · clear ho
      clear A
      intro e fr h3 hQ
      rcases hQ with ⟨x5, rfl, rfl, H, A⟩ | hF
      · skip
        show AW cfg 3 g (right (right (right (right (right (bodyC cfg.P 3)))))) fr h3 _
        refine aw_seq (by kernel_rfl) ?_
        refine aw_seq (by kernel_rfl) ?_
        refine aw_reg (id := 7) (n := 2) [(0, []), (1, [])] (by kernel_rfl) (by kernel_rfl) ?_
        refine at_seg [(0, []), (1, [])] [(0, .str p0), (5, .str x2), (6, .str x3), (7, .bool x4), (8, .int .i64 x5), (27, .bool (decide (x5 < (0 : Int))))] H (noU_all rfl) (fun fr => by kernel_rfl) ?_
        intro fr H
        refine at_nil ?_
        show AW cfg 3 g (right (left (right (right (right (right (right (bodyC cfg.P 3)))))))) fr h3 _
        rcases iteB_some hm with ⟨hb, hm⟩ | ⟨hb, hm⟩
        · replace H := H.know 27 hb (by kernel_rfl)
          refine aw_true (x := .tmp 27) (by kernel_rfl) H (fun fr => by kernel_rfl) ?_
          refine aw_seq (by kernel_rfl) ?_
          refine aw_reg (id := 8) (n := 14) [(0, []), (1, []), (2, []), (3, []), (4, []), (5, []), (6, []), (7, []), (8, []), (9, []), (10, []), (11, []), (12, []), (13, [])] (by kernel_rfl) (by kernel_rfl) ?_
          refine at_seg [(0, []), (1, []), (2, [])] [(6, .str x3), (7, .bool x4), (30, .bool (x2 == ([] : List UInt8)))] H (noU_all rfl) (fun fr => by kernel_rfl) ?_
          intro fr H
          refine at_cut [(3, []), (4, []), (5, [])] (fun fr' h' => h3 = h' ∧ Has fr' 59 [(7, .bool x4), (33, .bool ((x2 == ([] : List UInt8)) && (x3 == ([] : List UInt8))))]) ?_ ?_
          · cases hb : (x2 == ([] : List UInt8) : Bool) with
            | true =>
              replace H := H.know 30 hb (by kernel_rfl)
              refine at_seg [(3, []), (4, []), (5, [])] [(7, .bool x4), (33, .bool (x3 == ([] : List UInt8)))] H (noU_all rfl) (fun fr => by kernel_rfl) ?_
              intro fr H
              exact at_nil ⟨rfl, by first | exact H.less _ (fun fr => by rfl) | exact H.less _ (fun fr => by rw [hb]; rfl)⟩
            | false =>
              replace H := H.know 30 hb (by kernel_rfl)
              refine at_seg [(3, []), (4, []), (5, [])] [(7, .bool x4), (33, .bool false)] H (noU_all rfl) (fun fr => by kernel_rfl) ?_
              intro fr H
              exact at_nil ⟨rfl, by first | exact H.less _ (fun fr => by rfl) | exact H.less _ (fun fr => by rw [hb]; rfl)⟩
          · intro t fr h' hK
            obtain ⟨e, H⟩ := hK
            subst e
            refine at_seg [(6, [])] [(7, .bool x4), (34, .bool ((x2 == ([] : List UInt8)) && (x3 == ([] : List UInt8))))] H (noU_all rfl) (fun fr => by kernel_rfl) ?_
            intro fr H
            refine at_cut [(7, []), (8, []), (9, [])] (fun fr' h' => h3 = h' ∧ Has fr' 59 [(37, .bool (((x2 == ([] : List UInt8)) && (x3 == ([] : List UInt8))) && (!x4)))]) ?_ ?_
            · cases hb : ((x2 == ([] : List UInt8)) && (x3 == ([] : List UInt8)) : Bool) with
              | true =>
                replace H := H.know 34 hb (by kernel_rfl)
                refine at_seg [(7, []), (8, []), (9, [])] [(37, .bool (!x4))] H (noU_all rfl) (fun fr => by kernel_rfl) ?_
                intro fr H
                exact at_nil ⟨rfl, by first | exact H.less _ (fun fr => by rfl) | exact H.less _ (fun fr => by rw [hb]; rfl)⟩
              | false =>
                replace H := H.know 34 hb (by kernel_rfl)
                refine at_seg [(7, []), (8, []), (9, [])] [(37, .bool false)] H (noU_all rfl) (fun fr => by kernel_rfl) ?_
                intro fr H
                exact at_nil ⟨rfl, by first | exact H.less _ (fun fr => by rfl) | exact H.less _ (fun fr => by rw [hb]; rfl)⟩
            · intro t fr h' hK
              obtain ⟨e, H⟩ := hK
              subst e
              refine at_seg [(10, [])] [(38, .bool (((x2 == ([] : List UInt8)) && (x3 == ([] : List UInt8))) && (!x4)))] H (noU_all rfl) (fun fr => by kernel_rfl) ?_
              intro fr H
              obtain ⟨x7, ho, hm⟩ := bind_some hm
              refine at_cut [(11, []), (12, [])] (fun fr' h' => Has fr' 59 [(40, .bool x7)] ∧ HH g h' [] F) ?_ ?_
              · rcases iteB_some ho with ⟨hb, hm⟩ | ⟨hb, hm⟩
                · replace H := H.know 38 hb (by kernel_rfl)
                  obtain ⟨x8, hx, hm⟩ := bind_some hm
                  refine at_step (v := .bool x8) (h1 := h3) [(38, .bool true), (39, .bool x8)] H (fun fr => by kernel_rfl) (fun fr => Steps.call (by kernel_rfl) (ok_boulterlaw31_awake hx)) ?_
                  intro fr t H
                  refine at_seg [(12, [])] [(40, .bool x8)] H (noU_all rfl) (fun fr => by kernel_rfl) ?_
                  intro fr H
                  have e1 := Option.some.inj hm
                  subst e1
                  exact at_nil ⟨H.less _ (fun fr => by kernel_rfl), A⟩
                · replace H := H.know 38 hb (by kernel_rfl)
                  refine at_seg [(11, []), (12, [])] [(40, .bool false)] H (noU_all rfl) (fun fr => by kernel_rfl) ?_
                  intro fr H
                  have e1 := Option.some.inj hm
                  subst e1
                  exact at_nil ⟨H.less _ (fun fr => by kernel_rfl), A⟩
              · clear A
                intro t fr h4 hK
                obtain ⟨H, A⟩ := hK
                refine at_seg [(13, [])] [(4, .bool x7)] H (noU_all rfl) (fun fr => by kernel_rfl) ?_
                intro fr H
                refine at_nil ?_
                show AW cfg 3 g (right (left (right (left (right (right (right (right (right (bodyC cfg.P 3)))))))))) fr h4 _
                refine aw_ret (by kernel_rfl) ?_
                have e1 := Option.some.inj hm
                subst e1
                refine ⟨.inl rfl, .bool x7, resH H (fun fr => by kernel_rfl), ?_⟩
                exact ⟨rfl, A⟩
        · replace H := H.know 27 hb (by kernel_rfl)
          refine aw_false (x := .tmp 27) (by kernel_rfl) H (fun fr => by kernel_rfl) ?_
          refine aw_skip (by kernel_rfl) ?_
          show AW cfg 3 g (right (right (right (right (right (right (bodyC cfg.P 3))))))) fr h3 _
          refine aw_seq (by kernel_rfl) ?_
          refine aw_reg (id := 9) (n := 19) [(0, []), (1, []), (2, []), (3, []), (4, []), (5, []), (6, []), (7, []), (8, []), (9, []), (10, []), (11, []), (12, []), (13, []), (14, []), (15, []), (16, []), (17, []), (18, [])] (by kernel_rfl) (by kernel_rfl) ?_
          refine at_seg [(0, []), (1, [])] [(0, .str p0), (5, .str x2), (6, .str x3), (8, .int .i64 x5), (42, .bool x4)] H (noU_all rfl) (fun fr => by kernel_rfl) ?_
          intro fr H
          obtain ⟨x9, ho, hm⟩ := bind_some hm
          refine at_cut [(2, []), (3, []), (4, []), (5, []), (6, []), (7, [])] (fun fr' h' => Has fr' 59 [(0, .str p0), (6, .str x3), (8, .int .i64 x5), (48, .bool x9)] ∧ HH g h' [] F) ?_ ?_
          · rcases iteB_some ho with ⟨hb, hm⟩ | ⟨hb, hm⟩
            · replace H := H.know 42 hb (by kernel_rfl)
              refine at_seg [(2, []), (3, []), (4, [])] [(0, .str p0), (6, .str x3), (8, .int .i64 x5), (42, .bool true), (43, .str x2), (44, .str p0), (45, .int .i64 x5)] H (noU_all rfl) (fun fr => by kernel_rfl) ?_
              intro fr H
              obtain ⟨x10, hx, hm⟩ := bind_some hm
              refine at_step (v := .str x10) (h1 := h3) [(0, .str p0), (6, .str x3), (8, .int .i64 x5), (42, .bool true), (43, .str x2), (46, .str x10)] H (fun fr => by kernel_rfl) (fun fr => .of (s_subS (k := .i64) (k' := .i64) (lo := none) (hi := (some x5)) (by kernel_rfl) hx)) ?_
              intro fr t H
              refine at_seg [(6, []), (7, [])] [(0, .str p0), (6, .str x3), (8, .int .i64 x5), (48, .bool (x2 == x10))] H (noU_all rfl) (fun fr => by kernel_rfl) ?_
              intro fr H
              have e1 := Option.some.inj hm
              subst e1
              exact at_nil ⟨H.less _ (fun fr => by kernel_rfl), A⟩
            · replace H := H.know 42 hb (by kernel_rfl)
              refine at_seg [(2, []), (3, []), (4, []), (5, []), (6, []), (7, [])] [(0, .str p0), (6, .str x3), (8, .int .i64 x5), (48, .bool false)] H (noU_all rfl) (fun fr => by kernel_rfl) ?_
              intro fr H
              have e1 := Option.some.inj hm
              subst e1
              exact at_nil ⟨H.less _ (fun fr => by kernel_rfl), A⟩
          · clear A
            intro t fr h5 hK
            obtain ⟨H, A⟩ := hK
            refine at_seg [(8, [])] [(0, .str p0), (6, .str x3), (8, .int .i64 x5), (49, .bool x9)] H (noU_all rfl) (fun fr => by kernel_rfl) ?_
            intro fr H
            obtain ⟨x11, ho, hm⟩ := bind_some hm
            refine at_cut [(9, []), (10, []), (11, []), (12, []), (13, []), (14, [])] (fun fr' h' => Has fr' 59 [(55, .bool x11)] ∧ HH g h' [] F) ?_ ?_
            · rcases iteB_some ho with ⟨hb, hm⟩ | ⟨hb, hm⟩
              · replace H := H.know 49 hb (by kernel_rfl)
                refine at_seg [(9, []), (10, []), (11, [])] [(49, .bool true), (50, .str x3), (51, .str p0), (52, .int .i64 x5)] H (noU_all rfl) (fun fr => by kernel_rfl) ?_
                intro fr H
                obtain ⟨x12, hx, hm⟩ := bind_some hm
                refine at_step (v := .str x12) (h1 := h5) [(49, .bool true), (50, .str x3), (53, .str x12)] H (fun fr => by kernel_rfl) (fun fr => .of (s_subS (k := .i64) (k' := .i64) (lo := (some x5)) (hi := none) (by kernel_rfl) hx)) ?_
                intro fr t H
                refine at_seg [(13, []), (14, [])] [(55, .bool (x3 == x12))] H (noU_all rfl) (fun fr => by kernel_rfl) ?_
                intro fr H
                have e1 := Option.some.inj hm
                subst e1
                exact at_nil ⟨H.less _ (fun fr => by kernel_rfl), A⟩
              · replace H := H.know 49 hb (by kernel_rfl)
                refine at_seg [(9, []), (10, []), (11, []), (12, []), (13, []), (14, [])] [(55, .bool false)] H (noU_all rfl) (fun fr => by kernel_rfl) ?_
                intro fr H
                have e1 := Option.some.inj hm
                subst e1
                exact at_nil ⟨H.less _ (fun fr => by kernel_rfl), A⟩
            · clear A
              intro t fr h6 hK
              obtain ⟨H, A⟩ := hK
              refine at_seg [(15, [])] [(56, .bool x11)] H (noU_all rfl) (fun fr => by kernel_rfl) ?_
              intro fr H
              obtain ⟨x13, ho, hm⟩ := bind_some hm
              refine at_cut [(16, []), (17, [])] (fun fr' h' => Has fr' 59 [(58, .bool x13)] ∧ HH g h' [] F) ?_ ?_
              · rcases iteB_some ho with ⟨hb, hm⟩ | ⟨hb, hm⟩
                · replace H := H.know 56 hb (by kernel_rfl)
                  obtain ⟨x14, hx, hm⟩ := bind_some hm
                  refine at_step (v := .bool x14) (h1 := h6) [(56, .bool true), (57, .bool x14)] H (fun fr => by kernel_rfl) (fun fr => Steps.call (by kernel_rfl) (ok_boulterlaw31_awake hx)) ?_
                  intro fr t H
                  refine at_seg [(17, [])] [(58, .bool x14)] H (noU_all rfl) (fun fr => by kernel_rfl) ?_
                  intro fr H
                  have e1 := Option.some.inj hm
                  subst e1
                  exact at_nil ⟨H.less _ (fun fr => by kernel_rfl), A⟩
                · replace H := H.know 56 hb (by kernel_rfl)
                  refine at_seg [(16, []), (17, [])] [(58, .bool false)] H (noU_all rfl) (fun fr => by kernel_rfl) ?_
                  intro fr H
                  have e1 := Option.some.inj hm
                  subst e1
                  exact at_nil ⟨H.less _ (fun fr => by kernel_rfl), A⟩
              · clear A
                intro t fr h7 hK
                obtain ⟨H, A⟩ := hK
                refine at_seg [(18, [])] [(4, .bool x13)] H (noU_all rfl) (fun fr => by kernel_rfl) ?_
                intro fr H
                refine at_nil ?_
                show AW cfg 3 g (right (right (right (right (right (right (right (bodyC cfg.P 3)))))))) fr h7 _
                refine aw_ret (by kernel_rfl) ?_
                have e1 := Option.some.inj hm
                subst e1
                refine ⟨.inl rfl, .bool x13, resH H (fun fr => by kernel_rfl), ?_⟩
                exact ⟨rfl, A⟩
      · exact hF.elim
end Go.Av.L
