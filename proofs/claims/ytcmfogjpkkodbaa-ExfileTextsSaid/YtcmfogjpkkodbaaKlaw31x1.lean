/-
  Models of functions of package law31, and that the abstract run tells them. Written by lift2.py.
-/
import Derived.Test.YtcmfogjpkkodbaaKCfg
import Derived.Test.YtcmfogjpkkodbaaKexfile
import Derived.Test.YtcmfogjpkkodbaaKlaw31
import Derived.Test.YtcmfogjpkkodbaaKref13
import Derived.Test.YtcmfogjpkkodbaaKref26
import Derived.Test.YtcmfogjpkkodbaaKref31
namespace Go.Av.L
open Go.Av
set_option linter.unusedVariables false
set_option linter.unusedSimpArgs false
/-! ### boulter/boulterlaw31.ExfileTexts -/
noncomputable def M_boulterlaw31_ExfileTexts_L0 (p0 : List (List UInt8)) (s : Bool × Bool × Int) : Option ((Bool × Bool × Int) ⊕ ((Bool × Bool) ⊕ (Bool))) :=
  match s with
  | (x2, x3, x4) => iteB (decide (x4 < (p0.length : Int))) ((ixV p0 x4).bind fun x8 => iteB (decide ((x8.length : Int) > (60 : Int))) ((M_boulterlaw31_awake).bind fun x9 => some (.inr (.inr x9))) ((iteB (x2 && (!(x8 == ([] : List UInt8)))) ((M_boulterref13_In (10 : Int) x8).bind fun x11 => some (!x11)) (some false) : Option (Bool)).bind fun x10 => (iteB x10 ((iteB (decide ((x8.length : Int) > (1 : Int))) ((ixS x8 (0 : Int)).bind fun x14 => some (x14 == (92 : Int))) (some false) : Option (Bool)).bind fun x13 => (iteB x13 ((ixS x8 (1 : Int)).bind fun x16 => some (x16 == (35 : Int))) (some false) : Option (Bool)).bind fun x15 => some (!x15)) (some false) : Option (Bool)).bind fun x12 => (iteB (x3 && (!(x8 == ([] : List UInt8)))) ((M_boulterref13_In (0 : Int) x8).bind fun x18 => some (!x18)) (some false) : Option (Bool)).bind fun x17 => some (.inl (x12, x17, IntKind.i64.wrap (x4 + (1 : Int)))))) (some (.inr (.inl (x2, x3))))
noncomputable def M_boulterlaw31_ExfileTexts (p0 : List (List UInt8)) : Option (Bool) :=
 iteB (decide ((p0.length : Int) > (20 : Int))) ((M_boulterlaw31_awake).bind fun x1 => some x1) ((loop (M_boulterlaw31_ExfileTexts_L0 p0) (true, true, (0 : Int))).bind fun o1 => (match o1 with | .inl (x5, x6) => (M_exfile_Text p0).bind fun (x19, x20) => (M_exfile_Pack p0).bind fun (x21, x22) => (iteB (!(x6 == (x22 == (0 : Int)))) (some true) ((iteB x6 ((M_boulterref31_Items x21).bind fun x25 => (M_boulterref26_Same_s0 x25 p0).bind fun x26 => some (!x26)) (some false) : Option (Bool)).bind fun x24 => some x24) : Option (Bool)).bind fun x23 => iteB (x23 || ((!x6) && ((!(x21 == ([] : List UInt8))) || (x22 != (2 : Int))))) (some false) (iteB (!x5) ((iteB ((x20 == (2 : Int)) && (x19 == ([] : List UInt8))) ((M_boulterlaw31_awake).bind fun x28 => some x28) (some false) : Option (Bool)).bind fun x27 => some x27) ((iteB (x20 == (0 : Int)) ((M_boulterref31_Lines x19).bind fun x30 => (M_boulterref26_Same_s0 x30 p0).bind fun x31 => some x31) (some false) : Option (Bool)).bind fun x29 => (iteB x29 ((M_exfile_Lines x19).bind fun x33 => (M_boulterref26_Same_s0 x33 p0).bind fun x34 => some x34) (some false) : Option (Bool)).bind fun x32 => (iteB x32 ((M_boulterlaw31_awake).bind fun x36 => some x36) (some false) : Option (Bool)).bind fun x35 => some x35)) | .inr x7 => some x7))
theorem ok_boulterlaw31_ExfileTexts {g : Gd} {h : AHeap} {F : List Ck} {p0 : List (List UInt8)} {q0 : Bool} {av : List AVal} (hm : M_boulterlaw31_ExfileTexts p0 = some q0) (hc : canL (cfg.still 4) av = [vs eS p0]) (A : HH g h [] F) : ∃ v h', Runs cfg g h 4 av v h' ∧ v = .bool q0 ∧ HH g h' [] F := by
  refine runsQ1 (n := 126) (rs := [.tmp 2]) (by kernel_rfl) hc (by kernel_rfl) ?_
  clear hc
  unfold M_boulterlaw31_ExfileTexts at hm
  refine start (n := 126) [(0, vs eS p0)] (by kernel_rfl) (by kernel_rfl) ?_
  intro fr H
  refine aw_seq (by kernel_rfl) ?_
  refine aw_reg (id := 0) (n := 1) [(0, [])] (by kernel_rfl) (by kernel_rfl) ?_
  refine at_seg [(0, [])] [(0, vs eS p0)] H (noU_all rfl) (fun fr => by kernel_rfl) ?_
  intro fr H
  refine at_nil ?_
  show AW cfg 4 g (right (bodyC cfg.P 4)) fr h _
  refine aw_seq (by kernel_rfl) ?_
  refine aw_seq (by kernel_rfl) ?_
  refine aw_reg (id := 1) (n := 3) [(0, []), (1, []), (2, [])] (by kernel_rfl) (by kernel_rfl) ?_
  refine at_seg [(0, []), (1, []), (2, [])] [(0, vs eS p0), (13, .bool (decide ((p0.length : Int) > (20 : Int))))] H (noU_all rfl) (fun fr => by kernel_rfl) ?_
  intro fr H
  refine at_nil ?_
  show AW cfg 4 g (right (left (right (bodyC cfg.P 4)))) fr h _
  rcases iteB_some hm with ⟨hb, hm⟩ | ⟨hb, hm⟩
  · replace H := H.know 13 hb (by kernel_rfl)
    refine aw_true (x := .tmp 13) (by kernel_rfl) H (fun fr => by kernel_rfl) ?_
    refine aw_seq (by kernel_rfl) ?_
    refine aw_reg (id := 2) (n := 2) [(0, []), (1, [])] (by kernel_rfl) (by kernel_rfl) ?_
    obtain ⟨x1, hx, hm⟩ := bind_some hm
    refine at_step (v := .bool x1) (h1 := h) [(14, .bool x1)] H (fun fr => by kernel_rfl) (fun fr => Steps.call (by kernel_rfl) (ok_boulterlaw31_awake hx)) ?_
    intro fr t H
    refine at_seg [(1, [])] [(2, .bool x1)] H (noU_all rfl) (fun fr => by kernel_rfl) ?_
    intro fr H
    refine at_nil ?_
    show AW cfg 4 g (right (left (right (left (right (bodyC cfg.P 4)))))) fr h _
    refine aw_ret (by kernel_rfl) ?_
    have e1 := Option.some.inj hm
    subst e1
    refine ⟨.inl rfl, .bool x1, resH H (fun fr => by kernel_rfl), ?_⟩
    exact ⟨rfl, A⟩
  · replace H := H.know 13 hb (by kernel_rfl)
    refine aw_false (x := .tmp 13) (by kernel_rfl) H (fun fr => by kernel_rfl) ?_
    refine aw_skip (by kernel_rfl) ?_
    show AW cfg 4 g (right (right (bodyC cfg.P 4))) fr h _
    refine aw_seq (by kernel_rfl) ?_
    refine aw_reg (id := 3) (n := 2) [(0, []), (1, [])] (by kernel_rfl) (by kernel_rfl) ?_
    refine at_seg [(0, []), (1, [])] [(0, vs eS p0), (3, .bool true), (4, .bool true)] H (noU_all rfl) (fun fr => by kernel_rfl) ?_
    intro fr H
    refine at_nil ?_
    show AW cfg 4 g (right (right (right (bodyC cfg.P 4)))) fr h _
    refine aw_seq (by kernel_rfl) ?_
    refine aw_seq (by kernel_rfl) ?_
    refine aw_reg (id := 4) (n := 3) [(0, []), (1, []), (2, [])] (by kernel_rfl) (by kernel_rfl) ?_
    refine at_seg [(0, []), (1, []), (2, [])] [(0, vs eS p0), (3, .bool true), (4, .bool true), (15, vs eS p0), (16, .int .i64 (p0.length : Int)), (17, .int .i64 (0 : Int))] H (noU_all rfl) (fun fr => by kernel_rfl) ?_
    intro fr H
    refine at_nil ?_
    show AW cfg 4 g (right (left (right (right (right (bodyC cfg.P 4)))))) fr h _
    refine aw_block (id := 0) (by kernel_rfl) ?_
    obtain ⟨o1, ho, hm⟩ := bind_some hm
    refine aw_mono (Q' := fun e fr' h' => (∃ (x5 : Bool) (x6 : Bool), e = .exit 0 ∧ .inl (x5, x6) = o1 ∧ Has fr' 126 [(0, vs eS p0), (3, .bool x5), (4, .bool x6)] ∧ HH g h' [] F) ∨ (∃ (x7 : Bool), e = .ret ∧ .inr x7 = o1 ∧ Has fr' 126 [(2, .bool x7)] ∧ HH g h' [] F) ∨ False) ?_ ?_
    · refine aw_loop (by kernel_rfl) (fun (s : Bool × Bool × Int) fr' h' => ∃ (x2 : Bool) (x3 : Bool) (x4 : Int), (x2, x3, x4) = s ∧ Has fr' 126 [(0, vs eS p0), (3, .bool x2), (4, .bool x3), (15, vs eS p0), (16, .int .i64 (p0.length : Int)), (17, .int .i64 x4)] ∧ HH g h' [] F) ho ⟨true, true, (0 : Int), rfl, H.less _ (fun fr => by kernel_rfl), A⟩ ?_
      clear ho hm H A
      intro s q fr h1 hI hm
      obtain ⟨x2, x3, x4, rfl, H, A⟩ := hI
      unfold M_boulterlaw31_ExfileTexts_L0 at hm
      refine aw_seq (by kernel_rfl) ?_
      refine aw_reg (id := 5) (n := 1) [(0, [])] (by kernel_rfl) (by kernel_rfl) ?_
      refine at_seg [(0, [])] [(0, vs eS p0), (3, .bool x2), (4, .bool x3), (15, vs eS p0), (16, .int .i64 (p0.length : Int)), (17, .int .i64 x4), (18, .bool (decide (x4 < (p0.length : Int))))] H (noU_all rfl) (fun fr => by kernel_rfl) ?_
      intro fr H
      refine at_nil ?_
      show AW cfg 4 g (right (left (left (right (left (right (right (right (bodyC cfg.P 4))))))))) fr h1 _
      refine aw_seq (by kernel_rfl) ?_
      rcases iteB_some hm with ⟨hb, hm⟩ | ⟨hb, hm⟩
      · replace H := H.know 18 hb (by kernel_rfl)
        refine aw_true (x := .tmp 18) (by kernel_rfl) H (fun fr => by kernel_rfl) ?_
        refine aw_skip (by kernel_rfl) ?_
        show AW cfg 4 g (right (right (left (left (right (left (right (right (right (bodyC cfg.P 4)))))))))) fr h1 _
        refine aw_seq (by kernel_rfl) ?_
        refine aw_block (id := 1) (by kernel_rfl) ?_
        refine aw_seq (by kernel_rfl) ?_
        refine aw_reg (id := 6) (n := 3) [(0, []), (1, []), (2, [])] (by kernel_rfl) (by kernel_rfl) ?_
        obtain ⟨x8, hx, hm⟩ := bind_some hm
        refine at_step (v := .vptr [.str x8]) (h1 := h1) [(0, vs eS p0), (3, .bool x2), (4, .bool x3), (15, vs eS p0), (16, .int .i64 (p0.length : Int)), (17, .int .i64 x4), (19, .vptr [.str x8])] H (fun fr => by kernel_rfl) (fun fr => .of (s_ixV (e := eS) (x := x8) encS (by decide) (by kernel_rfl) hx)) ?_
        intro fr t H
        refine at_step (v := .str x8) (h1 := h1) [(0, vs eS p0), (3, .bool x2), (4, .bool x3), (15, vs eS p0), (16, .int .i64 (p0.length : Int)), (17, .int .i64 x4), (20, .str x8)] H (fun fr => by kernel_rfl) (fun fr => .of (s_lv (by kernel_rfl))) ?_
        intro fr t H
        refine at_seg [(2, [])] [(0, vs eS p0), (3, .bool x2), (4, .bool x3), (6, .str x8), (15, vs eS p0), (16, .int .i64 (p0.length : Int)), (17, .int .i64 x4)] H (noU_all rfl) (fun fr => by kernel_rfl) ?_
        intro fr H
        refine at_nil ?_
        show AW cfg 4 g (right (left (left (right (right (left (left (right (left (right (right (right (bodyC cfg.P 4))))))))))))) fr h1 _
        refine aw_seq (by kernel_rfl) ?_
        refine aw_seq (by kernel_rfl) ?_
        refine aw_reg (id := 7) (n := 3) [(0, []), (1, []), (2, [])] (by kernel_rfl) (by kernel_rfl) ?_
        refine at_seg [(0, []), (1, []), (2, [])] [(0, vs eS p0), (3, .bool x2), (4, .bool x3), (6, .str x8), (15, vs eS p0), (16, .int .i64 (p0.length : Int)), (17, .int .i64 x4), (23, .bool (decide ((x8.length : Int) > (60 : Int))))] H (noU_all rfl) (fun fr => by kernel_rfl) ?_
        intro fr H
        refine at_nil ?_
        show AW cfg 4 g (right (left (right (left (left (right (right (left (left (right (left (right (right (right (bodyC cfg.P 4))))))))))))))) fr h1 _
        rcases iteB_some hm with ⟨hb, hm⟩ | ⟨hb, hm⟩
        · replace H := H.know 23 hb (by kernel_rfl)
          refine aw_true (x := .tmp 23) (by kernel_rfl) H (fun fr => by kernel_rfl) ?_
          refine aw_seq (by kernel_rfl) ?_
          refine aw_reg (id := 8) (n := 2) [(0, []), (1, [])] (by kernel_rfl) (by kernel_rfl) ?_
          obtain ⟨x9, hx, hm⟩ := bind_some hm
          refine at_step (v := .bool x9) (h1 := h1) [(24, .bool x9)] H (fun fr => by kernel_rfl) (fun fr => Steps.call (by kernel_rfl) (ok_boulterlaw31_awake hx)) ?_
          intro fr t H
          refine at_seg [(1, [])] [(2, .bool x9)] H (noU_all rfl) (fun fr => by kernel_rfl) ?_
          intro fr H
          refine at_nil ?_
          show AW cfg 4 g (right (left (right (left (right (left (left (right (right (left (left (right (left (right (right (right (bodyC cfg.P 4))))))))))))))))) fr h1 _
          refine aw_ret (by kernel_rfl) ?_
          exact Exists.intro _ (And.intro (Option.some.inj hm).symm (fun e => Or.inr (Or.inl ⟨x9, rfl, e, H.less _ (fun fr => by kernel_rfl), A⟩)))
        · replace H := H.know 23 hb (by kernel_rfl)
          refine aw_false (x := .tmp 23) (by kernel_rfl) H (fun fr => by kernel_rfl) ?_
          refine aw_skip (by kernel_rfl) ?_
          show AW cfg 4 g (right (right (left (left (right (right (left (left (right (left (right (right (right (bodyC cfg.P 4)))))))))))))) fr h1 _
          refine aw_seq (by kernel_rfl) ?_
          refine aw_reg (id := 9) (n := 27) [(0, []), (1, []), (2, []), (3, []), (4, []), (5, []), (6, []), (7, []), (8, []), (9, []), (10, []), (11, []), (12, []), (13, []), (14, []), (15, []), (16, []), (17, []), (18, []), (19, []), (20, []), (21, []), (22, []), (23, []), (24, []), (25, []), (26, [])] (by kernel_rfl) (by kernel_rfl) ?_
          refine at_seg [(0, []), (1, [])] [(0, vs eS p0), (4, .bool x3), (6, .str x8), (15, vs eS p0), (16, .int .i64 (p0.length : Int)), (17, .int .i64 x4), (26, .bool x2)] H (noU_all rfl) (fun fr => by kernel_rfl) ?_
          intro fr H
          refine at_cut [(2, []), (3, []), (4, [])] (fun fr' h' => h1 = h' ∧ Has fr' 126 [(0, vs eS p0), (4, .bool x3), (6, .str x8), (15, vs eS p0), (16, .int .i64 (p0.length : Int)), (17, .int .i64 x4), (29, .bool (x2 && (!(x8 == ([] : List UInt8)))))]) ?_ ?_
          · cases hb : (x2 : Bool) with
            | true =>
              replace H := H.know 26 hb (by kernel_rfl)
              refine at_seg [(2, []), (3, []), (4, [])] [(0, vs eS p0), (4, .bool x3), (6, .str x8), (15, vs eS p0), (16, .int .i64 (p0.length : Int)), (17, .int .i64 x4), (29, .bool (!(x8 == ([] : List UInt8))))] H (noU_all rfl) (fun fr => by kernel_rfl) ?_
              intro fr H
              exact at_nil ⟨rfl, by first | exact H.less _ (fun fr => by rfl) | exact H.less _ (fun fr => by rw [hb]; rfl)⟩
            | false =>
              replace H := H.know 26 hb (by kernel_rfl)
              refine at_seg [(2, []), (3, []), (4, [])] [(0, vs eS p0), (4, .bool x3), (6, .str x8), (15, vs eS p0), (16, .int .i64 (p0.length : Int)), (17, .int .i64 x4), (29, .bool false)] H (noU_all rfl) (fun fr => by kernel_rfl) ?_
              intro fr H
              exact at_nil ⟨rfl, by first | exact H.less _ (fun fr => by rfl) | exact H.less _ (fun fr => by rw [hb]; rfl)⟩
          · intro t fr h' hK
            obtain ⟨e, H⟩ := hK
            subst e
            refine at_seg [(5, [])] [(0, vs eS p0), (4, .bool x3), (6, .str x8), (15, vs eS p0), (16, .int .i64 (p0.length : Int)), (17, .int .i64 x4), (30, .bool (x2 && (!(x8 == ([] : List UInt8)))))] H (noU_all rfl) (fun fr => by kernel_rfl) ?_
            intro fr H
            obtain ⟨x10, ho, hm⟩ := bind_some hm
            refine at_cut [(6, []), (7, []), (8, []), (9, [])] (fun fr' h' => Has fr' 126 [(0, vs eS p0), (4, .bool x3), (6, .str x8), (15, vs eS p0), (16, .int .i64 (p0.length : Int)), (17, .int .i64 x4), (34, .bool x10)] ∧ HH g h' [] F) ?_ ?_
            · rcases iteB_some ho with ⟨hb, hm⟩ | ⟨hb, hm⟩
              · replace H := H.know 30 hb (by kernel_rfl)
                refine at_seg [(6, [])] [(0, vs eS p0), (4, .bool x3), (6, .str x8), (15, vs eS p0), (16, .int .i64 (p0.length : Int)), (17, .int .i64 x4), (30, .bool true), (31, .str x8)] H (noU_all rfl) (fun fr => by kernel_rfl) ?_
                intro fr H
                have A1 := A.cut 0
                obtain ⟨x11, hx, hm⟩ := bind_some hm
                obtain ⟨v1, h3, hr, rfl, A1⟩ := ok_boulterref13_In (av := [.int .u8 (10 : Int), .str x8]) hx (by kernel_rfl) A1
                replace A : HH g h3 [] F := A.glue0 (n := 0) A1
                refine at_step (v := .bool x11) (h1 := h3) [(0, vs eS p0), (4, .bool x3), (6, .str x8), (15, vs eS p0), (16, .int .i64 (p0.length : Int)), (17, .int .i64 x4), (30, .bool true), (32, .bool x11)] H (fun fr => by kernel_rfl) (fun fr => Steps.call (by kernel_rfl) hr) ?_
                intro fr t H
                refine at_seg [(8, []), (9, [])] [(0, vs eS p0), (4, .bool x3), (6, .str x8), (15, vs eS p0), (16, .int .i64 (p0.length : Int)), (17, .int .i64 x4), (34, .bool (!x11))] H (noU_all rfl) (fun fr => by kernel_rfl) ?_
                intro fr H
                have e1 := Option.some.inj hm
                subst e1
                exact at_nil ⟨H.less _ (fun fr => by kernel_rfl), A⟩
              · replace H := H.know 30 hb (by kernel_rfl)
                refine at_seg [(6, []), (7, []), (8, []), (9, [])] [(0, vs eS p0), (4, .bool x3), (6, .str x8), (15, vs eS p0), (16, .int .i64 (p0.length : Int)), (17, .int .i64 x4), (34, .bool false)] H (noU_all rfl) (fun fr => by kernel_rfl) ?_
                intro fr H
                have e1 := Option.some.inj hm
                subst e1
                exact at_nil ⟨H.less _ (fun fr => by kernel_rfl), A⟩
            · clear A
              intro t fr h2 hK
              obtain ⟨H, A⟩ := hK
              refine at_seg [(10, [])] [(0, vs eS p0), (4, .bool x3), (6, .str x8), (15, vs eS p0), (16, .int .i64 (p0.length : Int)), (17, .int .i64 x4), (35, .bool x10)] H (noU_all rfl) (fun fr => by kernel_rfl) ?_
              intro fr H
              obtain ⟨x12, ho, hm⟩ := bind_some hm
              refine at_cut [(11, []), (12, []), (13, []), (14, []), (15, []), (16, []), (17, []), (18, []), (19, []), (20, []), (21, []), (22, []), (23, []), (24, []), (25, [])] (fun fr' h' => Has fr' 126 [(0, vs eS p0), (4, .bool x3), (6, .str x8), (15, vs eS p0), (16, .int .i64 (p0.length : Int)), (17, .int .i64 x4), (50, .bool x12)] ∧ HH g h' [] F) ?_ ?_
              · rcases iteB_some ho with ⟨hb, hm⟩ | ⟨hb, hm⟩
                · replace H := H.know 35 hb (by kernel_rfl)
                  refine at_seg [(11, []), (12, []), (13, []), (14, [])] [(0, vs eS p0), (4, .bool x3), (6, .str x8), (15, vs eS p0), (16, .int .i64 (p0.length : Int)), (17, .int .i64 x4), (35, .bool true), (39, .bool (decide ((x8.length : Int) > (1 : Int))))] H (noU_all rfl) (fun fr => by kernel_rfl) ?_
                  intro fr H
                  obtain ⟨x13, ho, hm⟩ := bind_some hm
                  refine at_cut [(15, []), (16, []), (17, []), (18, [])] (fun fr' h' => Has fr' 126 [(0, vs eS p0), (4, .bool x3), (6, .str x8), (15, vs eS p0), (16, .int .i64 (p0.length : Int)), (17, .int .i64 x4), (35, .bool true), (43, .bool x13)] ∧ HH g h' [] F) ?_ ?_
                  · rcases iteB_some ho with ⟨hb, hm⟩ | ⟨hb, hm⟩
                    · replace H := H.know 39 hb (by kernel_rfl)
                      refine at_seg [(15, [])] [(0, vs eS p0), (4, .bool x3), (6, .str x8), (15, vs eS p0), (16, .int .i64 (p0.length : Int)), (17, .int .i64 x4), (35, .bool true), (39, .bool true), (40, .str x8)] H (noU_all rfl) (fun fr => by kernel_rfl) ?_
                      intro fr H
                      obtain ⟨x14, hx, hm⟩ := bind_some hm
                      refine at_step (v := .int .u8 x14) (h1 := h2) [(0, vs eS p0), (4, .bool x3), (6, .str x8), (15, vs eS p0), (16, .int .i64 (p0.length : Int)), (17, .int .i64 x4), (35, .bool true), (39, .bool true), (41, .int .u8 x14)] H (fun fr => by kernel_rfl) (fun fr => .of (s_ixS (by kernel_rfl) hx)) ?_
                      intro fr t H
                      refine at_seg [(17, []), (18, [])] [(0, vs eS p0), (4, .bool x3), (6, .str x8), (15, vs eS p0), (16, .int .i64 (p0.length : Int)), (17, .int .i64 x4), (35, .bool true), (43, .bool (x14 == (92 : Int)))] H (noU_all rfl) (fun fr => by kernel_rfl) ?_
                      intro fr H
                      have e1 := Option.some.inj hm
                      subst e1
                      exact at_nil ⟨H.less _ (fun fr => by kernel_rfl), A⟩
                    · replace H := H.know 39 hb (by kernel_rfl)
                      refine at_seg [(15, []), (16, []), (17, []), (18, [])] [(0, vs eS p0), (4, .bool x3), (6, .str x8), (15, vs eS p0), (16, .int .i64 (p0.length : Int)), (17, .int .i64 x4), (35, .bool true), (43, .bool false)] H (noU_all rfl) (fun fr => by kernel_rfl) ?_
                      intro fr H
                      have e1 := Option.some.inj hm
                      subst e1
                      exact at_nil ⟨H.less _ (fun fr => by kernel_rfl), A⟩
                  · clear A
                    intro t fr h5 hK
                    obtain ⟨H, A⟩ := hK
                    refine at_seg [(19, [])] [(0, vs eS p0), (4, .bool x3), (6, .str x8), (15, vs eS p0), (16, .int .i64 (p0.length : Int)), (17, .int .i64 x4), (35, .bool true), (44, .bool x13)] H (noU_all rfl) (fun fr => by kernel_rfl) ?_
                    intro fr H
                    obtain ⟨x15, ho, hm⟩ := bind_some hm
                    refine at_cut [(20, []), (21, []), (22, []), (23, [])] (fun fr' h' => Has fr' 126 [(0, vs eS p0), (4, .bool x3), (6, .str x8), (15, vs eS p0), (16, .int .i64 (p0.length : Int)), (17, .int .i64 x4), (35, .bool true), (48, .bool x15)] ∧ HH g h' [] F) ?_ ?_
                    · rcases iteB_some ho with ⟨hb, hm⟩ | ⟨hb, hm⟩
                      · replace H := H.know 44 hb (by kernel_rfl)
                        refine at_seg [(20, [])] [(0, vs eS p0), (4, .bool x3), (6, .str x8), (15, vs eS p0), (16, .int .i64 (p0.length : Int)), (17, .int .i64 x4), (35, .bool true), (44, .bool true), (45, .str x8)] H (noU_all rfl) (fun fr => by kernel_rfl) ?_
                        intro fr H
                        obtain ⟨x16, hx, hm⟩ := bind_some hm
                        refine at_step (v := .int .u8 x16) (h1 := h5) [(0, vs eS p0), (4, .bool x3), (6, .str x8), (15, vs eS p0), (16, .int .i64 (p0.length : Int)), (17, .int .i64 x4), (35, .bool true), (44, .bool true), (46, .int .u8 x16)] H (fun fr => by kernel_rfl) (fun fr => .of (s_ixS (by kernel_rfl) hx)) ?_
                        intro fr t H
                        refine at_seg [(22, []), (23, [])] [(0, vs eS p0), (4, .bool x3), (6, .str x8), (15, vs eS p0), (16, .int .i64 (p0.length : Int)), (17, .int .i64 x4), (35, .bool true), (48, .bool (x16 == (35 : Int)))] H (noU_all rfl) (fun fr => by kernel_rfl) ?_
                        intro fr H
                        have e1 := Option.some.inj hm
                        subst e1
                        exact at_nil ⟨H.less _ (fun fr => by kernel_rfl), A⟩
                      · replace H := H.know 44 hb (by kernel_rfl)
                        refine at_seg [(20, []), (21, []), (22, []), (23, [])] [(0, vs eS p0), (4, .bool x3), (6, .str x8), (15, vs eS p0), (16, .int .i64 (p0.length : Int)), (17, .int .i64 x4), (35, .bool true), (48, .bool false)] H (noU_all rfl) (fun fr => by kernel_rfl) ?_
                        intro fr H
                        have e1 := Option.some.inj hm
                        subst e1
                        exact at_nil ⟨H.less _ (fun fr => by kernel_rfl), A⟩
                    · clear A
                      intro t fr h6 hK
                      obtain ⟨H, A⟩ := hK
                      refine at_seg [(24, []), (25, [])] [(0, vs eS p0), (4, .bool x3), (6, .str x8), (15, vs eS p0), (16, .int .i64 (p0.length : Int)), (17, .int .i64 x4), (50, .bool (!x15))] H (noU_all rfl) (fun fr => by kernel_rfl) ?_
                      intro fr H
                      have e1 := Option.some.inj hm
                      subst e1
                      exact at_nil ⟨H.less _ (fun fr => by kernel_rfl), A⟩
                · replace H := H.know 35 hb (by kernel_rfl)
                  refine at_seg [(11, []), (12, []), (13, []), (14, []), (15, []), (16, []), (17, []), (18, []), (19, []), (20, []), (21, []), (22, []), (23, []), (24, []), (25, [])] [(0, vs eS p0), (4, .bool x3), (6, .str x8), (15, vs eS p0), (16, .int .i64 (p0.length : Int)), (17, .int .i64 x4), (50, .bool false)] H (noU_all rfl) (fun fr => by kernel_rfl) ?_
                  intro fr H
                  have e1 := Option.some.inj hm
                  subst e1
                  exact at_nil ⟨H.less _ (fun fr => by kernel_rfl), A⟩
              · clear A
                intro t fr h4 hK
                obtain ⟨H, A⟩ := hK
                refine at_seg [(26, [])] [(0, vs eS p0), (3, .bool x12), (4, .bool x3), (6, .str x8), (15, vs eS p0), (16, .int .i64 (p0.length : Int)), (17, .int .i64 x4)] H (noU_all rfl) (fun fr => by kernel_rfl) ?_
                intro fr H
                refine at_nil ?_
                show AW cfg 4 g (right (right (right (left (left (right (right (left (left (right (left (right (right (right (bodyC cfg.P 4))))))))))))))) fr h4 _
                refine aw_reg (id := 10) (n := 11) [(0, []), (1, []), (2, []), (3, []), (4, []), (5, []), (6, []), (7, []), (8, []), (9, []), (10, [])] (by kernel_rfl) (by kernel_rfl) ?_
                refine at_seg [(0, []), (1, [])] [(0, vs eS p0), (3, .bool x12), (6, .str x8), (15, vs eS p0), (16, .int .i64 (p0.length : Int)), (17, .int .i64 x4), (52, .bool x3)] H (noU_all rfl) (fun fr => by kernel_rfl) ?_
                intro fr H
                refine at_cut [(2, []), (3, []), (4, [])] (fun fr' h' => h4 = h' ∧ Has fr' 126 [(0, vs eS p0), (3, .bool x12), (6, .str x8), (15, vs eS p0), (16, .int .i64 (p0.length : Int)), (17, .int .i64 x4), (55, .bool (x3 && (!(x8 == ([] : List UInt8)))))]) ?_ ?_
                · cases hb : (x3 : Bool) with
                  | true =>
                    replace H := H.know 52 hb (by kernel_rfl)
                    refine at_seg [(2, []), (3, []), (4, [])] [(0, vs eS p0), (3, .bool x12), (6, .str x8), (15, vs eS p0), (16, .int .i64 (p0.length : Int)), (17, .int .i64 x4), (55, .bool (!(x8 == ([] : List UInt8))))] H (noU_all rfl) (fun fr => by kernel_rfl) ?_
                    intro fr H
                    exact at_nil ⟨rfl, by first | exact H.less _ (fun fr => by rfl) | exact H.less _ (fun fr => by rw [hb]; rfl)⟩
                  | false =>
                    replace H := H.know 52 hb (by kernel_rfl)
                    refine at_seg [(2, []), (3, []), (4, [])] [(0, vs eS p0), (3, .bool x12), (6, .str x8), (15, vs eS p0), (16, .int .i64 (p0.length : Int)), (17, .int .i64 x4), (55, .bool false)] H (noU_all rfl) (fun fr => by kernel_rfl) ?_
                    intro fr H
                    exact at_nil ⟨rfl, by first | exact H.less _ (fun fr => by rfl) | exact H.less _ (fun fr => by rw [hb]; rfl)⟩
                · intro t fr h' hK
                  obtain ⟨e, H⟩ := hK
                  subst e
                  refine at_seg [(5, [])] [(0, vs eS p0), (3, .bool x12), (6, .str x8), (15, vs eS p0), (16, .int .i64 (p0.length : Int)), (17, .int .i64 x4), (56, .bool (x3 && (!(x8 == ([] : List UInt8)))))] H (noU_all rfl) (fun fr => by kernel_rfl) ?_
                  intro fr H
                  obtain ⟨x17, ho, hm⟩ := bind_some hm
                  refine at_cut [(6, []), (7, []), (8, []), (9, [])] (fun fr' h' => Has fr' 126 [(0, vs eS p0), (3, .bool x12), (15, vs eS p0), (16, .int .i64 (p0.length : Int)), (17, .int .i64 x4), (60, .bool x17)] ∧ HH g h' [] F) ?_ ?_
                  · rcases iteB_some ho with ⟨hb, hm⟩ | ⟨hb, hm⟩
                    · replace H := H.know 56 hb (by kernel_rfl)
                      refine at_seg [(6, [])] [(0, vs eS p0), (3, .bool x12), (15, vs eS p0), (16, .int .i64 (p0.length : Int)), (17, .int .i64 x4), (56, .bool true), (57, .str x8)] H (noU_all rfl) (fun fr => by kernel_rfl) ?_
                      intro fr H
                      have A1 := A.cut 0
                      obtain ⟨x18, hx, hm⟩ := bind_some hm
                      obtain ⟨v1, h8, hr, rfl, A1⟩ := ok_boulterref13_In (av := [.int .u8 (0 : Int), .str x8]) hx (by kernel_rfl) A1
                      replace A : HH g h8 [] F := A.glue0 (n := 0) A1
                      refine at_step (v := .bool x18) (h1 := h8) [(0, vs eS p0), (3, .bool x12), (15, vs eS p0), (16, .int .i64 (p0.length : Int)), (17, .int .i64 x4), (56, .bool true), (58, .bool x18)] H (fun fr => by kernel_rfl) (fun fr => Steps.call (by kernel_rfl) hr) ?_
                      intro fr t H
                      refine at_seg [(8, []), (9, [])] [(0, vs eS p0), (3, .bool x12), (15, vs eS p0), (16, .int .i64 (p0.length : Int)), (17, .int .i64 x4), (60, .bool (!x18))] H (noU_all rfl) (fun fr => by kernel_rfl) ?_
                      intro fr H
                      have e1 := Option.some.inj hm
                      subst e1
                      exact at_nil ⟨H.less _ (fun fr => by kernel_rfl), A⟩
                    · replace H := H.know 56 hb (by kernel_rfl)
                      refine at_seg [(6, []), (7, []), (8, []), (9, [])] [(0, vs eS p0), (3, .bool x12), (15, vs eS p0), (16, .int .i64 (p0.length : Int)), (17, .int .i64 x4), (60, .bool false)] H (noU_all rfl) (fun fr => by kernel_rfl) ?_
                      intro fr H
                      have e1 := Option.some.inj hm
                      subst e1
                      exact at_nil ⟨H.less _ (fun fr => by kernel_rfl), A⟩
                  · clear A
                    intro t fr h7 hK
                    obtain ⟨H, A⟩ := hK
                    refine at_seg [(10, [])] [(0, vs eS p0), (3, .bool x12), (4, .bool x17), (15, vs eS p0), (16, .int .i64 (p0.length : Int)), (17, .int .i64 x4)] H (noU_all rfl) (fun fr => by kernel_rfl) ?_
                    intro fr H
                    refine at_nil ?_
                    show AW cfg 4 g (right (right (right (left (left (right (left (right (right (right (bodyC cfg.P 4))))))))))) fr h7 _
                    refine aw_reg (id := 11) (n := 2) [(0, []), (1, [])] (by kernel_rfl) (by kernel_rfl) ?_
                    refine at_seg [(0, []), (1, [])] [(0, vs eS p0), (3, .bool x12), (4, .bool x17), (15, vs eS p0), (16, .int .i64 (p0.length : Int)), (17, .int .i64 (IntKind.i64.wrap (x4 + (1 : Int))))] H (noU_all rfl) (fun fr => by kernel_rfl) ?_
                    intro fr H
                    refine at_nil ?_
                    exact Exists.intro (x12, x17, IntKind.i64.wrap (x4 + (1 : Int))) (And.intro (Option.some.inj hm).symm ⟨x12, x17, IntKind.i64.wrap (x4 + (1 : Int)), rfl, H.less _ (fun fr => by kernel_rfl), A⟩)
      · replace H := H.know 18 hb (by kernel_rfl)
        refine aw_false (x := .tmp 18) (by kernel_rfl) H (fun fr => by kernel_rfl) ?_
        refine aw_exit (i := 0) (by kernel_rfl) ?_
        exact Exists.intro _ (And.intro (Option.some.inj hm).symm (fun e => Or.inl ⟨x2, x3, rfl, e, H.less _ (fun fr => by kernel_rfl), A⟩))
    · clear ho
      clear A
      intro e fr h9 hQ
      rcases hQ with ⟨x5, x6, rfl, rfl, H, A⟩ | ⟨x7, rfl, rfl, H, A⟩ | hF
      · skip
        show AW cfg 4 g (right (right (right (right (bodyC cfg.P 4))))) fr h9 _
        refine aw_seq (by kernel_rfl) ?_
        refine aw_reg (id := 12) (n := 7) [(0, []), (1, []), (2, []), (3, []), (4, []), (5, []), (6, [])] (by kernel_rfl) (by kernel_rfl) ?_
        refine at_seg [(0, [])] [(0, vs eS p0), (3, .bool x5), (4, .bool x6), (63, vs eS p0)] H (noU_all rfl) (fun fr => by kernel_rfl) ?_
        intro fr H
        have A1 := A.cut 0
        obtain ⟨⟨x19, x20⟩, hx, hm⟩ := bind_some hm
        obtain ⟨v1, h10, hr, rfl, A1⟩ := ok_exfile_Text (av := [vs eS p0]) hx (by kernel_rfl) A1
        replace A : HH g h10 [] F := A.glue0 (n := 0) A1
        refine at_step (v := .tuple [.str x19, .int .i64 x20]) (h1 := h10) [(0, vs eS p0), (3, .bool x5), (4, .bool x6), (64, .tuple [.str x19, .int .i64 x20])] H (fun fr => by kernel_rfl) (fun fr => Steps.call (by kernel_rfl) hr) ?_
        intro fr t H
        refine at_seg [(2, []), (3, []), (4, []), (5, []), (6, [])] [(0, vs eS p0), (3, .bool x5), (4, .bool x6), (7, .str x19), (8, .int .i64 x20)] H (noU_all rfl) (fun fr => by kernel_rfl) ?_
        intro fr H
        refine at_nil ?_
        show AW cfg 4 g (right (right (right (right (right (bodyC cfg.P 4)))))) fr h10 _
        refine aw_seq (by kernel_rfl) ?_
        refine aw_reg (id := 13) (n := 7) [(0, []), (1, []), (2, []), (3, []), (4, []), (5, []), (6, [])] (by kernel_rfl) (by kernel_rfl) ?_
        refine at_seg [(0, [])] [(0, vs eS p0), (3, .bool x5), (4, .bool x6), (7, .str x19), (8, .int .i64 x20), (68, vs eS p0)] H (noU_all rfl) (fun fr => by kernel_rfl) ?_
        intro fr H
        have A1 := A.cut 0
        obtain ⟨⟨x21, x22⟩, hx, hm⟩ := bind_some hm
        obtain ⟨v1, h11, hr, rfl, A1⟩ := ok_exfile_Pack (av := [vs eS p0]) hx (by kernel_rfl) A1
        replace A : HH g h11 [] F := A.glue0 (n := 0) A1
        refine at_step (v := .tuple [.str x21, .int .i64 x22]) (h1 := h11) [(0, vs eS p0), (3, .bool x5), (4, .bool x6), (7, .str x19), (8, .int .i64 x20), (69, .tuple [.str x21, .int .i64 x22])] H (fun fr => by kernel_rfl) (fun fr => Steps.call (by kernel_rfl) hr) ?_
        intro fr t H
        refine at_seg [(2, []), (3, []), (4, []), (5, []), (6, [])] [(0, vs eS p0), (3, .bool x5), (4, .bool x6), (7, .str x19), (8, .int .i64 x20), (9, .str x21), (10, .int .i64 x22)] H (noU_all rfl) (fun fr => by kernel_rfl) ?_
        intro fr H
        refine at_nil ?_
        show AW cfg 4 g (right (right (right (right (right (right (bodyC cfg.P 4))))))) fr h11 _
        refine aw_seq (by kernel_rfl) ?_
        refine aw_seq (by kernel_rfl) ?_
        refine aw_reg (id := 14) (n := 26) [(0, []), (1, []), (2, []), (3, []), (4, []), (5, []), (6, []), (7, []), (8, []), (9, []), (10, []), (11, []), (12, []), (13, []), (14, []), (15, []), (16, []), (17, []), (18, []), (19, []), (20, []), (21, []), (22, []), (23, []), (24, []), (25, [])] (by kernel_rfl) (by kernel_rfl) ?_
        refine at_seg [(0, []), (1, []), (2, []), (3, []), (4, [])] [(0, vs eS p0), (3, .bool x5), (4, .bool x6), (7, .str x19), (8, .int .i64 x20), (9, .str x21), (10, .int .i64 x22), (76, .bool (!(x6 == (x22 == (0 : Int)))))] H (noU_all rfl) (fun fr => by kernel_rfl) ?_
        intro fr H
        obtain ⟨x23, ho, hm⟩ := bind_some hm
        refine at_cut [(5, []), (6, []), (7, []), (8, []), (9, []), (10, []), (11, []), (12, []), (13, [])] (fun fr' h' => Has fr' 126 [(0, vs eS p0), (3, .bool x5), (4, .bool x6), (7, .str x19), (8, .int .i64 x20), (9, .str x21), (10, .int .i64 x22), (85, .bool x23)] ∧ HH g h' [] F) ?_ ?_
        · rcases iteB_some ho with ⟨hb, hm⟩ | ⟨hb, hm⟩
          · replace H := H.know 76 hb (by kernel_rfl)
            refine at_seg [(5, []), (6, []), (7, []), (8, []), (9, []), (10, []), (11, []), (12, []), (13, [])] [(0, vs eS p0), (3, .bool x5), (4, .bool x6), (7, .str x19), (8, .int .i64 x20), (9, .str x21), (10, .int .i64 x22), (85, .bool true)] H (noU_all rfl) (fun fr => by kernel_rfl) ?_
            intro fr H
            have e1 := Option.some.inj hm
            subst e1
            exact at_nil ⟨H.less _ (fun fr => by kernel_rfl), A⟩
          · replace H := H.know 76 hb (by kernel_rfl)
            refine at_seg [(5, []), (6, [])] [(0, vs eS p0), (3, .bool x5), (4, .bool x6), (7, .str x19), (8, .int .i64 x20), (9, .str x21), (10, .int .i64 x22), (76, .bool false), (78, .bool x6)] H (noU_all rfl) (fun fr => by kernel_rfl) ?_
            intro fr H
            obtain ⟨x24, ho, hm⟩ := bind_some hm
            refine at_cut [(7, []), (8, []), (9, []), (10, []), (11, []), (12, [])] (fun fr' h' => Has fr' 126 [(0, vs eS p0), (3, .bool x5), (4, .bool x6), (7, .str x19), (8, .int .i64 x20), (9, .str x21), (10, .int .i64 x22), (76, .bool false), (84, .bool x24)] ∧ HH g h' [] F) ?_ ?_
            · rcases iteB_some ho with ⟨hb, hm⟩ | ⟨hb, hm⟩
              · replace H := H.know 78 hb (by kernel_rfl)
                refine at_seg [(7, [])] [(0, vs eS p0), (3, .bool x5), (4, .bool x6), (7, .str x19), (8, .int .i64 x20), (9, .str x21), (10, .int .i64 x22), (76, .bool false), (78, .bool true), (79, .str x21)] H (noU_all rfl) (fun fr => by kernel_rfl) ?_
                intro fr H
                have A1 := A.cut 0
                obtain ⟨x25, hx, hm⟩ := bind_some hm
                obtain ⟨v1, h14, hr, rqw7, rfl, A1⟩ := ok_boulterref31_Items (av := [.str x21]) hx (by kernel_rfl) A1
                replace A : HH g h14 [.lst rqw7 9 (lst eS x25)] F := A.glue0 (n := 0) A1
                refine at_step (v := rowV rqw7 x25.length) (h1 := h14) [(0, vs eS p0), (3, .bool x5), (4, .bool x6), (7, .str x19), (8, .int .i64 x20), (9, .str x21), (10, .int .i64 x22), (76, .bool false), (78, .bool true), (80, rowV rqw7 x25.length)] H (fun fr => by kernel_rfl) (fun fr => Steps.call (by kernel_rfl) hr) ?_
                intro fr t H
                refine at_seg [(9, [])] [(0, vs eS p0), (3, .bool x5), (4, .bool x6), (7, .str x19), (8, .int .i64 x20), (9, .str x21), (10, .int .i64 x22), (76, .bool false), (78, .bool true), (80, rowV rqw7 x25.length), (81, vs eS p0)] H (noU_all rfl) (fun fr => by kernel_rfl) ?_
                intro fr H
                have A1 := A.cut 1
                obtain ⟨x26, hx, hm⟩ := bind_some hm
                obtain ⟨v1, h15, hr, rfl, A1⟩ := ok_boulterref26_Same_s0 (av := [rowV rqw7 x25.length, vs eS p0]) hx (by kernel_rfl) A1
                replace A : HH g h15 [.lst rqw7 9 (lst eS x25)] F := A.glue0 (n := 1) A1
                refine at_step (v := .bool x26) (h1 := h15) [(0, vs eS p0), (3, .bool x5), (4, .bool x6), (7, .str x19), (8, .int .i64 x20), (9, .str x21), (10, .int .i64 x22), (76, .bool false), (78, .bool true), (82, .bool x26)] H (fun fr => by kernel_rfl) (fun fr => Steps.call (by kernel_rfl) hr) ?_
                intro fr t H
                refine at_seg [(11, []), (12, [])] [(0, vs eS p0), (3, .bool x5), (4, .bool x6), (7, .str x19), (8, .int .i64 x20), (9, .str x21), (10, .int .i64 x22), (76, .bool false), (84, .bool (!x26))] H (noU_all rfl) (fun fr => by kernel_rfl) ?_
                intro fr H
                have e1 := Option.some.inj hm
                subst e1
                replace A : HH g h15 [] F := (HH.dropF A 0)
                exact at_nil ⟨H.less _ (fun fr => by kernel_rfl), A⟩
              · replace H := H.know 78 hb (by kernel_rfl)
                refine at_seg [(7, []), (8, []), (9, []), (10, []), (11, []), (12, [])] [(0, vs eS p0), (3, .bool x5), (4, .bool x6), (7, .str x19), (8, .int .i64 x20), (9, .str x21), (10, .int .i64 x22), (76, .bool false), (84, .bool false)] H (noU_all rfl) (fun fr => by kernel_rfl) ?_
                intro fr H
                have e1 := Option.some.inj hm
                subst e1
                exact at_nil ⟨H.less _ (fun fr => by kernel_rfl), A⟩
            · clear A
              intro t fr h13 hK
              obtain ⟨H, A⟩ := hK
              refine at_seg [(13, [])] [(0, vs eS p0), (3, .bool x5), (4, .bool x6), (7, .str x19), (8, .int .i64 x20), (9, .str x21), (10, .int .i64 x22), (85, .bool x24)] H (noU_all rfl) (fun fr => by kernel_rfl) ?_
              intro fr H
              have e1 := Option.some.inj hm
              subst e1
              exact at_nil ⟨H.less _ (fun fr => by kernel_rfl), A⟩
        · clear A
          intro t fr h12 hK
          obtain ⟨H, A⟩ := hK
          refine at_seg [(14, [])] [(0, vs eS p0), (3, .bool x5), (4, .bool x6), (7, .str x19), (8, .int .i64 x20), (9, .str x21), (10, .int .i64 x22), (86, .bool x23)] H (noU_all rfl) (fun fr => by kernel_rfl) ?_
          intro fr H
          refine at_cut [(15, []), (16, []), (17, []), (18, []), (19, []), (20, []), (21, []), (22, []), (23, []), (24, []), (25, [])] (fun fr' h' => h12 = h' ∧ Has fr' 126 [(0, vs eS p0), (3, .bool x5), (7, .str x19), (8, .int .i64 x20), (97, .bool (x23 || ((!x6) && ((!(x21 == ([] : List UInt8))) || (x22 != (2 : Int))))))]) ?_ ?_
          · cases hb : (x23 : Bool) with
            | true =>
              replace H := H.know 86 hb (by kernel_rfl)
              refine at_seg [(15, []), (16, []), (17, []), (18, []), (19, []), (20, []), (21, []), (22, []), (23, []), (24, []), (25, [])] [(0, vs eS p0), (3, .bool x5), (7, .str x19), (8, .int .i64 x20), (97, .bool true)] H (noU_all rfl) (fun fr => by kernel_rfl) ?_
              intro fr H
              exact at_nil ⟨rfl, by first | exact H.less _ (fun fr => by rfl) | exact H.less _ (fun fr => by rw [hb]; rfl)⟩
            | false =>
              replace H := H.know 86 hb (by kernel_rfl)
              refine at_seg [(15, []), (16, []), (17, [])] [(0, vs eS p0), (3, .bool x5), (7, .str x19), (8, .int .i64 x20), (9, .str x21), (10, .int .i64 x22), (86, .bool false), (89, .bool (!x6))] H (noU_all rfl) (fun fr => by kernel_rfl) ?_
              intro fr H
              refine at_cut [(18, []), (19, []), (20, []), (21, []), (22, []), (23, []), (24, [])] (fun fr' h' => h12 = h' ∧ Has fr' 126 [(0, vs eS p0), (3, .bool x5), (7, .str x19), (8, .int .i64 x20), (86, .bool false), (96, .bool ((!x6) && ((!(x21 == ([] : List UInt8))) || (x22 != (2 : Int)))))]) ?_ ?_
              · cases hb : (!x6 : Bool) with
                | true =>
                  replace H := H.know 89 hb (by kernel_rfl)
                  refine at_seg [(18, []), (19, []), (20, [])] [(0, vs eS p0), (3, .bool x5), (7, .str x19), (8, .int .i64 x20), (10, .int .i64 x22), (86, .bool false), (89, .bool true), (92, .bool (!(x21 == ([] : List UInt8))))] H (noU_all rfl) (fun fr => by kernel_rfl) ?_
                  intro fr H
                  refine at_cut [(21, []), (22, []), (23, [])] (fun fr' h' => h12 = h' ∧ Has fr' 126 [(0, vs eS p0), (3, .bool x5), (7, .str x19), (8, .int .i64 x20), (86, .bool false), (89, .bool true), (95, .bool ((!(x21 == ([] : List UInt8))) || (x22 != (2 : Int))))]) ?_ ?_
                  · cases hb : (!(x21 == ([] : List UInt8)) : Bool) with
                    | true =>
                      replace H := H.know 92 hb (by kernel_rfl)
                      refine at_seg [(21, []), (22, []), (23, [])] [(0, vs eS p0), (3, .bool x5), (7, .str x19), (8, .int .i64 x20), (86, .bool false), (89, .bool true), (95, .bool true)] H (noU_all rfl) (fun fr => by kernel_rfl) ?_
                      intro fr H
                      exact at_nil ⟨rfl, by first | exact H.less _ (fun fr => by rfl) | exact H.less _ (fun fr => by rw [hb]; rfl)⟩
                    | false =>
                      replace H := H.know 92 hb (by kernel_rfl)
                      refine at_seg [(21, []), (22, []), (23, [])] [(0, vs eS p0), (3, .bool x5), (7, .str x19), (8, .int .i64 x20), (86, .bool false), (89, .bool true), (95, .bool (x22 != (2 : Int)))] H (noU_all rfl) (fun fr => by kernel_rfl) ?_
                      intro fr H
                      exact at_nil ⟨rfl, by first | exact H.less _ (fun fr => by rfl) | exact H.less _ (fun fr => by rw [hb]; rfl)⟩
                  · intro t fr h' hK
                    obtain ⟨e, H⟩ := hK
                    subst e
                    refine at_seg [(24, [])] [(0, vs eS p0), (3, .bool x5), (7, .str x19), (8, .int .i64 x20), (86, .bool false), (96, .bool ((!(x21 == ([] : List UInt8))) || (x22 != (2 : Int))))] H (noU_all rfl) (fun fr => by kernel_rfl) ?_
                    intro fr H
                    exact at_nil ⟨rfl, by first | exact H.less _ (fun fr => by rfl) | exact H.less _ (fun fr => by rw [hb]; rfl)⟩
                | false =>
                  replace H := H.know 89 hb (by kernel_rfl)
                  refine at_seg [(18, []), (19, []), (20, []), (21, []), (22, []), (23, []), (24, [])] [(0, vs eS p0), (3, .bool x5), (7, .str x19), (8, .int .i64 x20), (86, .bool false), (96, .bool false)] H (noU_all rfl) (fun fr => by kernel_rfl) ?_
                  intro fr H
                  exact at_nil ⟨rfl, by first | exact H.less _ (fun fr => by rfl) | exact H.less _ (fun fr => by rw [hb]; rfl)⟩
              · intro t fr h' hK
                obtain ⟨e, H⟩ := hK
                subst e
                refine at_seg [(25, [])] [(0, vs eS p0), (3, .bool x5), (7, .str x19), (8, .int .i64 x20), (97, .bool ((!x6) && ((!(x21 == ([] : List UInt8))) || (x22 != (2 : Int)))))] H (noU_all rfl) (fun fr => by kernel_rfl) ?_
                intro fr H
                exact at_nil ⟨rfl, by first | exact H.less _ (fun fr => by rfl) | exact H.less _ (fun fr => by rw [hb]; rfl)⟩
          · intro t fr h' hK
            obtain ⟨e, H⟩ := hK
            subst e
            refine at_nil ?_
            show AW cfg 4 g (right (left (right (right (right (right (right (right (bodyC cfg.P 4))))))))) fr h12 _
            rcases iteB_some hm with ⟨hb, hm⟩ | ⟨hb, hm⟩
            · replace H := H.know 97 hb (by kernel_rfl)
              refine aw_true (x := .tmp 97) (by kernel_rfl) H (fun fr => by kernel_rfl) ?_
              refine aw_seq (by kernel_rfl) ?_
              refine aw_reg (id := 15) (n := 1) [(0, [])] (by kernel_rfl) (by kernel_rfl) ?_
              refine at_seg [(0, [])] [(2, .bool false)] H (noU_all rfl) (fun fr => by kernel_rfl) ?_
              intro fr H
              refine at_nil ?_
              show AW cfg 4 g (right (left (right (left (right (right (right (right (right (right (bodyC cfg.P 4))))))))))) fr h12 _
              refine aw_ret (by kernel_rfl) ?_
              have e1 := Option.some.inj hm
              subst e1
              refine ⟨.inl rfl, .bool false, resH H (fun fr => by kernel_rfl), ?_⟩
              exact ⟨rfl, A⟩
            · replace H := H.know 97 hb (by kernel_rfl)
              refine aw_false (x := .tmp 97) (by kernel_rfl) H (fun fr => by kernel_rfl) ?_
              refine aw_skip (by kernel_rfl) ?_
              show AW cfg 4 g (right (right (right (right (right (right (right (bodyC cfg.P 4)))))))) fr h12 _
              refine aw_seq (by kernel_rfl) ?_
              refine aw_seq (by kernel_rfl) ?_
              refine aw_reg (id := 16) (n := 2) [(0, []), (1, [])] (by kernel_rfl) (by kernel_rfl) ?_
              refine at_seg [(0, []), (1, [])] [(0, vs eS p0), (7, .str x19), (8, .int .i64 x20), (99, .bool (!x5))] H (noU_all rfl) (fun fr => by kernel_rfl) ?_
              intro fr H
              refine at_nil ?_
              show AW cfg 4 g (right (left (right (right (right (right (right (right (right (bodyC cfg.P 4)))))))))) fr h12 _
              rcases iteB_some hm with ⟨hb, hm⟩ | ⟨hb, hm⟩
              · replace H := H.know 99 hb (by kernel_rfl)
                refine aw_true (x := .tmp 99) (by kernel_rfl) H (fun fr => by kernel_rfl) ?_
                refine aw_seq (by kernel_rfl) ?_
                refine aw_reg (id := 17) (n := 10) [(0, []), (1, []), (2, []), (3, []), (4, []), (5, []), (6, []), (7, []), (8, []), (9, [])] (by kernel_rfl) (by kernel_rfl) ?_
                refine at_seg [(0, []), (1, []), (2, [])] [(7, .str x19), (102, .bool (x20 == (2 : Int)))] H (noU_all rfl) (fun fr => by kernel_rfl) ?_
                intro fr H
                refine at_cut [(3, []), (4, []), (5, [])] (fun fr' h' => h12 = h' ∧ Has fr' 126 [(105, .bool ((x20 == (2 : Int)) && (x19 == ([] : List UInt8))))]) ?_ ?_
                · cases hb : (x20 == (2 : Int) : Bool) with
                  | true =>
                    replace H := H.know 102 hb (by kernel_rfl)
                    refine at_seg [(3, []), (4, []), (5, [])] [(105, .bool (x19 == ([] : List UInt8)))] H (noU_all rfl) (fun fr => by kernel_rfl) ?_
                    intro fr H
                    exact at_nil ⟨rfl, by first | exact H.less _ (fun fr => by rfl) | exact H.less _ (fun fr => by rw [hb]; rfl)⟩
                  | false =>
                    replace H := H.know 102 hb (by kernel_rfl)
                    refine at_seg [(3, []), (4, []), (5, [])] [(105, .bool false)] H (noU_all rfl) (fun fr => by kernel_rfl) ?_
                    intro fr H
                    exact at_nil ⟨rfl, by first | exact H.less _ (fun fr => by rfl) | exact H.less _ (fun fr => by rw [hb]; rfl)⟩
                · intro t fr h' hK
                  obtain ⟨e, H⟩ := hK
                  subst e
                  refine at_seg [(6, [])] [(106, .bool ((x20 == (2 : Int)) && (x19 == ([] : List UInt8))))] H (noU_all rfl) (fun fr => by kernel_rfl) ?_
                  intro fr H
                  obtain ⟨x27, ho, hm⟩ := bind_some hm
                  refine at_cut [(7, []), (8, [])] (fun fr' h' => Has fr' 126 [(108, .bool x27)] ∧ HH g h' [] F) ?_ ?_
                  · rcases iteB_some ho with ⟨hb, hm⟩ | ⟨hb, hm⟩
                    · replace H := H.know 106 hb (by kernel_rfl)
                      obtain ⟨x28, hx, hm⟩ := bind_some hm
                      refine at_step (v := .bool x28) (h1 := h12) [(106, .bool true), (107, .bool x28)] H (fun fr => by kernel_rfl) (fun fr => Steps.call (by kernel_rfl) (ok_boulterlaw31_awake hx)) ?_
                      intro fr t H
                      refine at_seg [(8, [])] [(108, .bool x28)] H (noU_all rfl) (fun fr => by kernel_rfl) ?_
                      intro fr H
                      have e1 := Option.some.inj hm
                      subst e1
                      exact at_nil ⟨H.less _ (fun fr => by kernel_rfl), A⟩
                    · replace H := H.know 106 hb (by kernel_rfl)
                      refine at_seg [(7, []), (8, [])] [(108, .bool false)] H (noU_all rfl) (fun fr => by kernel_rfl) ?_
                      intro fr H
                      have e1 := Option.some.inj hm
                      subst e1
                      exact at_nil ⟨H.less _ (fun fr => by kernel_rfl), A⟩
                  · clear A
                    intro t fr h16 hK
                    obtain ⟨H, A⟩ := hK
                    refine at_seg [(9, [])] [(2, .bool x27)] H (noU_all rfl) (fun fr => by kernel_rfl) ?_
                    intro fr H
                    refine at_nil ?_
                    show AW cfg 4 g (right (left (right (left (right (right (right (right (right (right (right (bodyC cfg.P 4)))))))))))) fr h16 _
                    refine aw_ret (by kernel_rfl) ?_
                    have e1 := Option.some.inj hm
                    subst e1
                    refine ⟨.inl rfl, .bool x27, resH H (fun fr => by kernel_rfl), ?_⟩
                    exact ⟨rfl, A⟩
              · replace H := H.know 99 hb (by kernel_rfl)
                refine aw_false (x := .tmp 99) (by kernel_rfl) H (fun fr => by kernel_rfl) ?_
                refine aw_skip (by kernel_rfl) ?_
                show AW cfg 4 g (right (right (right (right (right (right (right (right (bodyC cfg.P 4))))))))) fr h12 _
                refine aw_seq (by kernel_rfl) ?_
                refine aw_reg (id := 18) (n := 18) [(0, []), (1, []), (2, []), (3, []), (4, []), (5, []), (6, []), (7, []), (8, []), (9, []), (10, []), (11, []), (12, []), (13, []), (14, []), (15, []), (16, []), (17, [])] (by kernel_rfl) (by kernel_rfl) ?_
                refine at_seg [(0, []), (1, []), (2, [])] [(0, vs eS p0), (7, .str x19), (111, .bool (x20 == (0 : Int)))] H (noU_all rfl) (fun fr => by kernel_rfl) ?_
                intro fr H
                obtain ⟨x29, ho, hm⟩ := bind_some hm
                refine at_cut [(3, []), (4, []), (5, []), (6, []), (7, [])] (fun fr' h' => Has fr' 126 [(0, vs eS p0), (7, .str x19), (116, .bool x29)] ∧ HH g h' [] F) ?_ ?_
                · rcases iteB_some ho with ⟨hb, hm⟩ | ⟨hb, hm⟩
                  · replace H := H.know 111 hb (by kernel_rfl)
                    refine at_seg [(3, [])] [(0, vs eS p0), (7, .str x19), (111, .bool true), (112, .str x19)] H (noU_all rfl) (fun fr => by kernel_rfl) ?_
                    intro fr H
                    have A1 := A.cut 0
                    obtain ⟨x30, hx, hm⟩ := bind_some hm
                    obtain ⟨v1, h18, hr, rqw9, rfl, A1⟩ := ok_boulterref31_Lines (av := [.str x19]) hx (by kernel_rfl) A1
                    replace A : HH g h18 [.lst rqw9 9 (lst eS x30)] F := A.glue0 (n := 0) A1
                    refine at_step (v := rowV rqw9 x30.length) (h1 := h18) [(0, vs eS p0), (7, .str x19), (111, .bool true), (113, rowV rqw9 x30.length)] H (fun fr => by kernel_rfl) (fun fr => Steps.call (by kernel_rfl) hr) ?_
                    intro fr t H
                    refine at_seg [(5, [])] [(0, vs eS p0), (7, .str x19), (111, .bool true), (113, rowV rqw9 x30.length), (114, vs eS p0)] H (noU_all rfl) (fun fr => by kernel_rfl) ?_
                    intro fr H
                    have A1 := A.cut 1
                    obtain ⟨x31, hx, hm⟩ := bind_some hm
                    obtain ⟨v1, h19, hr, rfl, A1⟩ := ok_boulterref26_Same_s0 (av := [rowV rqw9 x30.length, vs eS p0]) hx (by kernel_rfl) A1
                    replace A : HH g h19 [.lst rqw9 9 (lst eS x30)] F := A.glue0 (n := 1) A1
                    refine at_step (v := .bool x31) (h1 := h19) [(0, vs eS p0), (7, .str x19), (111, .bool true), (115, .bool x31)] H (fun fr => by kernel_rfl) (fun fr => Steps.call (by kernel_rfl) hr) ?_
                    intro fr t H
                    refine at_seg [(7, [])] [(0, vs eS p0), (7, .str x19), (116, .bool x31)] H (noU_all rfl) (fun fr => by kernel_rfl) ?_
                    intro fr H
                    have e1 := Option.some.inj hm
                    subst e1
                    replace A : HH g h19 [] F := (HH.dropF A 0)
                    exact at_nil ⟨H.less _ (fun fr => by kernel_rfl), A⟩
                  · replace H := H.know 111 hb (by kernel_rfl)
                    refine at_seg [(3, []), (4, []), (5, []), (6, []), (7, [])] [(0, vs eS p0), (7, .str x19), (116, .bool false)] H (noU_all rfl) (fun fr => by kernel_rfl) ?_
                    intro fr H
                    have e1 := Option.some.inj hm
                    subst e1
                    exact at_nil ⟨H.less _ (fun fr => by kernel_rfl), A⟩
                · clear A
                  intro t fr h17 hK
                  obtain ⟨H, A⟩ := hK
                  refine at_seg [(8, [])] [(0, vs eS p0), (7, .str x19), (117, .bool x29)] H (noU_all rfl) (fun fr => by kernel_rfl) ?_
                  intro fr H
                  obtain ⟨x32, ho, hm⟩ := bind_some hm
                  refine at_cut [(9, []), (10, []), (11, []), (12, []), (13, [])] (fun fr' h' => Has fr' 126 [(122, .bool x32)] ∧ HH g h' [] F) ?_ ?_
                  · rcases iteB_some ho with ⟨hb, hm⟩ | ⟨hb, hm⟩
                    · replace H := H.know 117 hb (by kernel_rfl)
                      refine at_seg [(9, [])] [(0, vs eS p0), (117, .bool true), (118, .str x19)] H (noU_all rfl) (fun fr => by kernel_rfl) ?_
                      intro fr H
                      have A1 := A.cut 0
                      obtain ⟨x33, hx, hm⟩ := bind_some hm
                      obtain ⟨v1, h21, hr, rqw11, rfl, A1⟩ := ok_exfile_Lines (av := [.str x19]) hx (by kernel_rfl) A1
                      replace A : HH g h21 [.lst rqw11 9 (lst eS x33)] F := A.glue0 (n := 0) A1
                      refine at_step (v := rowV rqw11 x33.length) (h1 := h21) [(0, vs eS p0), (117, .bool true), (119, rowV rqw11 x33.length)] H (fun fr => by kernel_rfl) (fun fr => Steps.call (by kernel_rfl) hr) ?_
                      intro fr t H
                      refine at_seg [(11, [])] [(117, .bool true), (119, rowV rqw11 x33.length), (120, vs eS p0)] H (noU_all rfl) (fun fr => by kernel_rfl) ?_
                      intro fr H
                      have A1 := A.cut 1
                      obtain ⟨x34, hx, hm⟩ := bind_some hm
                      obtain ⟨v1, h22, hr, rfl, A1⟩ := ok_boulterref26_Same_s0 (av := [rowV rqw11 x33.length, vs eS p0]) hx (by kernel_rfl) A1
                      replace A : HH g h22 [.lst rqw11 9 (lst eS x33)] F := A.glue0 (n := 1) A1
                      refine at_step (v := .bool x34) (h1 := h22) [(117, .bool true), (121, .bool x34)] H (fun fr => by kernel_rfl) (fun fr => Steps.call (by kernel_rfl) hr) ?_
                      intro fr t H
                      refine at_seg [(13, [])] [(122, .bool x34)] H (noU_all rfl) (fun fr => by kernel_rfl) ?_
                      intro fr H
                      have e1 := Option.some.inj hm
                      subst e1
                      replace A : HH g h22 [] F := (HH.dropF A 0)
                      exact at_nil ⟨H.less _ (fun fr => by kernel_rfl), A⟩
                    · replace H := H.know 117 hb (by kernel_rfl)
                      refine at_seg [(9, []), (10, []), (11, []), (12, []), (13, [])] [(122, .bool false)] H (noU_all rfl) (fun fr => by kernel_rfl) ?_
                      intro fr H
                      have e1 := Option.some.inj hm
                      subst e1
                      exact at_nil ⟨H.less _ (fun fr => by kernel_rfl), A⟩
                  · clear A
                    intro t fr h20 hK
                    obtain ⟨H, A⟩ := hK
                    refine at_seg [(14, [])] [(123, .bool x32)] H (noU_all rfl) (fun fr => by kernel_rfl) ?_
                    intro fr H
                    obtain ⟨x35, ho, hm⟩ := bind_some hm
                    refine at_cut [(15, []), (16, [])] (fun fr' h' => Has fr' 126 [(125, .bool x35)] ∧ HH g h' [] F) ?_ ?_
                    · rcases iteB_some ho with ⟨hb, hm⟩ | ⟨hb, hm⟩
                      · replace H := H.know 123 hb (by kernel_rfl)
                        obtain ⟨x36, hx, hm⟩ := bind_some hm
                        refine at_step (v := .bool x36) (h1 := h20) [(123, .bool true), (124, .bool x36)] H (fun fr => by kernel_rfl) (fun fr => Steps.call (by kernel_rfl) (ok_boulterlaw31_awake hx)) ?_
                        intro fr t H
                        refine at_seg [(16, [])] [(125, .bool x36)] H (noU_all rfl) (fun fr => by kernel_rfl) ?_
                        intro fr H
                        have e1 := Option.some.inj hm
                        subst e1
                        exact at_nil ⟨H.less _ (fun fr => by kernel_rfl), A⟩
                      · replace H := H.know 123 hb (by kernel_rfl)
                        refine at_seg [(15, []), (16, [])] [(125, .bool false)] H (noU_all rfl) (fun fr => by kernel_rfl) ?_
                        intro fr H
                        have e1 := Option.some.inj hm
                        subst e1
                        exact at_nil ⟨H.less _ (fun fr => by kernel_rfl), A⟩
                    · clear A
                      intro t fr h23 hK
                      obtain ⟨H, A⟩ := hK
                      refine at_seg [(17, [])] [(2, .bool x35)] H (noU_all rfl) (fun fr => by kernel_rfl) ?_
                      intro fr H
                      refine at_nil ?_
                      show AW cfg 4 g (right (right (right (right (right (right (right (right (right (bodyC cfg.P 4)))))))))) fr h23 _
                      refine aw_ret (by kernel_rfl) ?_
                      have e1 := Option.some.inj hm
                      subst e1
                      refine ⟨.inl rfl, .bool x35, resH H (fun fr => by kernel_rfl), ?_⟩
                      exact ⟨rfl, A⟩
      · skip
        have e1 := Option.some.inj hm
        subst e1
        refine ⟨.inl rfl, .bool x7, resH H (fun fr => by kernel_rfl), ?_⟩
        exact ⟨rfl, A⟩
      · exact hF.elim
end Go.Av.L
