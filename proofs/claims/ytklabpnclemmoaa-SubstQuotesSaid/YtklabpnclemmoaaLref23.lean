/-
  Models of functions of package ref23, and that the abstract run tells them. Written by lift.py.
-/
import Derived.Test.YtklabpnclemmoaaLCfg
namespace Go.Abs.L
open Go.Abs
set_option linter.unusedVariables false
/-! ### boulter/boulterref23.span -/
noncomputable def M_boulterref23_span (h : AHeap) (p0 : List UInt8) (p1 : List AVal) : Option ((List UInt8)) :=
 need (p1.all AVal.one) <| (some (h.push (.cells none 2 p1))).bind fun h1 => (ldB h1 (h.size, 2)).bind fun x1 => (iteB (!x1) (some true) ((ldI h1 (h.size, 0) .i64).bind fun x3 => some (decide (x3 < (0 : Int)))) : Option (Bool)).bind fun x2 => (iteB x2 (some true) ((ldI h1 (h.size, 1) .i64).bind fun x5 => (ldI h1 (h.size, 0) .i64).bind fun x6 => some (decide (x5 < x6))) : Option (Bool)).bind fun x4 => (iteB x4 (some true) ((ldI h1 (h.size, 1) .i64).bind fun x8 => some (decide (x8 > (p0.length : Int)))) : Option (Bool)).bind fun x7 => iteB x7 (some ([] : List UInt8)) ((ldI h1 (h.size, 0) .i64).bind fun x9 => (ldI h1 (h.size, 1) .i64).bind fun x10 => (subS p0 (some x9) (some x10)).bind fun x11 => some x11)
theorem ok_boulterref23_span {g : Gd} {h : AHeap} {p0 : List UInt8} {p1 : List AVal} {r0 : List UInt8} (hm : M_boulterref23_span h p0 p1 = some r0) : Runs cfg g h 71 [.str p0, .agg p1] (.str r0) h := by
  refine runs2E (by kernel_rfl) (by kernel_rfl) (body_ofE (n := 33) (rs := [.tmp 4]) (by kernel_rfl) ?_)
  unfold M_boulterref23_span at hm
  refine start (n := 33) [(0, .str p0), (1, .agg p1)] (by kernel_rfl) (by kernel_rfl) ?_
  intro fr H
  refine aw_seq (by kernel_rfl) ?_
  refine aw_reg (id := 0) (n := 2) [(0, []), (1, [])] (by kernel_rfl) (by kernel_rfl) ?_
  obtain ⟨hb, hm⟩ := need_some hm
  obtain ⟨h1, hx, hm⟩ := bind_some hm
  refine at_step (v := .ptr (some (h.size, 0))) (h1 := h1) [(0, .str p0), (3, .ptr (some (h.size, 0)))] H (fun fr => by kernel_rfl) (fun fr => .of (s_boxG (by kernel_rfl) hb hx)) ?_
  intro fr t H
  refine at_seg [(1, [])] [(0, .str p0), (3, .ptr (some (h.size, 0)))] H (noU_all rfl) (fun fr => by kernel_rfl) ?_
  intro fr H
  refine at_nil ?_
  show AW cfg 71 (⟨h.size, []⟩ : Gd) (right (bodyC cfg.P 71)) fr h1 _
  refine aw_seq (by kernel_rfl) ?_
  refine aw_seq (by kernel_rfl) ?_
  refine aw_reg (id := 1) (n := 22) [(0, []), (1, []), (2, []), (3, []), (4, []), (5, []), (6, []), (7, []), (8, []), (9, []), (10, []), (11, []), (12, []), (13, []), (14, []), (15, []), (16, []), (17, []), (18, []), (19, []), (20, []), (21, [])] (by kernel_rfl) (by kernel_rfl) ?_
  refine at_seg [(0, [])] [(0, .str p0), (3, .ptr (some (h.size, 0))), (5, .ptr (some (h.size, 2)))] H (noU_all rfl) (fun fr => by kernel_rfl) ?_
  intro fr H
  obtain ⟨x1, hx, hm⟩ := bind_some hm
  refine at_step (v := .bool x1) (h1 := h1) [(0, .str p0), (3, .ptr (some (h.size, 0))), (6, .bool x1)] H (fun fr => by kernel_rfl) (fun fr => .of (s_ld (by kernel_rfl) (ldB_eq hx))) ?_
  intro fr t H
  refine at_seg [(2, []), (3, [])] [(0, .str p0), (3, .ptr (some (h.size, 0))), (8, .bool (!x1))] H (noU_all rfl) (fun fr => by kernel_rfl) ?_
  intro fr H
  obtain ⟨x2, ho, hm⟩ := bind_some hm
  refine at_cut [(4, []), (5, []), (6, []), (7, [])] (fun fr' h' => h1 = h' ∧ Has fr' 33 [(0, .str p0), (3, .ptr (some (h.size, 0))), (12, .bool x2)]) ?_ ?_
  · rcases iteB_some ho with ⟨hb, hm⟩ | ⟨hb, hm⟩
    · replace H := H.know 8 hb (by kernel_rfl)
      refine at_seg [(4, []), (5, []), (6, []), (7, [])] [(0, .str p0), (3, .ptr (some (h.size, 0))), (12, .bool true)] H (noU_all rfl) (fun fr => by kernel_rfl) ?_
      intro fr H
      have e1 := Option.some.inj hm
      subst e1
      exact at_nil ⟨rfl, H.less _ (fun fr => by kernel_rfl)⟩
    · replace H := H.know 8 hb (by kernel_rfl)
      refine at_seg [(4, [])] [(0, .str p0), (3, .ptr (some (h.size, 0))), (8, .bool false), (9, .ptr (some (h.size, 0)))] H (noU_all rfl) (fun fr => by kernel_rfl) ?_
      intro fr H
      obtain ⟨x3, hx, hm⟩ := bind_some hm
      refine at_step (v := .int .i64 x3) (h1 := h1) [(0, .str p0), (3, .ptr (some (h.size, 0))), (8, .bool false), (10, .int .i64 x3)] H (fun fr => by kernel_rfl) (fun fr => .of (s_ld (by kernel_rfl) (ldI_eq hx))) ?_
      intro fr t H
      refine at_seg [(6, []), (7, [])] [(0, .str p0), (3, .ptr (some (h.size, 0))), (12, .bool (decide (x3 < (0 : Int))))] H (noU_all rfl) (fun fr => by kernel_rfl) ?_
      intro fr H
      have e1 := Option.some.inj hm
      subst e1
      exact at_nil ⟨rfl, H.less _ (fun fr => by kernel_rfl)⟩
  · intro t fr h' hK
    obtain ⟨e, H⟩ := hK
    subst e
    refine at_seg [(8, [])] [(0, .str p0), (3, .ptr (some (h.size, 0))), (13, .bool x2)] H (noU_all rfl) (fun fr => by kernel_rfl) ?_
    intro fr H
    obtain ⟨x4, ho, hm⟩ := bind_some hm
    refine at_cut [(9, []), (10, []), (11, []), (12, []), (13, []), (14, [])] (fun fr' h' => h1 = h' ∧ Has fr' 33 [(0, .str p0), (3, .ptr (some (h.size, 0))), (19, .bool x4)]) ?_ ?_
    · rcases iteB_some ho with ⟨hb, hm⟩ | ⟨hb, hm⟩
      · replace H := H.know 13 hb (by kernel_rfl)
        refine at_seg [(9, []), (10, []), (11, []), (12, []), (13, []), (14, [])] [(0, .str p0), (3, .ptr (some (h.size, 0))), (19, .bool true)] H (noU_all rfl) (fun fr => by kernel_rfl) ?_
        intro fr H
        have e1 := Option.some.inj hm
        subst e1
        exact at_nil ⟨rfl, H.less _ (fun fr => by kernel_rfl)⟩
      · replace H := H.know 13 hb (by kernel_rfl)
        refine at_seg [(9, [])] [(0, .str p0), (3, .ptr (some (h.size, 0))), (13, .bool false), (14, .ptr (some (h.size, 1)))] H (noU_all rfl) (fun fr => by kernel_rfl) ?_
        intro fr H
        obtain ⟨x5, hx, hm⟩ := bind_some hm
        refine at_step (v := .int .i64 x5) (h1 := h1) [(0, .str p0), (3, .ptr (some (h.size, 0))), (13, .bool false), (15, .int .i64 x5)] H (fun fr => by kernel_rfl) (fun fr => .of (s_ld (by kernel_rfl) (ldI_eq hx))) ?_
        intro fr t H
        refine at_seg [(11, [])] [(0, .str p0), (3, .ptr (some (h.size, 0))), (13, .bool false), (15, .int .i64 x5), (16, .ptr (some (h.size, 0)))] H (noU_all rfl) (fun fr => by kernel_rfl) ?_
        intro fr H
        obtain ⟨x6, hx, hm⟩ := bind_some hm
        refine at_step (v := .int .i64 x6) (h1 := h1) [(0, .str p0), (3, .ptr (some (h.size, 0))), (13, .bool false), (15, .int .i64 x5), (17, .int .i64 x6)] H (fun fr => by kernel_rfl) (fun fr => .of (s_ld (by kernel_rfl) (ldI_eq hx))) ?_
        intro fr t H
        refine at_seg [(13, []), (14, [])] [(0, .str p0), (3, .ptr (some (h.size, 0))), (19, .bool (decide (x5 < x6)))] H (noU_all rfl) (fun fr => by kernel_rfl) ?_
        intro fr H
        have e1 := Option.some.inj hm
        subst e1
        exact at_nil ⟨rfl, H.less _ (fun fr => by kernel_rfl)⟩
    · intro t fr h' hK
      obtain ⟨e, H⟩ := hK
      subst e
      refine at_seg [(15, [])] [(0, .str p0), (3, .ptr (some (h.size, 0))), (20, .bool x4)] H (noU_all rfl) (fun fr => by kernel_rfl) ?_
      intro fr H
      obtain ⟨x7, ho, hm⟩ := bind_some hm
      refine at_cut [(16, []), (17, []), (18, []), (19, []), (20, []), (21, [])] (fun fr' h' => h1 = h' ∧ Has fr' 33 [(0, .str p0), (3, .ptr (some (h.size, 0))), (26, .bool x7)]) ?_ ?_
      · rcases iteB_some ho with ⟨hb, hm⟩ | ⟨hb, hm⟩
        · replace H := H.know 20 hb (by kernel_rfl)
          refine at_seg [(16, []), (17, []), (18, []), (19, []), (20, []), (21, [])] [(0, .str p0), (3, .ptr (some (h.size, 0))), (26, .bool true)] H (noU_all rfl) (fun fr => by kernel_rfl) ?_
          intro fr H
          have e1 := Option.some.inj hm
          subst e1
          exact at_nil ⟨rfl, H.less _ (fun fr => by kernel_rfl)⟩
        · replace H := H.know 20 hb (by kernel_rfl)
          refine at_seg [(16, [])] [(0, .str p0), (3, .ptr (some (h.size, 0))), (20, .bool false), (21, .ptr (some (h.size, 1)))] H (noU_all rfl) (fun fr => by kernel_rfl) ?_
          intro fr H
          obtain ⟨x8, hx, hm⟩ := bind_some hm
          refine at_step (v := .int .i64 x8) (h1 := h1) [(0, .str p0), (3, .ptr (some (h.size, 0))), (20, .bool false), (22, .int .i64 x8)] H (fun fr => by kernel_rfl) (fun fr => .of (s_ld (by kernel_rfl) (ldI_eq hx))) ?_
          intro fr t H
          refine at_seg [(18, []), (19, []), (20, []), (21, [])] [(0, .str p0), (3, .ptr (some (h.size, 0))), (26, .bool (decide (x8 > (p0.length : Int))))] H (noU_all rfl) (fun fr => by kernel_rfl) ?_
          intro fr H
          have e1 := Option.some.inj hm
          subst e1
          exact at_nil ⟨rfl, H.less _ (fun fr => by kernel_rfl)⟩
      · intro t fr h' hK
        obtain ⟨e, H⟩ := hK
        subst e
        refine at_nil ?_
        show AW cfg 71 (⟨h.size, []⟩ : Gd) (right (left (right (bodyC cfg.P 71)))) fr h1 _
        rcases iteB_some hm with ⟨hb, hm⟩ | ⟨hb, hm⟩
        · replace H := H.know 26 hb (by kernel_rfl)
          refine aw_true (x := .tmp 26) (by kernel_rfl) H (fun fr => by kernel_rfl) ?_
          refine aw_seq (by kernel_rfl) ?_
          refine aw_reg (id := 2) (n := 1) [(0, [])] (by kernel_rfl) (by kernel_rfl) ?_
          refine at_seg [(0, [])] [(4, .str ([] : List UInt8))] H (noU_all rfl) (fun fr => by kernel_rfl) ?_
          intro fr H
          refine at_nil ?_
          show AW cfg 71 (⟨h.size, []⟩ : Gd) (right (left (right (left (right (bodyC cfg.P 71)))))) fr h1 _
          refine aw_ret (by kernel_rfl) ?_
          have e1 := Option.some.inj hm
          subst e1
          exact (doneE_of .ret H (fun fr => by kernel_rfl) (.inl rfl) : doneE cfg.P _ _ _ fr _)
        · replace H := H.know 26 hb (by kernel_rfl)
          refine aw_false (x := .tmp 26) (by kernel_rfl) H (fun fr => by kernel_rfl) ?_
          refine aw_skip (by kernel_rfl) ?_
          show AW cfg 71 (⟨h.size, []⟩ : Gd) (right (right (bodyC cfg.P 71))) fr h1 _
          refine aw_seq (by kernel_rfl) ?_
          refine aw_reg (id := 3) (n := 7) [(0, []), (1, []), (2, []), (3, []), (4, []), (5, []), (6, [])] (by kernel_rfl) (by kernel_rfl) ?_
          refine at_seg [(0, []), (1, [])] [(3, .ptr (some (h.size, 0))), (27, .str p0), (28, .ptr (some (h.size, 0)))] H (noU_all rfl) (fun fr => by kernel_rfl) ?_
          intro fr H
          obtain ⟨x9, hx, hm⟩ := bind_some hm
          refine at_step (v := .int .i64 x9) (h1 := h1) [(3, .ptr (some (h.size, 0))), (27, .str p0), (29, .int .i64 x9)] H (fun fr => by kernel_rfl) (fun fr => .of (s_ld (by kernel_rfl) (ldI_eq hx))) ?_
          intro fr t H
          refine at_seg [(3, [])] [(27, .str p0), (29, .int .i64 x9), (30, .ptr (some (h.size, 1)))] H (noU_all rfl) (fun fr => by kernel_rfl) ?_
          intro fr H
          obtain ⟨x10, hx, hm⟩ := bind_some hm
          refine at_step (v := .int .i64 x10) (h1 := h1) [(27, .str p0), (29, .int .i64 x9), (31, .int .i64 x10)] H (fun fr => by kernel_rfl) (fun fr => .of (s_ld (by kernel_rfl) (ldI_eq hx))) ?_
          intro fr t H
          obtain ⟨x11, hx, hm⟩ := bind_some hm
          refine at_step (v := .str x11) (h1 := h1) [(32, .str x11)] H (fun fr => by kernel_rfl) (fun fr => .of (s_subS (k := .i64) (k' := .i64) (lo := (some x9)) (hi := (some x10)) (by kernel_rfl) hx)) ?_
          intro fr t H
          refine at_seg [(6, [])] [(4, .str x11)] H (noU_all rfl) (fun fr => by kernel_rfl) ?_
          intro fr H
          refine at_nil ?_
          show AW cfg 71 (⟨h.size, []⟩ : Gd) (right (right (right (bodyC cfg.P 71)))) fr h1 _
          refine aw_ret (by kernel_rfl) ?_
          have e1 := Option.some.inj hm
          subst e1
          exact (doneE_of .ret H (fun fr => by kernel_rfl) (.inl rfl) : doneE cfg.P _ _ _ fr _)
/-! ### boulter/boulterref23.big -/
noncomputable def M_boulterref23_big (h : AHeap) (p0 : Int) : Option (Int) :=
 iteB ((decide (p0 ≥ (97 : Int))) && (decide (p0 ≤ (122 : Int)))) (some (IntKind.u8.wrap (p0 - (32 : Int)))) (some p0)
theorem ok_boulterref23_big {g : Gd} {h : AHeap} {p0 : Int} {r0 : Int} (hm : M_boulterref23_big h p0 = some r0) : Runs cfg g h 72 [.int .u8 p0] (.int .u8 r0) h := by
  refine runs2E (by kernel_rfl) (by kernel_rfl) (body_ofE (n := 12) (rs := [.tmp 2]) (by kernel_rfl) ?_)
  unfold M_boulterref23_big at hm
  refine start (n := 12) [(0, .int .u8 p0)] (by kernel_rfl) (by kernel_rfl) ?_
  intro fr H
  refine aw_seq (by kernel_rfl) ?_
  refine aw_reg (id := 0) (n := 1) [(0, [])] (by kernel_rfl) (by kernel_rfl) ?_
  refine at_seg [(0, [])] [(0, .int .u8 p0)] H (noU_all rfl) (fun fr => by kernel_rfl) ?_
  intro fr H
  refine at_nil ?_
  show AW cfg 72 (⟨h.size, []⟩ : Gd) (right (bodyC cfg.P 72)) fr h _
  refine aw_seq (by kernel_rfl) ?_
  refine aw_seq (by kernel_rfl) ?_
  refine aw_reg (id := 1) (n := 6) [(0, []), (1, []), (2, []), (3, []), (4, []), (5, [])] (by kernel_rfl) (by kernel_rfl) ?_
  refine at_seg [(0, []), (1, []), (2, [])] [(0, .int .u8 p0), (5, .bool (decide (p0 ≥ (97 : Int))))] H (noU_all rfl) (fun fr => by kernel_rfl) ?_
  intro fr H
  refine at_cut [(3, []), (4, []), (5, [])] (fun fr' h' => h = h' ∧ Has fr' 12 [(0, .int .u8 p0), (8, .bool ((decide (p0 ≥ (97 : Int))) && (decide (p0 ≤ (122 : Int)))))]) ?_ ?_
  · cases hb : (decide (p0 ≥ (97 : Int)) : Bool) with
    | true =>
      replace H := H.know 5 hb (by kernel_rfl)
      refine at_seg [(3, []), (4, []), (5, [])] [(0, .int .u8 p0), (8, .bool (decide (p0 ≤ (122 : Int))))] H (noU_all rfl) (fun fr => by kernel_rfl) ?_
      intro fr H
      exact at_nil ⟨rfl, by first | exact H.less _ (fun fr => by rfl) | exact H.less _ (fun fr => by rw [hb]; rfl)⟩
    | false =>
      replace H := H.know 5 hb (by kernel_rfl)
      refine at_seg [(3, []), (4, []), (5, [])] [(0, .int .u8 p0), (8, .bool false)] H (noU_all rfl) (fun fr => by kernel_rfl) ?_
      intro fr H
      exact at_nil ⟨rfl, by first | exact H.less _ (fun fr => by rfl) | exact H.less _ (fun fr => by rw [hb]; rfl)⟩
  · intro t fr h' hK
    obtain ⟨e, H⟩ := hK
    subst e
    refine at_nil ?_
    show AW cfg 72 (⟨h.size, []⟩ : Gd) (right (left (right (bodyC cfg.P 72)))) fr h _
    rcases iteB_some hm with ⟨hb, hm⟩ | ⟨hb, hm⟩
    · replace H := H.know 8 hb (by kernel_rfl)
      refine aw_true (x := .tmp 8) (by kernel_rfl) H (fun fr => by kernel_rfl) ?_
      refine aw_seq (by kernel_rfl) ?_
      refine aw_reg (id := 2) (n := 3) [(0, []), (1, []), (2, [])] (by kernel_rfl) (by kernel_rfl) ?_
      refine at_seg [(0, []), (1, []), (2, [])] [(2, .int .u8 (IntKind.u8.wrap (p0 - (32 : Int))))] H (noU_all rfl) (fun fr => by kernel_rfl) ?_
      intro fr H
      refine at_nil ?_
      show AW cfg 72 (⟨h.size, []⟩ : Gd) (right (left (right (left (right (bodyC cfg.P 72)))))) fr h _
      refine aw_ret (by kernel_rfl) ?_
      have e1 := Option.some.inj hm
      subst e1
      exact (doneE_of .ret H (fun fr => by kernel_rfl) (.inl rfl) : doneE cfg.P _ _ _ fr _)
    · replace H := H.know 8 hb (by kernel_rfl)
      refine aw_false (x := .tmp 8) (by kernel_rfl) H (fun fr => by kernel_rfl) ?_
      refine aw_skip (by kernel_rfl) ?_
      show AW cfg 72 (⟨h.size, []⟩ : Gd) (right (right (bodyC cfg.P 72))) fr h _
      refine aw_seq (by kernel_rfl) ?_
      refine aw_reg (id := 3) (n := 2) [(0, []), (1, [])] (by kernel_rfl) (by kernel_rfl) ?_
      refine at_seg [(0, []), (1, [])] [(2, .int .u8 p0)] H (noU_all rfl) (fun fr => by kernel_rfl) ?_
      intro fr H
      refine at_nil ?_
      show AW cfg 72 (⟨h.size, []⟩ : Gd) (right (right (right (bodyC cfg.P 72)))) fr h _
      refine aw_ret (by kernel_rfl) ?_
      have e1 := Option.some.inj hm
      subst e1
      exact (doneE_of .ret H (fun fr => by kernel_rfl) (.inl rfl) : doneE cfg.P _ _ _ fr _)
/-! ### boulter/boulterref23.small -/
noncomputable def M_boulterref23_small (h : AHeap) (p0 : Int) : Option (Int) :=
 iteB ((decide (p0 ≥ (65 : Int))) && (decide (p0 ≤ (90 : Int)))) (some (IntKind.u8.wrap (p0 + (32 : Int)))) (some p0)
theorem ok_boulterref23_small {g : Gd} {h : AHeap} {p0 : Int} {r0 : Int} (hm : M_boulterref23_small h p0 = some r0) : Runs cfg g h 73 [.int .u8 p0] (.int .u8 r0) h := by
  refine runs2E (by kernel_rfl) (by kernel_rfl) (body_ofE (n := 12) (rs := [.tmp 2]) (by kernel_rfl) ?_)
  unfold M_boulterref23_small at hm
  refine start (n := 12) [(0, .int .u8 p0)] (by kernel_rfl) (by kernel_rfl) ?_
  intro fr H
  refine aw_seq (by kernel_rfl) ?_
  refine aw_reg (id := 0) (n := 1) [(0, [])] (by kernel_rfl) (by kernel_rfl) ?_
  refine at_seg [(0, [])] [(0, .int .u8 p0)] H (noU_all rfl) (fun fr => by kernel_rfl) ?_
  intro fr H
  refine at_nil ?_
  show AW cfg 73 (⟨h.size, []⟩ : Gd) (right (bodyC cfg.P 73)) fr h _
  refine aw_seq (by kernel_rfl) ?_
  refine aw_seq (by kernel_rfl) ?_
  refine aw_reg (id := 1) (n := 6) [(0, []), (1, []), (2, []), (3, []), (4, []), (5, [])] (by kernel_rfl) (by kernel_rfl) ?_
  refine at_seg [(0, []), (1, []), (2, [])] [(0, .int .u8 p0), (5, .bool (decide (p0 ≥ (65 : Int))))] H (noU_all rfl) (fun fr => by kernel_rfl) ?_
  intro fr H
  refine at_cut [(3, []), (4, []), (5, [])] (fun fr' h' => h = h' ∧ Has fr' 12 [(0, .int .u8 p0), (8, .bool ((decide (p0 ≥ (65 : Int))) && (decide (p0 ≤ (90 : Int)))))]) ?_ ?_
  · cases hb : (decide (p0 ≥ (65 : Int)) : Bool) with
    | true =>
      replace H := H.know 5 hb (by kernel_rfl)
      refine at_seg [(3, []), (4, []), (5, [])] [(0, .int .u8 p0), (8, .bool (decide (p0 ≤ (90 : Int))))] H (noU_all rfl) (fun fr => by kernel_rfl) ?_
      intro fr H
      exact at_nil ⟨rfl, by first | exact H.less _ (fun fr => by rfl) | exact H.less _ (fun fr => by rw [hb]; rfl)⟩
    | false =>
      replace H := H.know 5 hb (by kernel_rfl)
      refine at_seg [(3, []), (4, []), (5, [])] [(0, .int .u8 p0), (8, .bool false)] H (noU_all rfl) (fun fr => by kernel_rfl) ?_
      intro fr H
      exact at_nil ⟨rfl, by first | exact H.less _ (fun fr => by rfl) | exact H.less _ (fun fr => by rw [hb]; rfl)⟩
  · intro t fr h' hK
    obtain ⟨e, H⟩ := hK
    subst e
    refine at_nil ?_
    show AW cfg 73 (⟨h.size, []⟩ : Gd) (right (left (right (bodyC cfg.P 73)))) fr h _
    rcases iteB_some hm with ⟨hb, hm⟩ | ⟨hb, hm⟩
    · replace H := H.know 8 hb (by kernel_rfl)
      refine aw_true (x := .tmp 8) (by kernel_rfl) H (fun fr => by kernel_rfl) ?_
      refine aw_seq (by kernel_rfl) ?_
      refine aw_reg (id := 2) (n := 3) [(0, []), (1, []), (2, [])] (by kernel_rfl) (by kernel_rfl) ?_
      refine at_seg [(0, []), (1, []), (2, [])] [(2, .int .u8 (IntKind.u8.wrap (p0 + (32 : Int))))] H (noU_all rfl) (fun fr => by kernel_rfl) ?_
      intro fr H
      refine at_nil ?_
      show AW cfg 73 (⟨h.size, []⟩ : Gd) (right (left (right (left (right (bodyC cfg.P 73)))))) fr h _
      refine aw_ret (by kernel_rfl) ?_
      have e1 := Option.some.inj hm
      subst e1
      exact (doneE_of .ret H (fun fr => by kernel_rfl) (.inl rfl) : doneE cfg.P _ _ _ fr _)
    · replace H := H.know 8 hb (by kernel_rfl)
      refine aw_false (x := .tmp 8) (by kernel_rfl) H (fun fr => by kernel_rfl) ?_
      refine aw_skip (by kernel_rfl) ?_
      show AW cfg 73 (⟨h.size, []⟩ : Gd) (right (right (bodyC cfg.P 73))) fr h _
      refine aw_seq (by kernel_rfl) ?_
      refine aw_reg (id := 3) (n := 2) [(0, []), (1, [])] (by kernel_rfl) (by kernel_rfl) ?_
      refine at_seg [(0, []), (1, [])] [(2, .int .u8 p0)] H (noU_all rfl) (fun fr => by kernel_rfl) ?_
      intro fr H
      refine at_nil ?_
      show AW cfg 73 (⟨h.size, []⟩ : Gd) (right (right (right (bodyC cfg.P 73)))) fr h _
      refine aw_ret (by kernel_rfl) ?_
      have e1 := Option.some.inj hm
      subst e1
      exact (doneE_of .ret H (fun fr => by kernel_rfl) (.inl rfl) : doneE cfg.P _ _ _ fr _)
/-! ### boulter/boulterref23.Expand -/
noncomputable def M_boulterref23_Expand_L1 (x11 : Int) (x15 : List UInt8) (s : (List UInt8) × Int × Int × AHeap) : Option (((List UInt8) × Int × Int × AHeap) ⊕ (((List UInt8) × Int × AHeap))) :=
  match s with
  | (x28, x29, x30, h2) => iteB (decide (x30 < (x15.length : Int))) ((ixS x15 x30).bind fun x31 => (iteB ((x29 == (5 : Int)) || ((x29 == (0 : Int)) && (x11 == (2 : Int)))) ((M_boulterref23_big h2 x31).bind fun x33 => some x33) (some x31) : Option ((Int))).bind fun x32 => (iteB ((x29 == (6 : Int)) || ((x29 == (0 : Int)) && (x11 == (3 : Int)))) ((M_boulterref23_small h2 x32).bind fun x35 => some x35) (some x32) : Option ((Int))).bind fun x34 => (some (h2.push (.cells (some 5) 2 [.int .u8 x34]))).bind fun h3 => (byL h3 (⟨some (h2.size, 0), 1⟩ : Sl)).bind fun x36 => need (decide (x28.length + x36.length ≤ 9223372036854775807)) <| some (.inl (x28 ++ x36, (0 : Int), IntKind.i64.wrap (x30 + (1 : Int)), h3))) (some (.inr (x28, x29, h2)))
noncomputable def M_boulterref23_Expand_L0 (p0 : Sl) (p1 : List UInt8) (p2 : Sl) (s : (List UInt8) × Int × Int × Int × AHeap) : Option (((List UInt8) × Int × Int × Int × AHeap) ⊕ (((List UInt8) × AHeap))) :=
  match s with
  | (x6, x7, x8, x9, h1) => iteB (decide (x9 < ((p0.n : Nat) : Int))) ((ixL p0 3 x9).bind fun a1 => (ldI h1 (a1.1, a1.2 + 0) .i64).bind fun x10 => (iteB ((decide (x10 ≥ (2 : Int))) && (decide (x10 ≤ (4 : Int)))) (some x10) (some x7) : Option ((Int))).bind fun x11 => (iteB ((x10 == (5 : Int)) || (x10 == (6 : Int))) (some x10) (some x8) : Option ((Int))).bind fun x12 => (iteB (x10 == (0 : Int)) ((ixL p0 3 x9).bind fun a2 => (ldS h1 (a2.1, a2.2 + 2)).bind fun x14 => some x14) (some ([] : List UInt8)) : Option (((List UInt8)))).bind fun x13 => ((iteB (x10 == (1 : Int)) ((ixL p0 3 x9).bind fun a3 => (ldI h1 (a3.1, a3.2 + 1) .i64).bind fun x17 => some (decide (x17 ≥ (0 : Int)))) (some false) : Option (Bool)).bind fun x16 => (iteB x16 ((ixL p0 3 x9).bind fun a4 => (ldI h1 (a4.1, a4.2 + 1) .i64).bind fun x19 => some (decide (x19 < ((p2.n : Nat) : Int)))) (some false) : Option (Bool)).bind fun x18 => iteB x18 ((ixL p0 3 x9).bind fun a5 => (ldI h1 (a5.1, a5.2 + 1) .i64).bind fun x20 => (ixL p2 3 x20).bind fun a6 => (ldA h1 (a6.1, a6.2) 3).bind fun x21 => (M_boulterref23_span h1 p1 x21).bind fun x22 => some x22) (some x13) : Option (((List UInt8)))).bind fun x15 => (loop (M_boulterref23_Expand_L1 x11 x15) (x6, x12, (0 : Int), h1)).bind fun (x26, x27, h4) => some (.inl (x26, x11, x27, IntKind.i64.wrap (x9 + (1 : Int)), h4))) (some (.inr (x6, h1)))
noncomputable def M_boulterref23_Expand (h : AHeap) (p0 : Sl) (p1 : List UInt8) (p2 : Sl) : Option ((List UInt8)) :=
 (loop (M_boulterref23_Expand_L0 p0 p1 p2) (([] : List UInt8), (4 : Int), (0 : Int), (0 : Int), h)).bind fun (x5, h5) => some x5
theorem ok_boulterref23_Expand {g : Gd} {h : AHeap} {p0 : Sl} {p1 : List UInt8} {p2 : Sl} {r0 : List UInt8} (hm : M_boulterref23_Expand h p0 p1 p2 = some r0) : Runs cfg g h 32 [.slice p0.r p0.n, .str p1, .slice p2.r p2.n] (.str r0) h := by
  refine runs2E (by kernel_rfl) (by kernel_rfl) (body_ofE (n := 116) (rs := [.tmp 6]) (by kernel_rfl) ?_)
  unfold M_boulterref23_Expand at hm
  refine start (n := 116) [(0, .slice p0.r p0.n), (1, .str p1), (2, .slice p2.r p2.n)] (by kernel_rfl) (by kernel_rfl) ?_
  intro fr H
  refine aw_seq (by kernel_rfl) ?_
  refine aw_reg (id := 0) (n := 1) [(0, [])] (by kernel_rfl) (by kernel_rfl) ?_
  refine at_seg [(0, [])] [(0, .slice p0.r p0.n), (1, .str p1), (2, .slice p2.r p2.n)] H (noU_all rfl) (fun fr => by kernel_rfl) ?_
  intro fr H
  refine at_nil ?_
  show AW cfg 32 (⟨h.size, []⟩ : Gd) (right (bodyC cfg.P 32)) fr h _
  refine aw_seq (by kernel_rfl) ?_
  refine aw_reg (id := 1) (n := 1) [(0, [])] (by kernel_rfl) (by kernel_rfl) ?_
  refine at_seg [(0, [])] [(0, .slice p0.r p0.n), (1, .str p1), (2, .slice p2.r p2.n), (7, .str ([] : List UInt8))] H (noU_all rfl) (fun fr => by kernel_rfl) ?_
  intro fr H
  refine at_nil ?_
  show AW cfg 32 (⟨h.size, []⟩ : Gd) (right (right (bodyC cfg.P 32))) fr h _
  refine aw_seq (by kernel_rfl) ?_
  refine aw_reg (id := 2) (n := 2) [(0, []), (1, [])] (by kernel_rfl) (by kernel_rfl) ?_
  refine at_seg [(0, []), (1, [])] [(0, .slice p0.r p0.n), (1, .str p1), (2, .slice p2.r p2.n), (7, .str ([] : List UInt8)), (8, .int .i64 (4 : Int)), (9, .int .i64 (0 : Int))] H (noU_all rfl) (fun fr => by kernel_rfl) ?_
  intro fr H
  refine at_nil ?_
  show AW cfg 32 (⟨h.size, []⟩ : Gd) (right (right (right (bodyC cfg.P 32)))) fr h _
  refine aw_seq (by kernel_rfl) ?_
  refine aw_seq (by kernel_rfl) ?_
  refine aw_reg (id := 3) (n := 1) [(0, [])] (by kernel_rfl) (by kernel_rfl) ?_
  refine at_seg [(0, [])] [(0, .slice p0.r p0.n), (1, .str p1), (2, .slice p2.r p2.n), (7, .str ([] : List UInt8)), (8, .int .i64 (4 : Int)), (9, .int .i64 (0 : Int)), (10, .int .i64 (0 : Int))] H (noU_all rfl) (fun fr => by kernel_rfl) ?_
  intro fr H
  refine at_nil ?_
  show AW cfg 32 (⟨h.size, []⟩ : Gd) (right (left (right (right (right (bodyC cfg.P 32)))))) fr h _
  refine aw_block (id := 0) (by kernel_rfl) ?_
  obtain ⟨o1, ho, hm⟩ := bind_some hm
  refine aw_mono (Q' := fun e fr' h' => (∃ (x5 : List UInt8), e = .exit 0 ∧ (x5, h') = o1 ∧ h' = h' ∧ Has fr' 116 [(7, .str x5)]) ∨ False) ?_ ?_
  · refine aw_loop (by kernel_rfl) (fun (s : (List UInt8) × Int × Int × Int × AHeap) fr' h' => ∃ (x6 : List UInt8) (x7 : Int) (x8 : Int) (x9 : Int), (x6, x7, x8, x9, h') = s ∧ h' = h' ∧ Has fr' 116 [(0, .slice p0.r p0.n), (1, .str p1), (2, .slice p2.r p2.n), (7, .str x6), (8, .int .i64 x7), (9, .int .i64 x8), (10, .int .i64 x9)]) ho ⟨([] : List UInt8), (4 : Int), (0 : Int), (0 : Int), rfl, rfl, H.less _ (fun fr => by kernel_rfl)⟩ ?_
    clear ho hm H
    intro s q fr h1 hI hm
    obtain ⟨x6, x7, x8, x9, rfl, _, H⟩ := hI
    unfold M_boulterref23_Expand_L0 at hm
    refine aw_seq (by kernel_rfl) ?_
    refine aw_seq (by kernel_rfl) ?_
    refine aw_reg (id := 4) (n := 4) [(0, []), (1, []), (2, []), (3, [])] (by kernel_rfl) (by kernel_rfl) ?_
    refine at_seg [(0, []), (1, []), (2, []), (3, [])] [(0, .slice p0.r p0.n), (1, .str p1), (2, .slice p2.r p2.n), (7, .str x6), (8, .int .i64 x7), (9, .int .i64 x8), (10, .int .i64 x9), (18, .bool (decide (x9 < ((p0.n : Nat) : Int))))] H (noU_all rfl) (fun fr => by kernel_rfl) ?_
    intro fr H
    refine at_nil ?_
    show AW cfg 32 (⟨h.size, []⟩ : Gd) (right (left (left (left (right (left (right (right (right (bodyC cfg.P 32)))))))))) fr h1 _
    rcases iteB_some hm with ⟨hb, hm⟩ | ⟨hb, hm⟩
    · replace H := H.know 18 hb (by kernel_rfl)
      refine aw_true (x := .tmp 18) (by kernel_rfl) H (fun fr => by kernel_rfl) ?_
      refine aw_skip (by kernel_rfl) ?_
      show AW cfg 32 (⟨h.size, []⟩ : Gd) (right (left (left (right (left (right (right (right (bodyC cfg.P 32))))))))) fr h1 _
      refine aw_seq (by kernel_rfl) ?_
      refine aw_block (id := 1) (by kernel_rfl) ?_
      refine aw_seq (by kernel_rfl) ?_
      refine aw_reg (id := 6) (n := 6) [(0, []), (1, []), (2, []), (3, []), (4, []), (5, [])] (by kernel_rfl) (by kernel_rfl) ?_
      refine at_seg [(0, []), (1, [])] [(0, .slice p0.r p0.n), (1, .str p1), (2, .slice p2.r p2.n), (7, .str x6), (8, .int .i64 x7), (9, .int .i64 x8), (10, .int .i64 x9), (21, .slice p0.r p0.n), (22, .int .i64 x9)] H (noU_all rfl) (fun fr => by kernel_rfl) ?_
      intro fr H
      obtain ⟨a1, hx, hm⟩ := bind_some hm
      refine at_step (v := .ptr (some a1)) (h1 := h1) [(0, .slice p0.r p0.n), (1, .str p1), (2, .slice p2.r p2.n), (7, .str x6), (8, .int .i64 x7), (9, .int .i64 x8), (10, .int .i64 x9), (23, .ptr (some (a1.1, a1.2)))] H (fun fr => by kernel_rfl) (fun fr => .of (s_ixL (s := p0) (by kernel_rfl) hx)) ?_
      intro fr t H
      refine at_seg [(3, [])] [(0, .slice p0.r p0.n), (1, .str p1), (2, .slice p2.r p2.n), (7, .str x6), (8, .int .i64 x7), (9, .int .i64 x8), (10, .int .i64 x9), (24, .ptr (some (a1.1, a1.2 + 0)))] H (noU_all rfl) (fun fr => by kernel_rfl) ?_
      intro fr H
      obtain ⟨x10, hx, hm⟩ := bind_some hm
      refine at_step (v := .int .i64 x10) (h1 := h1) [(0, .slice p0.r p0.n), (1, .str p1), (2, .slice p2.r p2.n), (7, .str x6), (8, .int .i64 x7), (9, .int .i64 x8), (10, .int .i64 x9), (25, .int .i64 x10)] H (fun fr => by kernel_rfl) (fun fr => .of (s_ld (by kernel_rfl) (ldI_eq hx))) ?_
      intro fr t H
      refine at_seg [(5, [])] [(0, .slice p0.r p0.n), (1, .str p1), (2, .slice p2.r p2.n), (7, .str x6), (8, .int .i64 x7), (9, .int .i64 x8), (10, .int .i64 x9), (11, .int .i64 x10)] H (noU_all rfl) (fun fr => by kernel_rfl) ?_
      intro fr H
      refine at_nil ?_
      show AW cfg 32 (⟨h.size, []⟩ : Gd) (right (left (left (right (left (left (right (left (right (right (right (bodyC cfg.P 32)))))))))))) fr h1 _
      refine aw_seq (by kernel_rfl) ?_
      obtain ⟨o2, ho, hm⟩ := bind_some hm
      refine aw_mono (Q' := fun e fr' h' => (∃ (x11 : Int), e = .normal ∧ x11 = o2 ∧ h1 = h' ∧ Has fr' 116 [(0, .slice p0.r p0.n), (1, .str p1), (2, .slice p2.r p2.n), (7, .str x6), (8, .int .i64 x11), (9, .int .i64 x8), (10, .int .i64 x9), (11, .int .i64 x10)]) ∨ False) ?_ ?_
      · replace hm := ho
        clear ho
        refine aw_seq (by kernel_rfl) ?_
        refine aw_reg (id := 7) (n := 6) [(0, []), (1, []), (2, []), (3, []), (4, []), (5, [])] (by kernel_rfl) (by kernel_rfl) ?_
        refine at_seg [(0, []), (1, []), (2, [])] [(0, .slice p0.r p0.n), (1, .str p1), (2, .slice p2.r p2.n), (7, .str x6), (8, .int .i64 x7), (9, .int .i64 x8), (10, .int .i64 x9), (11, .int .i64 x10), (28, .bool (decide (x10 ≥ (2 : Int))))] H (noU_all rfl) (fun fr => by kernel_rfl) ?_
        intro fr H
        refine at_cut [(3, []), (4, []), (5, [])] (fun fr' h' => h1 = h' ∧ Has fr' 116 [(0, .slice p0.r p0.n), (1, .str p1), (2, .slice p2.r p2.n), (7, .str x6), (8, .int .i64 x7), (9, .int .i64 x8), (10, .int .i64 x9), (11, .int .i64 x10), (31, .bool ((decide (x10 ≥ (2 : Int))) && (decide (x10 ≤ (4 : Int)))))]) ?_ ?_
        · cases hb : (decide (x10 ≥ (2 : Int)) : Bool) with
          | true =>
            replace H := H.know 28 hb (by kernel_rfl)
            refine at_seg [(3, []), (4, []), (5, [])] [(0, .slice p0.r p0.n), (1, .str p1), (2, .slice p2.r p2.n), (7, .str x6), (8, .int .i64 x7), (9, .int .i64 x8), (10, .int .i64 x9), (11, .int .i64 x10), (31, .bool (decide (x10 ≤ (4 : Int))))] H (noU_all rfl) (fun fr => by kernel_rfl) ?_
            intro fr H
            exact at_nil ⟨rfl, by first | exact H.less _ (fun fr => by rfl) | exact H.less _ (fun fr => by rw [hb]; rfl)⟩
          | false =>
            replace H := H.know 28 hb (by kernel_rfl)
            refine at_seg [(3, []), (4, []), (5, [])] [(0, .slice p0.r p0.n), (1, .str p1), (2, .slice p2.r p2.n), (7, .str x6), (8, .int .i64 x7), (9, .int .i64 x8), (10, .int .i64 x9), (11, .int .i64 x10), (31, .bool false)] H (noU_all rfl) (fun fr => by kernel_rfl) ?_
            intro fr H
            exact at_nil ⟨rfl, by first | exact H.less _ (fun fr => by rfl) | exact H.less _ (fun fr => by rw [hb]; rfl)⟩
        · intro t fr h' hK
          obtain ⟨e, H⟩ := hK
          subst e
          refine at_nil ?_
          show AW cfg 32 (⟨h.size, []⟩ : Gd) (right (left (right (left (left (right (left (left (right (left (right (right (right (bodyC cfg.P 32)))))))))))))) fr h1 _
          rcases iteB_some hm with ⟨hb, hm⟩ | ⟨hb, hm⟩
          · replace H := H.know 31 hb (by kernel_rfl)
            refine aw_true (x := .tmp 31) (by kernel_rfl) H (fun fr => by kernel_rfl) ?_
            refine aw_reg (id := 8) (n := 2) [(0, []), (1, [])] (by kernel_rfl) (by kernel_rfl) ?_
            refine at_seg [(0, []), (1, [])] [(0, .slice p0.r p0.n), (1, .str p1), (2, .slice p2.r p2.n), (7, .str x6), (8, .int .i64 x10), (9, .int .i64 x8), (10, .int .i64 x9), (11, .int .i64 x10)] H (noU_all rfl) (fun fr => by kernel_rfl) ?_
            intro fr H
            refine at_nil ?_
            exact Or.inl ⟨x10, rfl, Option.some.inj hm, rfl, H.less _ (fun fr => by kernel_rfl)⟩
          · replace H := H.know 31 hb (by kernel_rfl)
            refine aw_false (x := .tmp 31) (by kernel_rfl) H (fun fr => by kernel_rfl) ?_
            refine aw_skip (by kernel_rfl) ?_
            exact Or.inl ⟨x7, rfl, Option.some.inj hm, rfl, H.less _ (fun fr => by kernel_rfl)⟩
      · clear ho
        intro e fr hz hQ
        rcases hQ with ⟨x11, rfl, rfl, rfl, H⟩ | hF
        · skip
          show AW cfg 32 (⟨h.size, []⟩ : Gd) (right (right (left (left (right (left (left (right (left (right (right (right (bodyC cfg.P 32))))))))))))) fr h1 _
          refine aw_seq (by kernel_rfl) ?_
          obtain ⟨o3, ho, hm⟩ := bind_some hm
          refine aw_mono (Q' := fun e fr' h' => (∃ (x12 : Int), e = .normal ∧ x12 = o3 ∧ h1 = h' ∧ Has fr' 116 [(0, .slice p0.r p0.n), (1, .str p1), (2, .slice p2.r p2.n), (7, .str x6), (8, .int .i64 x11), (9, .int .i64 x12), (10, .int .i64 x9), (11, .int .i64 x10)]) ∨ False) ?_ ?_
          · replace hm := ho
            clear ho
            refine aw_seq (by kernel_rfl) ?_
            refine aw_reg (id := 9) (n := 6) [(0, []), (1, []), (2, []), (3, []), (4, []), (5, [])] (by kernel_rfl) (by kernel_rfl) ?_
            refine at_seg [(0, []), (1, []), (2, [])] [(0, .slice p0.r p0.n), (1, .str p1), (2, .slice p2.r p2.n), (7, .str x6), (8, .int .i64 x11), (9, .int .i64 x8), (10, .int .i64 x9), (11, .int .i64 x10), (35, .bool (x10 == (5 : Int)))] H (noU_all rfl) (fun fr => by kernel_rfl) ?_
            intro fr H
            refine at_cut [(3, []), (4, []), (5, [])] (fun fr' h' => h1 = h' ∧ Has fr' 116 [(0, .slice p0.r p0.n), (1, .str p1), (2, .slice p2.r p2.n), (7, .str x6), (8, .int .i64 x11), (9, .int .i64 x8), (10, .int .i64 x9), (11, .int .i64 x10), (38, .bool ((x10 == (5 : Int)) || (x10 == (6 : Int))))]) ?_ ?_
            · cases hb : (x10 == (5 : Int) : Bool) with
              | true =>
                replace H := H.know 35 hb (by kernel_rfl)
                refine at_seg [(3, []), (4, []), (5, [])] [(0, .slice p0.r p0.n), (1, .str p1), (2, .slice p2.r p2.n), (7, .str x6), (8, .int .i64 x11), (9, .int .i64 x8), (10, .int .i64 x9), (11, .int .i64 x10), (38, .bool true)] H (noU_all rfl) (fun fr => by kernel_rfl) ?_
                intro fr H
                exact at_nil ⟨rfl, by first | exact H.less _ (fun fr => by rfl) | exact H.less _ (fun fr => by rw [hb]; rfl)⟩
              | false =>
                replace H := H.know 35 hb (by kernel_rfl)
                refine at_seg [(3, []), (4, []), (5, [])] [(0, .slice p0.r p0.n), (1, .str p1), (2, .slice p2.r p2.n), (7, .str x6), (8, .int .i64 x11), (9, .int .i64 x8), (10, .int .i64 x9), (11, .int .i64 x10), (38, .bool (x10 == (6 : Int)))] H (noU_all rfl) (fun fr => by kernel_rfl) ?_
                intro fr H
                exact at_nil ⟨rfl, by first | exact H.less _ (fun fr => by rfl) | exact H.less _ (fun fr => by rw [hb]; rfl)⟩
            · intro t fr h' hK
              obtain ⟨e, H⟩ := hK
              subst e
              refine at_nil ?_
              show AW cfg 32 (⟨h.size, []⟩ : Gd) (right (left (right (right (left (left (right (left (left (right (left (right (right (right (bodyC cfg.P 32))))))))))))))) fr h1 _
              rcases iteB_some hm with ⟨hb, hm⟩ | ⟨hb, hm⟩
              · replace H := H.know 38 hb (by kernel_rfl)
                refine aw_true (x := .tmp 38) (by kernel_rfl) H (fun fr => by kernel_rfl) ?_
                refine aw_reg (id := 10) (n := 2) [(0, []), (1, [])] (by kernel_rfl) (by kernel_rfl) ?_
                refine at_seg [(0, []), (1, [])] [(0, .slice p0.r p0.n), (1, .str p1), (2, .slice p2.r p2.n), (7, .str x6), (8, .int .i64 x11), (9, .int .i64 x10), (10, .int .i64 x9), (11, .int .i64 x10)] H (noU_all rfl) (fun fr => by kernel_rfl) ?_
                intro fr H
                refine at_nil ?_
                exact Or.inl ⟨x10, rfl, Option.some.inj hm, rfl, H.less _ (fun fr => by kernel_rfl)⟩
              · replace H := H.know 38 hb (by kernel_rfl)
                refine aw_false (x := .tmp 38) (by kernel_rfl) H (fun fr => by kernel_rfl) ?_
                refine aw_skip (by kernel_rfl) ?_
                exact Or.inl ⟨x8, rfl, Option.some.inj hm, rfl, H.less _ (fun fr => by kernel_rfl)⟩
          · clear ho
            intro e fr hz hQ
            rcases hQ with ⟨x12, rfl, rfl, rfl, H⟩ | hF
            · skip
              show AW cfg 32 (⟨h.size, []⟩ : Gd) (right (right (right (left (left (right (left (left (right (left (right (right (right (bodyC cfg.P 32)))))))))))))) fr h1 _
              refine aw_seq (by kernel_rfl) ?_
              refine aw_reg (id := 11) (n := 1) [(0, [])] (by kernel_rfl) (by kernel_rfl) ?_
              refine at_seg [(0, [])] [(0, .slice p0.r p0.n), (1, .str p1), (2, .slice p2.r p2.n), (7, .str x6), (8, .int .i64 x11), (9, .int .i64 x12), (10, .int .i64 x9), (11, .int .i64 x10), (12, .str ([] : List UInt8))] H (noU_all rfl) (fun fr => by kernel_rfl) ?_
              intro fr H
              refine at_nil ?_
              show AW cfg 32 (⟨h.size, []⟩ : Gd) (right (right (right (right (left (left (right (left (left (right (left (right (right (right (bodyC cfg.P 32))))))))))))))) fr h1 _
              refine aw_seq (by kernel_rfl) ?_
              obtain ⟨o4, ho, hm⟩ := bind_some hm
              refine aw_mono (Q' := fun e fr' h' => (∃ (x13 : List UInt8), e = .normal ∧ x13 = o4 ∧ h1 = h' ∧ Has fr' 116 [(0, .slice p0.r p0.n), (1, .str p1), (2, .slice p2.r p2.n), (7, .str x6), (8, .int .i64 x11), (9, .int .i64 x12), (10, .int .i64 x9), (11, .int .i64 x10), (12, .str x13)]) ∨ False) ?_ ?_
              · replace hm := ho
                clear ho
                refine aw_seq (by kernel_rfl) ?_
                refine aw_reg (id := 12) (n := 2) [(0, []), (1, [])] (by kernel_rfl) (by kernel_rfl) ?_
                refine at_seg [(0, []), (1, [])] [(0, .slice p0.r p0.n), (1, .str p1), (2, .slice p2.r p2.n), (7, .str x6), (8, .int .i64 x11), (9, .int .i64 x12), (10, .int .i64 x9), (11, .int .i64 x10), (12, .str ([] : List UInt8)), (41, .bool (x10 == (0 : Int)))] H (noU_all rfl) (fun fr => by kernel_rfl) ?_
                intro fr H
                refine at_nil ?_
                show AW cfg 32 (⟨h.size, []⟩ : Gd) (right (left (right (right (right (right (left (left (right (left (left (right (left (right (right (right (bodyC cfg.P 32))))))))))))))))) fr h1 _
                rcases iteB_some hm with ⟨hb, hm⟩ | ⟨hb, hm⟩
                · replace H := H.know 41 hb (by kernel_rfl)
                  refine aw_true (x := .tmp 41) (by kernel_rfl) H (fun fr => by kernel_rfl) ?_
                  refine aw_reg (id := 13) (n := 6) [(0, []), (1, []), (2, []), (3, []), (4, []), (5, [])] (by kernel_rfl) (by kernel_rfl) ?_
                  refine at_seg [(0, []), (1, [])] [(0, .slice p0.r p0.n), (1, .str p1), (2, .slice p2.r p2.n), (7, .str x6), (8, .int .i64 x11), (9, .int .i64 x12), (10, .int .i64 x9), (11, .int .i64 x10), (42, .slice p0.r p0.n), (43, .int .i64 x9)] H (noU_all rfl) (fun fr => by kernel_rfl) ?_
                  intro fr H
                  obtain ⟨a2, hx, hm⟩ := bind_some hm
                  refine at_step (v := .ptr (some a2)) (h1 := h1) [(0, .slice p0.r p0.n), (1, .str p1), (2, .slice p2.r p2.n), (7, .str x6), (8, .int .i64 x11), (9, .int .i64 x12), (10, .int .i64 x9), (11, .int .i64 x10), (44, .ptr (some (a2.1, a2.2)))] H (fun fr => by kernel_rfl) (fun fr => .of (s_ixL (s := p0) (by kernel_rfl) hx)) ?_
                  intro fr t H
                  refine at_seg [(3, [])] [(0, .slice p0.r p0.n), (1, .str p1), (2, .slice p2.r p2.n), (7, .str x6), (8, .int .i64 x11), (9, .int .i64 x12), (10, .int .i64 x9), (11, .int .i64 x10), (45, .ptr (some (a2.1, a2.2 + 2)))] H (noU_all rfl) (fun fr => by kernel_rfl) ?_
                  intro fr H
                  obtain ⟨x14, hx, hm⟩ := bind_some hm
                  refine at_step (v := .str x14) (h1 := h1) [(0, .slice p0.r p0.n), (1, .str p1), (2, .slice p2.r p2.n), (7, .str x6), (8, .int .i64 x11), (9, .int .i64 x12), (10, .int .i64 x9), (11, .int .i64 x10), (46, .str x14)] H (fun fr => by kernel_rfl) (fun fr => .of (s_ld (by kernel_rfl) (ldS_eq hx))) ?_
                  intro fr t H
                  refine at_seg [(5, [])] [(0, .slice p0.r p0.n), (1, .str p1), (2, .slice p2.r p2.n), (7, .str x6), (8, .int .i64 x11), (9, .int .i64 x12), (10, .int .i64 x9), (11, .int .i64 x10), (12, .str x14)] H (noU_all rfl) (fun fr => by kernel_rfl) ?_
                  intro fr H
                  refine at_nil ?_
                  exact Or.inl ⟨x14, rfl, Option.some.inj hm, rfl, H.less _ (fun fr => by kernel_rfl)⟩
                · replace H := H.know 41 hb (by kernel_rfl)
                  refine aw_false (x := .tmp 41) (by kernel_rfl) H (fun fr => by kernel_rfl) ?_
                  refine aw_skip (by kernel_rfl) ?_
                  exact Or.inl ⟨([] : List UInt8), rfl, Option.some.inj hm, rfl, H.less _ (fun fr => by kernel_rfl)⟩
              · clear ho
                intro e fr hz hQ
                rcases hQ with ⟨x13, rfl, rfl, rfl, H⟩ | hF
                · skip
                  show AW cfg 32 (⟨h.size, []⟩ : Gd) (right (right (right (right (right (left (left (right (left (left (right (left (right (right (right (bodyC cfg.P 32)))))))))))))))) fr h1 _
                  refine aw_seq (by kernel_rfl) ?_
                  obtain ⟨o5, ho, hm⟩ := bind_some hm
                  refine aw_mono (Q' := fun e fr' h' => (∃ (x15 : List UInt8), e = .normal ∧ x15 = o5 ∧ h1 = h' ∧ Has fr' 116 [(0, .slice p0.r p0.n), (1, .str p1), (2, .slice p2.r p2.n), (7, .str x6), (8, .int .i64 x11), (9, .int .i64 x12), (10, .int .i64 x9), (12, .str x15)]) ∨ False) ?_ ?_
                  · replace hm := ho
                    clear ho
                    refine aw_seq (by kernel_rfl) ?_
                    refine aw_reg (id := 14) (n := 20) [(0, []), (1, []), (2, []), (3, []), (4, []), (5, []), (6, []), (7, []), (8, []), (9, []), (10, []), (11, []), (12, []), (13, []), (14, []), (15, []), (16, []), (17, []), (18, []), (19, [])] (by kernel_rfl) (by kernel_rfl) ?_
                    refine at_seg [(0, []), (1, []), (2, [])] [(0, .slice p0.r p0.n), (1, .str p1), (2, .slice p2.r p2.n), (7, .str x6), (8, .int .i64 x11), (9, .int .i64 x12), (10, .int .i64 x9), (12, .str x13), (49, .bool (x10 == (1 : Int)))] H (noU_all rfl) (fun fr => by kernel_rfl) ?_
                    intro fr H
                    obtain ⟨x16, ho, hm⟩ := bind_some hm
                    refine at_cut [(3, []), (4, []), (5, []), (6, []), (7, []), (8, []), (9, [])] (fun fr' h' => h1 = h' ∧ Has fr' 116 [(0, .slice p0.r p0.n), (1, .str p1), (2, .slice p2.r p2.n), (7, .str x6), (8, .int .i64 x11), (9, .int .i64 x12), (10, .int .i64 x9), (12, .str x13), (56, .bool x16)]) ?_ ?_
                    · rcases iteB_some ho with ⟨hb, hm⟩ | ⟨hb, hm⟩
                      · replace H := H.know 49 hb (by kernel_rfl)
                        refine at_seg [(3, []), (4, [])] [(0, .slice p0.r p0.n), (1, .str p1), (2, .slice p2.r p2.n), (7, .str x6), (8, .int .i64 x11), (9, .int .i64 x12), (10, .int .i64 x9), (12, .str x13), (49, .bool true), (50, .slice p0.r p0.n), (51, .int .i64 x9)] H (noU_all rfl) (fun fr => by kernel_rfl) ?_
                        intro fr H
                        obtain ⟨a3, hx, hm⟩ := bind_some hm
                        refine at_step (v := .ptr (some a3)) (h1 := h1) [(0, .slice p0.r p0.n), (1, .str p1), (2, .slice p2.r p2.n), (7, .str x6), (8, .int .i64 x11), (9, .int .i64 x12), (10, .int .i64 x9), (12, .str x13), (49, .bool true), (52, .ptr (some (a3.1, a3.2)))] H (fun fr => by kernel_rfl) (fun fr => .of (s_ixL (s := p0) (by kernel_rfl) hx)) ?_
                        intro fr t H
                        refine at_seg [(6, [])] [(0, .slice p0.r p0.n), (1, .str p1), (2, .slice p2.r p2.n), (7, .str x6), (8, .int .i64 x11), (9, .int .i64 x12), (10, .int .i64 x9), (12, .str x13), (49, .bool true), (53, .ptr (some (a3.1, a3.2 + 1)))] H (noU_all rfl) (fun fr => by kernel_rfl) ?_
                        intro fr H
                        obtain ⟨x17, hx, hm⟩ := bind_some hm
                        refine at_step (v := .int .i64 x17) (h1 := h1) [(0, .slice p0.r p0.n), (1, .str p1), (2, .slice p2.r p2.n), (7, .str x6), (8, .int .i64 x11), (9, .int .i64 x12), (10, .int .i64 x9), (12, .str x13), (49, .bool true), (54, .int .i64 x17)] H (fun fr => by kernel_rfl) (fun fr => .of (s_ld (by kernel_rfl) (ldI_eq hx))) ?_
                        intro fr t H
                        refine at_seg [(8, []), (9, [])] [(0, .slice p0.r p0.n), (1, .str p1), (2, .slice p2.r p2.n), (7, .str x6), (8, .int .i64 x11), (9, .int .i64 x12), (10, .int .i64 x9), (12, .str x13), (56, .bool (decide (x17 ≥ (0 : Int))))] H (noU_all rfl) (fun fr => by kernel_rfl) ?_
                        intro fr H
                        have e1 := Option.some.inj hm
                        subst e1
                        exact at_nil ⟨rfl, H.less _ (fun fr => by kernel_rfl)⟩
                      · replace H := H.know 49 hb (by kernel_rfl)
                        refine at_seg [(3, []), (4, []), (5, []), (6, []), (7, []), (8, []), (9, [])] [(0, .slice p0.r p0.n), (1, .str p1), (2, .slice p2.r p2.n), (7, .str x6), (8, .int .i64 x11), (9, .int .i64 x12), (10, .int .i64 x9), (12, .str x13), (56, .bool false)] H (noU_all rfl) (fun fr => by kernel_rfl) ?_
                        intro fr H
                        have e1 := Option.some.inj hm
                        subst e1
                        exact at_nil ⟨rfl, H.less _ (fun fr => by kernel_rfl)⟩
                    · intro t fr h' hK
                      obtain ⟨e, H⟩ := hK
                      subst e
                      refine at_seg [(10, [])] [(0, .slice p0.r p0.n), (1, .str p1), (2, .slice p2.r p2.n), (7, .str x6), (8, .int .i64 x11), (9, .int .i64 x12), (10, .int .i64 x9), (12, .str x13), (57, .bool x16)] H (noU_all rfl) (fun fr => by kernel_rfl) ?_
                      intro fr H
                      obtain ⟨x18, ho, hm⟩ := bind_some hm
                      refine at_cut [(11, []), (12, []), (13, []), (14, []), (15, []), (16, []), (17, []), (18, []), (19, [])] (fun fr' h' => h1 = h' ∧ Has fr' 116 [(0, .slice p0.r p0.n), (1, .str p1), (2, .slice p2.r p2.n), (7, .str x6), (8, .int .i64 x11), (9, .int .i64 x12), (10, .int .i64 x9), (12, .str x13), (66, .bool x18)]) ?_ ?_
                      · rcases iteB_some ho with ⟨hb, hm⟩ | ⟨hb, hm⟩
                        · replace H := H.know 57 hb (by kernel_rfl)
                          refine at_seg [(11, []), (12, [])] [(0, .slice p0.r p0.n), (1, .str p1), (2, .slice p2.r p2.n), (7, .str x6), (8, .int .i64 x11), (9, .int .i64 x12), (10, .int .i64 x9), (12, .str x13), (57, .bool true), (58, .slice p0.r p0.n), (59, .int .i64 x9)] H (noU_all rfl) (fun fr => by kernel_rfl) ?_
                          intro fr H
                          obtain ⟨a4, hx, hm⟩ := bind_some hm
                          refine at_step (v := .ptr (some a4)) (h1 := h1) [(0, .slice p0.r p0.n), (1, .str p1), (2, .slice p2.r p2.n), (7, .str x6), (8, .int .i64 x11), (9, .int .i64 x12), (10, .int .i64 x9), (12, .str x13), (57, .bool true), (60, .ptr (some (a4.1, a4.2)))] H (fun fr => by kernel_rfl) (fun fr => .of (s_ixL (s := p0) (by kernel_rfl) hx)) ?_
                          intro fr t H
                          refine at_seg [(14, [])] [(0, .slice p0.r p0.n), (1, .str p1), (2, .slice p2.r p2.n), (7, .str x6), (8, .int .i64 x11), (9, .int .i64 x12), (10, .int .i64 x9), (12, .str x13), (57, .bool true), (61, .ptr (some (a4.1, a4.2 + 1)))] H (noU_all rfl) (fun fr => by kernel_rfl) ?_
                          intro fr H
                          obtain ⟨x19, hx, hm⟩ := bind_some hm
                          refine at_step (v := .int .i64 x19) (h1 := h1) [(0, .slice p0.r p0.n), (1, .str p1), (2, .slice p2.r p2.n), (7, .str x6), (8, .int .i64 x11), (9, .int .i64 x12), (10, .int .i64 x9), (12, .str x13), (57, .bool true), (62, .int .i64 x19)] H (fun fr => by kernel_rfl) (fun fr => .of (s_ld (by kernel_rfl) (ldI_eq hx))) ?_
                          intro fr t H
                          refine at_seg [(16, []), (17, []), (18, []), (19, [])] [(0, .slice p0.r p0.n), (1, .str p1), (2, .slice p2.r p2.n), (7, .str x6), (8, .int .i64 x11), (9, .int .i64 x12), (10, .int .i64 x9), (12, .str x13), (66, .bool (decide (x19 < ((p2.n : Nat) : Int))))] H (noU_all rfl) (fun fr => by kernel_rfl) ?_
                          intro fr H
                          have e1 := Option.some.inj hm
                          subst e1
                          exact at_nil ⟨rfl, H.less _ (fun fr => by kernel_rfl)⟩
                        · replace H := H.know 57 hb (by kernel_rfl)
                          refine at_seg [(11, []), (12, []), (13, []), (14, []), (15, []), (16, []), (17, []), (18, []), (19, [])] [(0, .slice p0.r p0.n), (1, .str p1), (2, .slice p2.r p2.n), (7, .str x6), (8, .int .i64 x11), (9, .int .i64 x12), (10, .int .i64 x9), (12, .str x13), (66, .bool false)] H (noU_all rfl) (fun fr => by kernel_rfl) ?_
                          intro fr H
                          have e1 := Option.some.inj hm
                          subst e1
                          exact at_nil ⟨rfl, H.less _ (fun fr => by kernel_rfl)⟩
                      · intro t fr h' hK
                        obtain ⟨e, H⟩ := hK
                        subst e
                        refine at_nil ?_
                        show AW cfg 32 (⟨h.size, []⟩ : Gd) (right (left (right (right (right (right (right (left (left (right (left (left (right (left (right (right (right (bodyC cfg.P 32)))))))))))))))))) fr h1 _
                        rcases iteB_some hm with ⟨hb, hm⟩ | ⟨hb, hm⟩
                        · replace H := H.know 66 hb (by kernel_rfl)
                          refine aw_true (x := .tmp 66) (by kernel_rfl) H (fun fr => by kernel_rfl) ?_
                          refine aw_reg (id := 15) (n := 11) [(0, []), (1, []), (2, []), (3, []), (4, []), (5, []), (6, []), (7, []), (8, []), (9, []), (10, [])] (by kernel_rfl) (by kernel_rfl) ?_
                          refine at_seg [(0, []), (1, []), (2, []), (3, [])] [(0, .slice p0.r p0.n), (1, .str p1), (2, .slice p2.r p2.n), (7, .str x6), (8, .int .i64 x11), (9, .int .i64 x12), (10, .int .i64 x9), (67, .str p1), (68, .slice p2.r p2.n), (69, .slice p0.r p0.n), (70, .int .i64 x9)] H (noU_all rfl) (fun fr => by kernel_rfl) ?_
                          intro fr H
                          obtain ⟨a5, hx, hm⟩ := bind_some hm
                          refine at_step (v := .ptr (some a5)) (h1 := h1) [(0, .slice p0.r p0.n), (1, .str p1), (2, .slice p2.r p2.n), (7, .str x6), (8, .int .i64 x11), (9, .int .i64 x12), (10, .int .i64 x9), (67, .str p1), (68, .slice p2.r p2.n), (71, .ptr (some (a5.1, a5.2)))] H (fun fr => by kernel_rfl) (fun fr => .of (s_ixL (s := p0) (by kernel_rfl) hx)) ?_
                          intro fr t H
                          refine at_seg [(5, [])] [(0, .slice p0.r p0.n), (1, .str p1), (2, .slice p2.r p2.n), (7, .str x6), (8, .int .i64 x11), (9, .int .i64 x12), (10, .int .i64 x9), (67, .str p1), (68, .slice p2.r p2.n), (72, .ptr (some (a5.1, a5.2 + 1)))] H (noU_all rfl) (fun fr => by kernel_rfl) ?_
                          intro fr H
                          obtain ⟨x20, hx, hm⟩ := bind_some hm
                          refine at_step (v := .int .i64 x20) (h1 := h1) [(0, .slice p0.r p0.n), (1, .str p1), (2, .slice p2.r p2.n), (7, .str x6), (8, .int .i64 x11), (9, .int .i64 x12), (10, .int .i64 x9), (67, .str p1), (68, .slice p2.r p2.n), (73, .int .i64 x20)] H (fun fr => by kernel_rfl) (fun fr => .of (s_ld (by kernel_rfl) (ldI_eq hx))) ?_
                          intro fr t H
                          obtain ⟨a6, hx, hm⟩ := bind_some hm
                          refine at_step (v := .ptr (some a6)) (h1 := h1) [(0, .slice p0.r p0.n), (1, .str p1), (2, .slice p2.r p2.n), (7, .str x6), (8, .int .i64 x11), (9, .int .i64 x12), (10, .int .i64 x9), (67, .str p1), (74, .ptr (some (a6.1, a6.2)))] H (fun fr => by kernel_rfl) (fun fr => .of (s_ixL (s := p2) (by kernel_rfl) hx)) ?_
                          intro fr t H
                          obtain ⟨x21, hx, hm⟩ := bind_some hm
                          refine at_step (v := .agg x21) (h1 := h1) [(0, .slice p0.r p0.n), (1, .str p1), (2, .slice p2.r p2.n), (7, .str x6), (8, .int .i64 x11), (9, .int .i64 x12), (10, .int .i64 x9), (67, .str p1), (75, .agg x21)] H (fun fr => by kernel_rfl) (fun fr => .of (s_ldA (by kernel_rfl) hx)) ?_
                          intro fr t H
                          obtain ⟨x22, hx, hm⟩ := bind_some hm
                          refine at_step (v := .str x22) (h1 := h1) [(0, .slice p0.r p0.n), (1, .str p1), (2, .slice p2.r p2.n), (7, .str x6), (8, .int .i64 x11), (9, .int .i64 x12), (10, .int .i64 x9), (76, .str x22)] H (fun fr => by kernel_rfl) (fun fr => Steps.call (by kernel_rfl) (ok_boulterref23_span hx)) ?_
                          intro fr t H
                          refine at_seg [(10, [])] [(0, .slice p0.r p0.n), (1, .str p1), (2, .slice p2.r p2.n), (7, .str x6), (8, .int .i64 x11), (9, .int .i64 x12), (10, .int .i64 x9), (12, .str x22)] H (noU_all rfl) (fun fr => by kernel_rfl) ?_
                          intro fr H
                          refine at_nil ?_
                          exact Or.inl ⟨x22, rfl, Option.some.inj hm, rfl, H.less _ (fun fr => by kernel_rfl)⟩
                        · replace H := H.know 66 hb (by kernel_rfl)
                          refine aw_false (x := .tmp 66) (by kernel_rfl) H (fun fr => by kernel_rfl) ?_
                          refine aw_skip (by kernel_rfl) ?_
                          exact Or.inl ⟨x13, rfl, Option.some.inj hm, rfl, H.less _ (fun fr => by kernel_rfl)⟩
                  · clear ho
                    intro e fr hz hQ
                    rcases hQ with ⟨x15, rfl, rfl, rfl, H⟩ | hF
                    · skip
                      show AW cfg 32 (⟨h.size, []⟩ : Gd) (right (right (right (right (right (right (left (left (right (left (left (right (left (right (right (right (bodyC cfg.P 32))))))))))))))))) fr h1 _
                      refine aw_seq (by kernel_rfl) ?_
                      refine aw_reg (id := 16) (n := 1) [(0, [])] (by kernel_rfl) (by kernel_rfl) ?_
                      refine at_seg [(0, [])] [(0, .slice p0.r p0.n), (1, .str p1), (2, .slice p2.r p2.n), (7, .str x6), (8, .int .i64 x11), (9, .int .i64 x12), (10, .int .i64 x9), (12, .str x15), (13, .int .i64 (0 : Int))] H (noU_all rfl) (fun fr => by kernel_rfl) ?_
                      intro fr H
                      refine at_nil ?_
                      show AW cfg 32 (⟨h.size, []⟩ : Gd) (right (right (right (right (right (right (right (left (left (right (left (left (right (left (right (right (right (bodyC cfg.P 32)))))))))))))))))) fr h1 _
                      refine aw_block (id := 2) (by kernel_rfl) ?_
                      obtain ⟨o6, ho, hm⟩ := bind_some hm
                      refine aw_mono (Q' := fun e fr' h' => (∃ (x26 : List UInt8) (x27 : Int), e = .exit 2 ∧ (x26, x27, h') = o6 ∧ h' = h' ∧ Has fr' 116 [(0, .slice p0.r p0.n), (1, .str p1), (2, .slice p2.r p2.n), (7, .str x26), (8, .int .i64 x11), (9, .int .i64 x27), (10, .int .i64 x9)]) ∨ False) ?_ ?_
                      · refine aw_loop (by kernel_rfl) (fun (s : (List UInt8) × Int × Int × AHeap) fr' h' => ∃ (x28 : List UInt8) (x29 : Int) (x30 : Int), (x28, x29, x30, h') = s ∧ h' = h' ∧ Has fr' 116 [(0, .slice p0.r p0.n), (1, .str p1), (2, .slice p2.r p2.n), (7, .str x28), (8, .int .i64 x11), (9, .int .i64 x29), (10, .int .i64 x9), (12, .str x15), (13, .int .i64 x30)]) ho ⟨x6, x12, (0 : Int), rfl, rfl, H.less _ (fun fr => by kernel_rfl)⟩ ?_
                        clear ho hm H
                        intro s q fr h2 hI hm
                        obtain ⟨x28, x29, x30, rfl, _, H⟩ := hI
                        unfold M_boulterref23_Expand_L1 at hm
                        refine aw_seq (by kernel_rfl) ?_
                        refine aw_seq (by kernel_rfl) ?_
                        refine aw_reg (id := 17) (n := 4) [(0, []), (1, []), (2, []), (3, [])] (by kernel_rfl) (by kernel_rfl) ?_
                        refine at_seg [(0, []), (1, []), (2, []), (3, [])] [(0, .slice p0.r p0.n), (1, .str p1), (2, .slice p2.r p2.n), (7, .str x28), (8, .int .i64 x11), (9, .int .i64 x29), (10, .int .i64 x9), (12, .str x15), (13, .int .i64 x30), (80, .bool (decide (x30 < (x15.length : Int))))] H (noU_all rfl) (fun fr => by kernel_rfl) ?_
                        intro fr H
                        refine at_nil ?_
                        show AW cfg 32 (⟨h.size, []⟩ : Gd) (right (left (left (left (right (right (right (right (right (right (right (left (left (right (left (left (right (left (right (right (right (bodyC cfg.P 32)))))))))))))))))))))) fr h2 _
                        rcases iteB_some hm with ⟨hb, hm⟩ | ⟨hb, hm⟩
                        · replace H := H.know 80 hb (by kernel_rfl)
                          refine aw_true (x := .tmp 80) (by kernel_rfl) H (fun fr => by kernel_rfl) ?_
                          refine aw_skip (by kernel_rfl) ?_
                          show AW cfg 32 (⟨h.size, []⟩ : Gd) (right (left (left (right (right (right (right (right (right (right (left (left (right (left (left (right (left (right (right (right (bodyC cfg.P 32))))))))))))))))))))) fr h2 _
                          refine aw_seq (by kernel_rfl) ?_
                          refine aw_block (id := 3) (by kernel_rfl) ?_
                          refine aw_seq (by kernel_rfl) ?_
                          refine aw_reg (id := 19) (n := 4) [(0, []), (1, []), (2, []), (3, [])] (by kernel_rfl) (by kernel_rfl) ?_
                          refine at_seg [(0, []), (1, [])] [(0, .slice p0.r p0.n), (1, .str p1), (2, .slice p2.r p2.n), (7, .str x28), (8, .int .i64 x11), (9, .int .i64 x29), (10, .int .i64 x9), (12, .str x15), (13, .int .i64 x30), (83, .str x15), (84, .int .i64 x30)] H (noU_all rfl) (fun fr => by kernel_rfl) ?_
                          intro fr H
                          obtain ⟨x31, hx, hm⟩ := bind_some hm
                          refine at_step (v := .int .u8 x31) (h1 := h2) [(0, .slice p0.r p0.n), (1, .str p1), (2, .slice p2.r p2.n), (7, .str x28), (8, .int .i64 x11), (9, .int .i64 x29), (10, .int .i64 x9), (12, .str x15), (13, .int .i64 x30), (85, .int .u8 x31)] H (fun fr => by kernel_rfl) (fun fr => .of (s_ixS (by kernel_rfl) hx)) ?_
                          intro fr t H
                          refine at_seg [(3, [])] [(0, .slice p0.r p0.n), (1, .str p1), (2, .slice p2.r p2.n), (7, .str x28), (8, .int .i64 x11), (9, .int .i64 x29), (10, .int .i64 x9), (12, .str x15), (13, .int .i64 x30), (14, .int .u8 x31)] H (noU_all rfl) (fun fr => by kernel_rfl) ?_
                          intro fr H
                          refine at_nil ?_
                          show AW cfg 32 (⟨h.size, []⟩ : Gd) (right (left (left (right (left (left (right (right (right (right (right (right (right (left (left (right (left (left (right (left (right (right (right (bodyC cfg.P 32)))))))))))))))))))))))) fr h2 _
                          refine aw_seq (by kernel_rfl) ?_
                          obtain ⟨o7, ho, hm⟩ := bind_some hm
                          refine aw_mono (Q' := fun e fr' h' => (∃ (x32 : Int), e = .normal ∧ x32 = o7 ∧ h2 = h' ∧ Has fr' 116 [(0, .slice p0.r p0.n), (1, .str p1), (2, .slice p2.r p2.n), (7, .str x28), (8, .int .i64 x11), (9, .int .i64 x29), (10, .int .i64 x9), (12, .str x15), (13, .int .i64 x30), (14, .int .u8 x32)]) ∨ False) ?_ ?_
                          · replace hm := ho
                            clear ho
                            refine aw_seq (by kernel_rfl) ?_
                            refine aw_reg (id := 20) (n := 10) [(0, []), (1, []), (2, []), (3, []), (4, []), (5, []), (6, []), (7, []), (8, []), (9, [])] (by kernel_rfl) (by kernel_rfl) ?_
                            refine at_seg [(0, []), (1, []), (2, [])] [(0, .slice p0.r p0.n), (1, .str p1), (2, .slice p2.r p2.n), (7, .str x28), (8, .int .i64 x11), (9, .int .i64 x29), (10, .int .i64 x9), (12, .str x15), (13, .int .i64 x30), (14, .int .u8 x31), (88, .bool (x29 == (5 : Int)))] H (noU_all rfl) (fun fr => by kernel_rfl) ?_
                            intro fr H
                            refine at_cut [(3, []), (4, []), (5, []), (6, []), (7, []), (8, []), (9, [])] (fun fr' h' => h2 = h' ∧ Has fr' 116 [(0, .slice p0.r p0.n), (1, .str p1), (2, .slice p2.r p2.n), (7, .str x28), (8, .int .i64 x11), (9, .int .i64 x29), (10, .int .i64 x9), (12, .str x15), (13, .int .i64 x30), (14, .int .u8 x31), (95, .bool ((x29 == (5 : Int)) || ((x29 == (0 : Int)) && (x11 == (2 : Int)))))]) ?_ ?_
                            · cases hb : (x29 == (5 : Int) : Bool) with
                              | true =>
                                replace H := H.know 88 hb (by kernel_rfl)
                                refine at_seg [(3, []), (4, []), (5, []), (6, []), (7, []), (8, []), (9, [])] [(0, .slice p0.r p0.n), (1, .str p1), (2, .slice p2.r p2.n), (7, .str x28), (8, .int .i64 x11), (9, .int .i64 x29), (10, .int .i64 x9), (12, .str x15), (13, .int .i64 x30), (14, .int .u8 x31), (95, .bool true)] H (noU_all rfl) (fun fr => by kernel_rfl) ?_
                                intro fr H
                                exact at_nil ⟨rfl, by first | exact H.less _ (fun fr => by rfl) | exact H.less _ (fun fr => by rw [hb]; rfl)⟩
                              | false =>
                                replace H := H.know 88 hb (by kernel_rfl)
                                refine at_seg [(3, []), (4, []), (5, [])] [(0, .slice p0.r p0.n), (1, .str p1), (2, .slice p2.r p2.n), (7, .str x28), (8, .int .i64 x11), (9, .int .i64 x29), (10, .int .i64 x9), (12, .str x15), (13, .int .i64 x30), (14, .int .u8 x31), (88, .bool false), (91, .bool (x29 == (0 : Int)))] H (noU_all rfl) (fun fr => by kernel_rfl) ?_
                                intro fr H
                                refine at_cut [(6, []), (7, []), (8, [])] (fun fr' h' => h2 = h' ∧ Has fr' 116 [(0, .slice p0.r p0.n), (1, .str p1), (2, .slice p2.r p2.n), (7, .str x28), (8, .int .i64 x11), (9, .int .i64 x29), (10, .int .i64 x9), (12, .str x15), (13, .int .i64 x30), (14, .int .u8 x31), (88, .bool false), (94, .bool ((x29 == (0 : Int)) && (x11 == (2 : Int))))]) ?_ ?_
                                · cases hb : (x29 == (0 : Int) : Bool) with
                                  | true =>
                                    replace H := H.know 91 hb (by kernel_rfl)
                                    refine at_seg [(6, []), (7, []), (8, [])] [(0, .slice p0.r p0.n), (1, .str p1), (2, .slice p2.r p2.n), (7, .str x28), (8, .int .i64 x11), (9, .int .i64 x29), (10, .int .i64 x9), (12, .str x15), (13, .int .i64 x30), (14, .int .u8 x31), (88, .bool false), (94, .bool (x11 == (2 : Int)))] H (noU_all rfl) (fun fr => by kernel_rfl) ?_
                                    intro fr H
                                    exact at_nil ⟨rfl, by first | exact H.less _ (fun fr => by rfl) | exact H.less _ (fun fr => by rw [hb]; rfl)⟩
                                  | false =>
                                    replace H := H.know 91 hb (by kernel_rfl)
                                    refine at_seg [(6, []), (7, []), (8, [])] [(0, .slice p0.r p0.n), (1, .str p1), (2, .slice p2.r p2.n), (7, .str x28), (8, .int .i64 x11), (9, .int .i64 x29), (10, .int .i64 x9), (12, .str x15), (13, .int .i64 x30), (14, .int .u8 x31), (88, .bool false), (94, .bool false)] H (noU_all rfl) (fun fr => by kernel_rfl) ?_
                                    intro fr H
                                    exact at_nil ⟨rfl, by first | exact H.less _ (fun fr => by rfl) | exact H.less _ (fun fr => by rw [hb]; rfl)⟩
                                · intro t fr h' hK
                                  obtain ⟨e, H⟩ := hK
                                  subst e
                                  refine at_seg [(9, [])] [(0, .slice p0.r p0.n), (1, .str p1), (2, .slice p2.r p2.n), (7, .str x28), (8, .int .i64 x11), (9, .int .i64 x29), (10, .int .i64 x9), (12, .str x15), (13, .int .i64 x30), (14, .int .u8 x31), (95, .bool ((x29 == (0 : Int)) && (x11 == (2 : Int))))] H (noU_all rfl) (fun fr => by kernel_rfl) ?_
                                  intro fr H
                                  exact at_nil ⟨rfl, by first | exact H.less _ (fun fr => by rfl) | exact H.less _ (fun fr => by rw [hb]; rfl)⟩
                            · intro t fr h' hK
                              obtain ⟨e, H⟩ := hK
                              subst e
                              refine at_nil ?_
                              show AW cfg 32 (⟨h.size, []⟩ : Gd) (right (left (right (left (left (right (left (left (right (right (right (right (right (right (right (left (left (right (left (left (right (left (right (right (right (bodyC cfg.P 32)))))))))))))))))))))))))) fr h2 _
                              rcases iteB_some hm with ⟨hb, hm⟩ | ⟨hb, hm⟩
                              · replace H := H.know 95 hb (by kernel_rfl)
                                refine aw_true (x := .tmp 95) (by kernel_rfl) H (fun fr => by kernel_rfl) ?_
                                refine aw_reg (id := 21) (n := 3) [(0, []), (1, []), (2, [])] (by kernel_rfl) (by kernel_rfl) ?_
                                refine at_seg [(0, [])] [(0, .slice p0.r p0.n), (1, .str p1), (2, .slice p2.r p2.n), (7, .str x28), (8, .int .i64 x11), (9, .int .i64 x29), (10, .int .i64 x9), (12, .str x15), (13, .int .i64 x30), (96, .int .u8 x31)] H (noU_all rfl) (fun fr => by kernel_rfl) ?_
                                intro fr H
                                obtain ⟨x33, hx, hm⟩ := bind_some hm
                                refine at_step (v := .int .u8 x33) (h1 := h2) [(0, .slice p0.r p0.n), (1, .str p1), (2, .slice p2.r p2.n), (7, .str x28), (8, .int .i64 x11), (9, .int .i64 x29), (10, .int .i64 x9), (12, .str x15), (13, .int .i64 x30), (97, .int .u8 x33)] H (fun fr => by kernel_rfl) (fun fr => Steps.call (by kernel_rfl) (ok_boulterref23_big hx)) ?_
                                intro fr t H
                                refine at_seg [(2, [])] [(0, .slice p0.r p0.n), (1, .str p1), (2, .slice p2.r p2.n), (7, .str x28), (8, .int .i64 x11), (9, .int .i64 x29), (10, .int .i64 x9), (12, .str x15), (13, .int .i64 x30), (14, .int .u8 x33)] H (noU_all rfl) (fun fr => by kernel_rfl) ?_
                                intro fr H
                                refine at_nil ?_
                                exact Or.inl ⟨x33, rfl, Option.some.inj hm, rfl, H.less _ (fun fr => by kernel_rfl)⟩
                              · replace H := H.know 95 hb (by kernel_rfl)
                                refine aw_false (x := .tmp 95) (by kernel_rfl) H (fun fr => by kernel_rfl) ?_
                                refine aw_skip (by kernel_rfl) ?_
                                exact Or.inl ⟨x31, rfl, Option.some.inj hm, rfl, H.less _ (fun fr => by kernel_rfl)⟩
                          · clear ho
                            intro e fr hz hQ
                            rcases hQ with ⟨x32, rfl, rfl, rfl, H⟩ | hF
                            · skip
                              show AW cfg 32 (⟨h.size, []⟩ : Gd) (right (right (left (left (right (left (left (right (right (right (right (right (right (right (left (left (right (left (left (right (left (right (right (right (bodyC cfg.P 32))))))))))))))))))))))))) fr h2 _
                              refine aw_seq (by kernel_rfl) ?_
                              obtain ⟨o8, ho, hm⟩ := bind_some hm
                              refine aw_mono (Q' := fun e fr' h' => (∃ (x34 : Int), e = .normal ∧ x34 = o8 ∧ h2 = h' ∧ Has fr' 116 [(0, .slice p0.r p0.n), (1, .str p1), (2, .slice p2.r p2.n), (7, .str x28), (8, .int .i64 x11), (10, .int .i64 x9), (12, .str x15), (13, .int .i64 x30), (14, .int .u8 x34)]) ∨ False) ?_ ?_
                              · replace hm := ho
                                clear ho
                                refine aw_seq (by kernel_rfl) ?_
                                refine aw_reg (id := 22) (n := 10) [(0, []), (1, []), (2, []), (3, []), (4, []), (5, []), (6, []), (7, []), (8, []), (9, [])] (by kernel_rfl) (by kernel_rfl) ?_
                                refine at_seg [(0, []), (1, []), (2, [])] [(0, .slice p0.r p0.n), (1, .str p1), (2, .slice p2.r p2.n), (7, .str x28), (8, .int .i64 x11), (9, .int .i64 x29), (10, .int .i64 x9), (12, .str x15), (13, .int .i64 x30), (14, .int .u8 x32), (100, .bool (x29 == (6 : Int)))] H (noU_all rfl) (fun fr => by kernel_rfl) ?_
                                intro fr H
                                refine at_cut [(3, []), (4, []), (5, []), (6, []), (7, []), (8, []), (9, [])] (fun fr' h' => h2 = h' ∧ Has fr' 116 [(0, .slice p0.r p0.n), (1, .str p1), (2, .slice p2.r p2.n), (7, .str x28), (8, .int .i64 x11), (10, .int .i64 x9), (12, .str x15), (13, .int .i64 x30), (14, .int .u8 x32), (107, .bool ((x29 == (6 : Int)) || ((x29 == (0 : Int)) && (x11 == (3 : Int)))))]) ?_ ?_
                                · cases hb : (x29 == (6 : Int) : Bool) with
                                  | true =>
                                    replace H := H.know 100 hb (by kernel_rfl)
                                    refine at_seg [(3, []), (4, []), (5, []), (6, []), (7, []), (8, []), (9, [])] [(0, .slice p0.r p0.n), (1, .str p1), (2, .slice p2.r p2.n), (7, .str x28), (8, .int .i64 x11), (10, .int .i64 x9), (12, .str x15), (13, .int .i64 x30), (14, .int .u8 x32), (107, .bool true)] H (noU_all rfl) (fun fr => by kernel_rfl) ?_
                                    intro fr H
                                    exact at_nil ⟨rfl, by first | exact H.less _ (fun fr => by rfl) | exact H.less _ (fun fr => by rw [hb]; rfl)⟩
                                  | false =>
                                    replace H := H.know 100 hb (by kernel_rfl)
                                    refine at_seg [(3, []), (4, []), (5, [])] [(0, .slice p0.r p0.n), (1, .str p1), (2, .slice p2.r p2.n), (7, .str x28), (8, .int .i64 x11), (10, .int .i64 x9), (12, .str x15), (13, .int .i64 x30), (14, .int .u8 x32), (100, .bool false), (103, .bool (x29 == (0 : Int)))] H (noU_all rfl) (fun fr => by kernel_rfl) ?_
                                    intro fr H
                                    refine at_cut [(6, []), (7, []), (8, [])] (fun fr' h' => h2 = h' ∧ Has fr' 116 [(0, .slice p0.r p0.n), (1, .str p1), (2, .slice p2.r p2.n), (7, .str x28), (8, .int .i64 x11), (10, .int .i64 x9), (12, .str x15), (13, .int .i64 x30), (14, .int .u8 x32), (100, .bool false), (106, .bool ((x29 == (0 : Int)) && (x11 == (3 : Int))))]) ?_ ?_
                                    · cases hb : (x29 == (0 : Int) : Bool) with
                                      | true =>
                                        replace H := H.know 103 hb (by kernel_rfl)
                                        refine at_seg [(6, []), (7, []), (8, [])] [(0, .slice p0.r p0.n), (1, .str p1), (2, .slice p2.r p2.n), (7, .str x28), (8, .int .i64 x11), (10, .int .i64 x9), (12, .str x15), (13, .int .i64 x30), (14, .int .u8 x32), (100, .bool false), (106, .bool (x11 == (3 : Int)))] H (noU_all rfl) (fun fr => by kernel_rfl) ?_
                                        intro fr H
                                        exact at_nil ⟨rfl, by first | exact H.less _ (fun fr => by rfl) | exact H.less _ (fun fr => by rw [hb]; rfl)⟩
                                      | false =>
                                        replace H := H.know 103 hb (by kernel_rfl)
                                        refine at_seg [(6, []), (7, []), (8, [])] [(0, .slice p0.r p0.n), (1, .str p1), (2, .slice p2.r p2.n), (7, .str x28), (8, .int .i64 x11), (10, .int .i64 x9), (12, .str x15), (13, .int .i64 x30), (14, .int .u8 x32), (100, .bool false), (106, .bool false)] H (noU_all rfl) (fun fr => by kernel_rfl) ?_
                                        intro fr H
                                        exact at_nil ⟨rfl, by first | exact H.less _ (fun fr => by rfl) | exact H.less _ (fun fr => by rw [hb]; rfl)⟩
                                    · intro t fr h' hK
                                      obtain ⟨e, H⟩ := hK
                                      subst e
                                      refine at_seg [(9, [])] [(0, .slice p0.r p0.n), (1, .str p1), (2, .slice p2.r p2.n), (7, .str x28), (8, .int .i64 x11), (10, .int .i64 x9), (12, .str x15), (13, .int .i64 x30), (14, .int .u8 x32), (107, .bool ((x29 == (0 : Int)) && (x11 == (3 : Int))))] H (noU_all rfl) (fun fr => by kernel_rfl) ?_
                                      intro fr H
                                      exact at_nil ⟨rfl, by first | exact H.less _ (fun fr => by rfl) | exact H.less _ (fun fr => by rw [hb]; rfl)⟩
                                · intro t fr h' hK
                                  obtain ⟨e, H⟩ := hK
                                  subst e
                                  refine at_nil ?_
                                  show AW cfg 32 (⟨h.size, []⟩ : Gd) (right (left (right (right (left (left (right (left (left (right (right (right (right (right (right (right (left (left (right (left (left (right (left (right (right (right (bodyC cfg.P 32))))))))))))))))))))))))))) fr h2 _
                                  rcases iteB_some hm with ⟨hb, hm⟩ | ⟨hb, hm⟩
                                  · replace H := H.know 107 hb (by kernel_rfl)
                                    refine aw_true (x := .tmp 107) (by kernel_rfl) H (fun fr => by kernel_rfl) ?_
                                    refine aw_reg (id := 23) (n := 3) [(0, []), (1, []), (2, [])] (by kernel_rfl) (by kernel_rfl) ?_
                                    refine at_seg [(0, [])] [(0, .slice p0.r p0.n), (1, .str p1), (2, .slice p2.r p2.n), (7, .str x28), (8, .int .i64 x11), (10, .int .i64 x9), (12, .str x15), (13, .int .i64 x30), (108, .int .u8 x32)] H (noU_all rfl) (fun fr => by kernel_rfl) ?_
                                    intro fr H
                                    obtain ⟨x35, hx, hm⟩ := bind_some hm
                                    refine at_step (v := .int .u8 x35) (h1 := h2) [(0, .slice p0.r p0.n), (1, .str p1), (2, .slice p2.r p2.n), (7, .str x28), (8, .int .i64 x11), (10, .int .i64 x9), (12, .str x15), (13, .int .i64 x30), (109, .int .u8 x35)] H (fun fr => by kernel_rfl) (fun fr => Steps.call (by kernel_rfl) (ok_boulterref23_small hx)) ?_
                                    intro fr t H
                                    refine at_seg [(2, [])] [(0, .slice p0.r p0.n), (1, .str p1), (2, .slice p2.r p2.n), (7, .str x28), (8, .int .i64 x11), (10, .int .i64 x9), (12, .str x15), (13, .int .i64 x30), (14, .int .u8 x35)] H (noU_all rfl) (fun fr => by kernel_rfl) ?_
                                    intro fr H
                                    refine at_nil ?_
                                    exact Or.inl ⟨x35, rfl, Option.some.inj hm, rfl, H.less _ (fun fr => by kernel_rfl)⟩
                                  · replace H := H.know 107 hb (by kernel_rfl)
                                    refine aw_false (x := .tmp 107) (by kernel_rfl) H (fun fr => by kernel_rfl) ?_
                                    refine aw_skip (by kernel_rfl) ?_
                                    exact Or.inl ⟨x32, rfl, Option.some.inj hm, rfl, H.less _ (fun fr => by kernel_rfl)⟩
                              · clear ho
                                intro e fr hz hQ
                                rcases hQ with ⟨x34, rfl, rfl, rfl, H⟩ | hF
                                · skip
                                  show AW cfg 32 (⟨h.size, []⟩ : Gd) (right (right (right (left (left (right (left (left (right (right (right (right (right (right (right (left (left (right (left (left (right (left (right (right (right (bodyC cfg.P 32)))))))))))))))))))))))))) fr h2 _
                                  refine aw_seq (by kernel_rfl) ?_
                                  refine aw_reg (id := 24) (n := 1) [(0, [])] (by kernel_rfl) (by kernel_rfl) ?_
                                  refine at_seg [(0, [])] [(0, .slice p0.r p0.n), (1, .str p1), (2, .slice p2.r p2.n), (7, .str x28), (8, .int .i64 x11), (9, .int .i64 (0 : Int)), (10, .int .i64 x9), (12, .str x15), (13, .int .i64 x30), (14, .int .u8 x34)] H (noU_all rfl) (fun fr => by kernel_rfl) ?_
                                  intro fr H
                                  refine at_nil ?_
                                  show AW cfg 32 (⟨h.size, []⟩ : Gd) (right (right (right (right (left (left (right (left (left (right (right (right (right (right (right (right (left (left (right (left (left (right (left (right (right (right (bodyC cfg.P 32))))))))))))))))))))))))))) fr h2 _
                                  refine aw_reg (id := 25) (n := 6) [(0, []), (1, []), (2, []), (3, []), (4, []), (5, [])] (by kernel_rfl) (by kernel_rfl) ?_
                                  refine at_seg [(0, []), (1, [])] [(0, .slice p0.r p0.n), (1, .str p1), (2, .slice p2.r p2.n), (8, .int .i64 x11), (9, .int .i64 (0 : Int)), (10, .int .i64 x9), (12, .str x15), (13, .int .i64 x30), (110, .str x28), (111, .int .u8 x34)] H (noU_all rfl) (fun fr => by kernel_rfl) ?_
                                  intro fr H
                                  obtain ⟨h3, hx, hm⟩ := bind_some hm
                                  refine at_step (v := .slice (some (h2.size, 0)) 1) (h1 := h3) [(0, .slice p0.r p0.n), (1, .str p1), (2, .slice p2.r p2.n), (8, .int .i64 x11), (9, .int .i64 (0 : Int)), (10, .int .i64 x9), (12, .str x15), (13, .int .i64 x30), (110, .str x28), (112, .slice (some (h2.size, 0)) 1)] H (fun fr => by kernel_rfl) (fun fr => .of (s_n' (by kernel_rfl) hx)) ?_
                                  intro fr t H
                                  obtain ⟨x36, hx, hm⟩ := bind_some hm
                                  refine at_step (v := .str x36) (h1 := h3) [(0, .slice p0.r p0.n), (1, .str p1), (2, .slice p2.r p2.n), (8, .int .i64 x11), (9, .int .i64 (0 : Int)), (10, .int .i64 x9), (12, .str x15), (13, .int .i64 x30), (110, .str x28), (113, .str x36)] H (fun fr => by kernel_rfl) (fun fr => .of (s_byL (s := (⟨some (h2.size, 0), 1⟩ : Sl)) (by kernel_rfl) hx)) ?_
                                  intro fr t H
                                  obtain ⟨hb, hm⟩ := need_some hm
                                  refine at_step (v := .str (x28 ++ x36)) (h1 := h3) [(0, .slice p0.r p0.n), (1, .str p1), (2, .slice p2.r p2.n), (8, .int .i64 x11), (9, .int .i64 (0 : Int)), (10, .int .i64 x9), (12, .str x15), (13, .int .i64 x30), (114, .str (x28 ++ x36))] H (fun fr => by kernel_rfl) (fun fr => .of (s_cat (by kernel_rfl) hb)) ?_
                                  intro fr t H
                                  refine at_seg [(5, [])] [(0, .slice p0.r p0.n), (1, .str p1), (2, .slice p2.r p2.n), (7, .str (x28 ++ x36)), (8, .int .i64 x11), (9, .int .i64 (0 : Int)), (10, .int .i64 x9), (12, .str x15), (13, .int .i64 x30)] H (noU_all rfl) (fun fr => by kernel_rfl) ?_
                                  intro fr H
                                  refine at_nil ?_
                                  show AW cfg 32 (⟨h.size, []⟩ : Gd) (right (right (left (left (right (right (right (right (right (right (right (left (left (right (left (left (right (left (right (right (right (bodyC cfg.P 32)))))))))))))))))))))) fr h3 _
                                  refine aw_reg (id := 18) (n := 3) [(0, []), (1, []), (2, [])] (by kernel_rfl) (by kernel_rfl) ?_
                                  refine at_seg [(0, []), (1, []), (2, [])] [(0, .slice p0.r p0.n), (1, .str p1), (2, .slice p2.r p2.n), (7, .str (x28 ++ x36)), (8, .int .i64 x11), (9, .int .i64 (0 : Int)), (10, .int .i64 x9), (12, .str x15), (13, .int .i64 (IntKind.i64.wrap (x30 + (1 : Int))))] H (noU_all rfl) (fun fr => by kernel_rfl) ?_
                                  intro fr H
                                  refine at_nil ?_
                                  exact Exists.intro (x28 ++ x36, (0 : Int), IntKind.i64.wrap (x30 + (1 : Int)), h3) (And.intro (Option.some.inj hm).symm ⟨x28 ++ x36, (0 : Int), IntKind.i64.wrap (x30 + (1 : Int)), rfl, rfl, H.less _ (fun fr => by kernel_rfl)⟩)
                                · exact hF.elim
                            · exact hF.elim
                        · replace H := H.know 80 hb (by kernel_rfl)
                          refine aw_false (x := .tmp 80) (by kernel_rfl) H (fun fr => by kernel_rfl) ?_
                          refine aw_exit (i := 2) (by kernel_rfl) ?_
                          exact Exists.intro _ (And.intro (Option.some.inj hm).symm (fun e => Or.inl ⟨x28, x29, rfl, e, rfl, H.less _ (fun fr => by kernel_rfl)⟩))
                      · clear ho
                        intro e fr h4 hQ
                        rcases hQ with ⟨x26, x27, rfl, rfl, _, H⟩ | hF
                        · skip
                          show AW cfg 32 (⟨h.size, []⟩ : Gd) (right (right (left (left (right (left (right (right (right (bodyC cfg.P 32)))))))))) fr h4 _
                          refine aw_reg (id := 5) (n := 3) [(0, []), (1, []), (2, [])] (by kernel_rfl) (by kernel_rfl) ?_
                          refine at_seg [(0, []), (1, []), (2, [])] [(0, .slice p0.r p0.n), (1, .str p1), (2, .slice p2.r p2.n), (7, .str x26), (8, .int .i64 x11), (9, .int .i64 x27), (10, .int .i64 (IntKind.i64.wrap (x9 + (1 : Int))))] H (noU_all rfl) (fun fr => by kernel_rfl) ?_
                          intro fr H
                          refine at_nil ?_
                          exact Exists.intro (x26, x11, x27, IntKind.i64.wrap (x9 + (1 : Int)), h4) (And.intro (Option.some.inj hm).symm ⟨x26, x11, x27, IntKind.i64.wrap (x9 + (1 : Int)), rfl, rfl, H.less _ (fun fr => by kernel_rfl)⟩)
                        · exact hF.elim
                    · exact hF.elim
                · exact hF.elim
            · exact hF.elim
        · exact hF.elim
    · replace H := H.know 18 hb (by kernel_rfl)
      refine aw_false (x := .tmp 18) (by kernel_rfl) H (fun fr => by kernel_rfl) ?_
      refine aw_exit (i := 0) (by kernel_rfl) ?_
      exact Exists.intro _ (And.intro (Option.some.inj hm).symm (fun e => Or.inl ⟨x6, rfl, e, rfl, H.less _ (fun fr => by kernel_rfl)⟩))
  · clear ho
    intro e fr h5 hQ
    rcases hQ with ⟨x5, rfl, rfl, _, H⟩ | hF
    · skip
      show AW cfg 32 (⟨h.size, []⟩ : Gd) (right (right (right (right (bodyC cfg.P 32))))) fr h5 _
      refine aw_seq (by kernel_rfl) ?_
      refine aw_reg (id := 26) (n := 2) [(0, []), (1, [])] (by kernel_rfl) (by kernel_rfl) ?_
      refine at_seg [(0, []), (1, [])] [(6, .str x5)] H (noU_all rfl) (fun fr => by kernel_rfl) ?_
      intro fr H
      refine at_nil ?_
      show AW cfg 32 (⟨h.size, []⟩ : Gd) (right (right (right (right (right (bodyC cfg.P 32)))))) fr h5 _
      refine aw_ret (by kernel_rfl) ?_
      have e1 := Option.some.inj hm
      subst e1
      exact (doneE_of .ret H (fun fr => by kernel_rfl) (.inl rfl) : doneE cfg.P _ _ _ fr _)
    · exact hF.elim
/-! ### boulter/boulterref23.text -/
noncomputable def M_boulterref23_text (g : Gd) (h : AHeap) (p0 : Sl) (p1 : List UInt8) : Option ((Sl) × AHeap) :=
 (iteB (decide (((p0.n : Nat) : Int) > (0 : Int))) ((ixL p0 3 (IntKind.i64.wrap (((p0.n : Nat) : Int) - (1 : Int)))).bind fun a1 => (ldI h (a1.1, a1.2 + 0) .i64).bind fun x2 => some (x2 == (0 : Int))) (some false) : Option (Bool)).bind fun x1 => iteB x1 ((ixL p0 3 (IntKind.i64.wrap (((p0.n : Nat) : Int) - (1 : Int)))).bind fun a2 => (ldS h (a2.1, a2.2 + 2)).bind fun x3 => need (decide (x3.length + p1.length ≤ 9223372036854775807)) <| (ixL p0 3 (IntKind.i64.wrap (((p0.n : Nat) : Int) - (1 : Int)))).bind fun a3 => (st g h (a3.1, a3.2 + 2) [.str (x3 ++ p1)]).bind fun h1 => some (p0, h1)) ((some (h.push (.cells (some 51) 2 [.int .i64 (0 : Int), .int .i64 (0 : Int), .str p1]))).bind fun h2 => (app 51 3 32 g h2 p0 1 (.slice (some (h.size, 0)) 1)).bind fun (x4, h3) => some (x4, h3))
theorem ok_boulterref23_text {g : Gd} {h h' : AHeap} {p0 : Sl} {p1 : List UInt8} {r0 : Sl} (hm : M_boulterref23_text g h p0 p1 = some (r0, h')) : Runs cfg g h 81 [.slice p0.r p0.n, .str p1] (.slice r0.r r0.n) h' := by
  refine runs1 (by kernel_rfl) (body_of (n := 35) (rs := [.tmp 4]) (by kernel_rfl) ?_)
  unfold M_boulterref23_text at hm
  refine start (n := 35) [(0, .slice p0.r p0.n), (1, .str p1)] (by kernel_rfl) (by kernel_rfl) ?_
  intro fr H
  refine aw_seq (by kernel_rfl) ?_
  refine aw_reg (id := 0) (n := 1) [(0, [])] (by kernel_rfl) (by kernel_rfl) ?_
  refine at_seg [(0, [])] [(0, .slice p0.r p0.n), (1, .str p1)] H (noU_all rfl) (fun fr => by kernel_rfl) ?_
  intro fr H
  refine at_nil ?_
  show AW cfg 81 g (right (bodyC cfg.P 81)) fr h _
  refine aw_seq (by kernel_rfl) ?_
  refine aw_seq (by kernel_rfl) ?_
  refine aw_reg (id := 1) (n := 13) [(0, []), (1, []), (2, []), (3, []), (4, []), (5, []), (6, []), (7, []), (8, []), (9, []), (10, []), (11, []), (12, [])] (by kernel_rfl) (by kernel_rfl) ?_
  refine at_seg [(0, []), (1, []), (2, []), (3, [])] [(0, .slice p0.r p0.n), (1, .str p1), (8, .bool (decide (((p0.n : Nat) : Int) > (0 : Int))))] H (noU_all rfl) (fun fr => by kernel_rfl) ?_
  intro fr H
  obtain ⟨x1, ho, hm⟩ := bind_some hm
  refine at_cut [(4, []), (5, []), (6, []), (7, []), (8, []), (9, []), (10, []), (11, []), (12, [])] (fun fr' h' => h = h' ∧ Has fr' 35 [(0, .slice p0.r p0.n), (1, .str p1), (17, .bool x1)]) ?_ ?_
  · rcases iteB_some ho with ⟨hb, hm⟩ | ⟨hb, hm⟩
    · replace H := H.know 8 hb (by kernel_rfl)
      refine at_seg [(4, []), (5, []), (6, []), (7, [])] [(0, .slice p0.r p0.n), (1, .str p1), (8, .bool true), (9, .slice p0.r p0.n), (12, .int .i64 (IntKind.i64.wrap (((p0.n : Nat) : Int) - (1 : Int))))] H (noU_all rfl) (fun fr => by kernel_rfl) ?_
      intro fr H
      obtain ⟨a1, hx, hm⟩ := bind_some hm
      refine at_step (v := .ptr (some a1)) (h1 := h) [(0, .slice p0.r p0.n), (1, .str p1), (8, .bool true), (13, .ptr (some (a1.1, a1.2)))] H (fun fr => by kernel_rfl) (fun fr => .of (s_ixL (s := p0) (by kernel_rfl) hx)) ?_
      intro fr t H
      refine at_seg [(9, [])] [(0, .slice p0.r p0.n), (1, .str p1), (8, .bool true), (14, .ptr (some (a1.1, a1.2 + 0)))] H (noU_all rfl) (fun fr => by kernel_rfl) ?_
      intro fr H
      obtain ⟨x2, hx, hm⟩ := bind_some hm
      refine at_step (v := .int .i64 x2) (h1 := h) [(0, .slice p0.r p0.n), (1, .str p1), (8, .bool true), (15, .int .i64 x2)] H (fun fr => by kernel_rfl) (fun fr => .of (s_ld (by kernel_rfl) (ldI_eq hx))) ?_
      intro fr t H
      refine at_seg [(11, []), (12, [])] [(0, .slice p0.r p0.n), (1, .str p1), (17, .bool (x2 == (0 : Int)))] H (noU_all rfl) (fun fr => by kernel_rfl) ?_
      intro fr H
      have e1 := Option.some.inj hm
      subst e1
      exact at_nil ⟨rfl, H.less _ (fun fr => by kernel_rfl)⟩
    · replace H := H.know 8 hb (by kernel_rfl)
      refine at_seg [(4, []), (5, []), (6, []), (7, []), (8, []), (9, []), (10, []), (11, []), (12, [])] [(0, .slice p0.r p0.n), (1, .str p1), (17, .bool false)] H (noU_all rfl) (fun fr => by kernel_rfl) ?_
      intro fr H
      have e1 := Option.some.inj hm
      subst e1
      exact at_nil ⟨rfl, H.less _ (fun fr => by kernel_rfl)⟩
  · intro t fr h' hK
    obtain ⟨e, H⟩ := hK
    subst e
    refine at_nil ?_
    show AW cfg 81 g (right (left (right (bodyC cfg.P 81)))) fr h _
    rcases iteB_some hm with ⟨hb, hm⟩ | ⟨hb, hm⟩
    · replace H := H.know 17 hb (by kernel_rfl)
      refine aw_true (x := .tmp 17) (by kernel_rfl) H (fun fr => by kernel_rfl) ?_
      refine aw_seq (by kernel_rfl) ?_
      refine aw_reg (id := 2) (n := 12) [(0, []), (1, []), (2, []), (3, []), (4, []), (5, []), (6, []), (7, []), (8, []), (9, []), (10, []), (11, [])] (by kernel_rfl) (by kernel_rfl) ?_
      refine at_seg [(0, []), (1, []), (2, []), (3, [])] [(0, .slice p0.r p0.n), (1, .str p1), (18, .slice p0.r p0.n), (21, .int .i64 (IntKind.i64.wrap (((p0.n : Nat) : Int) - (1 : Int))))] H (noU_all rfl) (fun fr => by kernel_rfl) ?_
      intro fr H
      obtain ⟨a2, hx, hm⟩ := bind_some hm
      refine at_step (v := .ptr (some a2)) (h1 := h) [(0, .slice p0.r p0.n), (1, .str p1), (18, .slice p0.r p0.n), (21, .int .i64 (IntKind.i64.wrap (((p0.n : Nat) : Int) - (1 : Int)))), (22, .ptr (some (a2.1, a2.2)))] H (fun fr => by kernel_rfl) (fun fr => .of (s_ixL (s := p0) (by kernel_rfl) hx)) ?_
      intro fr t H
      refine at_seg [(5, [])] [(0, .slice p0.r p0.n), (1, .str p1), (18, .slice p0.r p0.n), (21, .int .i64 (IntKind.i64.wrap (((p0.n : Nat) : Int) - (1 : Int)))), (23, .ptr (some (a2.1, a2.2 + 2)))] H (noU_all rfl) (fun fr => by kernel_rfl) ?_
      intro fr H
      obtain ⟨x3, hx, hm⟩ := bind_some hm
      refine at_step (v := .str x3) (h1 := h) [(0, .slice p0.r p0.n), (1, .str p1), (18, .slice p0.r p0.n), (21, .int .i64 (IntKind.i64.wrap (((p0.n : Nat) : Int) - (1 : Int)))), (24, .str x3)] H (fun fr => by kernel_rfl) (fun fr => .of (s_ld (by kernel_rfl) (ldS_eq hx))) ?_
      intro fr t H
      refine at_seg [(7, [])] [(0, .slice p0.r p0.n), (18, .slice p0.r p0.n), (21, .int .i64 (IntKind.i64.wrap (((p0.n : Nat) : Int) - (1 : Int)))), (24, .str x3), (25, .str p1)] H (noU_all rfl) (fun fr => by kernel_rfl) ?_
      intro fr H
      obtain ⟨hb, hm⟩ := need_some hm
      refine at_step (v := .str (x3 ++ p1)) (h1 := h) [(0, .slice p0.r p0.n), (18, .slice p0.r p0.n), (21, .int .i64 (IntKind.i64.wrap (((p0.n : Nat) : Int) - (1 : Int)))), (26, .str (x3 ++ p1))] H (fun fr => by kernel_rfl) (fun fr => .of (s_cat (by kernel_rfl) hb)) ?_
      intro fr t H
      obtain ⟨a3, hx, hm⟩ := bind_some hm
      refine at_step (v := .ptr (some a3)) (h1 := h) [(0, .slice p0.r p0.n), (26, .str (x3 ++ p1)), (27, .ptr (some (a3.1, a3.2)))] H (fun fr => by kernel_rfl) (fun fr => .of (s_ixL (s := p0) (by kernel_rfl) hx)) ?_
      intro fr t H
      refine at_seg [(10, [])] [(0, .slice p0.r p0.n), (26, .str (x3 ++ p1)), (28, .ptr (some (a3.1, a3.2 + 2)))] H (noU_all rfl) (fun fr => by kernel_rfl) ?_
      intro fr H
      obtain ⟨h1, hx, hm⟩ := bind_some hm
      refine at_step (v := .tuple []) (h1 := h1) [(0, .slice p0.r p0.n)] H (fun fr => by kernel_rfl) (fun fr => .of (s_st (by kernel_rfl) rfl hx)) ?_
      intro fr t H
      refine at_nil ?_
      show AW cfg 81 g (right (left (right (left (right (bodyC cfg.P 81)))))) fr h1 _
      refine aw_seq (by kernel_rfl) ?_
      refine aw_reg (id := 3) (n := 2) [(0, []), (1, [])] (by kernel_rfl) (by kernel_rfl) ?_
      refine at_seg [(0, []), (1, [])] [(4, .slice p0.r p0.n)] H (noU_all rfl) (fun fr => by kernel_rfl) ?_
      intro fr H
      refine at_nil ?_
      show AW cfg 81 g (right (right (left (right (left (right (bodyC cfg.P 81))))))) fr h1 _
      refine aw_ret (by kernel_rfl) ?_
      obtain ⟨e1, e2⟩ := inj2 hm
      subst e2
      subst e1
      exact (done_ret H (fun fr => by kernel_rfl) rfl : doneQ cfg.P _ _ _ _ fr _)
    · replace H := H.know 17 hb (by kernel_rfl)
      refine aw_false (x := .tmp 17) (by kernel_rfl) H (fun fr => by kernel_rfl) ?_
      refine aw_skip (by kernel_rfl) ?_
      show AW cfg 81 g (right (right (bodyC cfg.P 81))) fr h _
      refine aw_seq (by kernel_rfl) ?_
      refine aw_reg (id := 4) (n := 6) [(0, []), (1, []), (2, []), (3, []), (4, []), (5, [])] (by kernel_rfl) (by kernel_rfl) ?_
      refine at_seg [(0, []), (1, []), (2, [])] [(30, .slice p0.r p0.n), (32, .agg [.int .i64 (0 : Int), .int .i64 (0 : Int), .str p1])] H (noU_all rfl) (fun fr => by kernel_rfl) ?_
      intro fr H
      obtain ⟨h2, hx, hm⟩ := bind_some hm
      refine at_step (v := .slice (some (h.size, 0)) 1) (h1 := h2) [(30, .slice p0.r p0.n), (33, .slice (some (h.size, 0)) 1)] H (fun fr => by kernel_rfl) (fun fr => .of (s_n' (by kernel_rfl) hx)) ?_
      intro fr t H
      obtain ⟨⟨x4, h3⟩, hx, hm⟩ := bind_some hm
      refine at_step (v := .slice x4.r x4.n) (h1 := h3) [(34, .slice x4.r x4.n)] H (fun fr => by kernel_rfl) (fun fr => .of (s_app (s := p0) (by kernel_rfl) hx)) ?_
      intro fr t H
      refine at_seg [(5, [])] [(4, .slice x4.r x4.n)] H (noU_all rfl) (fun fr => by kernel_rfl) ?_
      intro fr H
      refine at_nil ?_
      show AW cfg 81 g (right (right (right (bodyC cfg.P 81)))) fr h3 _
      refine aw_ret (by kernel_rfl) ?_
      obtain ⟨e1, e2⟩ := inj2 hm
      subst e2
      subst e1
      exact (done_ret H (fun fr => by kernel_rfl) rfl : doneQ cfg.P _ _ _ _ fr _)
/-! ### boulter/boulterref23.Parse -/
noncomputable def M_boulterref23_Parse_L0 (g : Gd) (p0 : List UInt8) (s : Sl × Int × AHeap) : Option ((Sl × Int × AHeap) ⊕ ((Sl × AHeap) ⊕ (Sl × Int × Int × AHeap))) :=
  match s with
  | (x7, x8, h2) => iteB (decide (x8 < (p0.length : Int))) ((ixS p0 x8).bind fun x9 => iteB (x9 == (38 : Int)) ((some (h2.push (.cells (some 51) 2 [.int .i64 (1 : Int), .int .i64 (0 : Int), .str ([] : List UInt8)]))).bind fun h3 => (app 51 3 32 g h3 x7 1 (.slice (some (h2.size, 0)) 1)).bind fun (x10, h4) => some (.inl (x10, IntKind.i64.wrap (x8 + (1 : Int)), h4))) ((ixS p0 x8).bind fun x11 => iteB (x11 != (92 : Int)) ((subS p0 (some x8) (some (IntKind.i64.wrap (x8 + (1 : Int))))).bind fun x12 => (M_boulterref23_text g h2 x7 x12).bind fun (x13, h5) => some (.inl (x13, IntKind.i64.wrap (x8 + (1 : Int)), h5))) (iteB (decide ((IntKind.i64.wrap (x8 + (1 : Int))) ≥ (p0.length : Int))) (some (.inr (.inr ((⟨none, 0⟩ : Sl), x8, (11 : Int), h2)))) ((ixS p0 (IntKind.i64.wrap (x8 + (1 : Int)))).bind fun x14 => (iteB ((decide (x14 ≥ (49 : Int))) && (decide (x14 ≤ (57 : Int)))) ((some (h2.push (.cells (some 51) 2 [.int .i64 (1 : Int), .int .i64 (IntKind.i64.wrap ((IntKind.i64.wrap x14) - (48 : Int))), .str ([] : List UInt8)]))).bind fun h6 => (app 51 3 32 g h6 x7 1 (.slice (some (h2.size, 0)) 1)).bind fun (x19, h7) => some (.inl (x19, h7))) (iteB (x14 == (85 : Int)) ((some (h2.push (.cells (some 51) 2 [.int .i64 (2 : Int), .int .i64 (0 : Int), .str ([] : List UInt8)]))).bind fun h8 => (app 51 3 32 g h8 x7 1 (.slice (some (h2.size, 0)) 1)).bind fun (x20, h9) => some (.inl (x20, h9))) (iteB (x14 == (76 : Int)) ((some (h2.push (.cells (some 51) 2 [.int .i64 (3 : Int), .int .i64 (0 : Int), .str ([] : List UInt8)]))).bind fun h10 => (app 51 3 32 g h10 x7 1 (.slice (some (h2.size, 0)) 1)).bind fun (x21, h11) => some (.inl (x21, h11))) (iteB (x14 == (69 : Int)) ((some (h2.push (.cells (some 51) 2 [.int .i64 (4 : Int), .int .i64 (0 : Int), .str ([] : List UInt8)]))).bind fun h12 => (app 51 3 32 g h12 x7 1 (.slice (some (h2.size, 0)) 1)).bind fun (x22, h13) => some (.inl (x22, h13))) (iteB (x14 == (117 : Int)) ((some (h2.push (.cells (some 51) 2 [.int .i64 (5 : Int), .int .i64 (0 : Int), .str ([] : List UInt8)]))).bind fun h14 => (app 51 3 32 g h14 x7 1 (.slice (some (h2.size, 0)) 1)).bind fun (x23, h15) => some (.inl (x23, h15))) (iteB (x14 == (108 : Int)) ((some (h2.push (.cells (some 51) 2 [.int .i64 (6 : Int), .int .i64 (0 : Int), .str ([] : List UInt8)]))).bind fun h16 => (app 51 3 32 g h16 x7 1 (.slice (some (h2.size, 0)) 1)).bind fun (x24, h17) => some (.inl (x24, h17))) (iteB (((x14 == (38 : Int)) || (x14 == (92 : Int))) || (x14 == (47 : Int))) ((subS p0 (some (IntKind.i64.wrap (x8 + (1 : Int)))) (some (IntKind.i64.wrap (x8 + (2 : Int))))).bind fun x25 => (M_boulterref23_text g h2 x7 x25).bind fun (x26, h18) => some (.inl (x26, h18))) (some (.inr ((⟨none, 0⟩ : Sl), x8, (11 : Int), h2))))))))) : Option ((Sl × AHeap) ⊕ (Sl × Int × Int × AHeap))).bind fun o2 => (match o2 with | .inl (x15, h19) => some (.inl (x15, IntKind.i64.wrap (x8 + (2 : Int)), h19)) | .inr (x16, x17, x18, h19) => some (.inr (.inr (x16, x17, x18, h19)))))))) (some (.inr (.inl (x7, h2))))
noncomputable def M_boulterref23_Parse (g : Gd) (h : AHeap) (p0 : List UInt8) : Option ((Sl × Int × Int) × AHeap) :=
 iteB (decide ((p0.length : Int) > (8192 : Int))) (some (((⟨none, 0⟩ : Sl), (0 : Int), (12 : Int)), h)) ((some (h.push (.cells (some 51) 2 []))).bind fun h1 => (loop (M_boulterref23_Parse_L0 g p0) ((⟨some (h.size, 0), 0⟩ : Sl), (0 : Int), h1)).bind fun o1 => (match o1 with | .inl (x3, h20) => some ((x3, (0 : Int), (0 : Int)), h20) | .inr (x4, x5, x6, h20) => some ((x4, x5, x6), h20)))
theorem ok_boulterref23_Parse {g : Gd} {h h' : AHeap} {p0 : List UInt8} {r0 : Sl} {r1 : Int} {r2 : Int} (hm : M_boulterref23_Parse g h p0 = some ((r0, r1, r2), h')) : Runs cfg g h 43 [.str p0] (.tuple [.slice r0.r r0.n, .int .i64 r1, .int .i64 r2]) h' := by
  refine runs1 (by kernel_rfl) (body_of (n := 114) (rs := [.tmp 2, .tmp 3, .tmp 4]) (by kernel_rfl) ?_)
  unfold M_boulterref23_Parse at hm
  refine start (n := 114) [(0, .str p0)] (by kernel_rfl) (by kernel_rfl) ?_
  intro fr H
  refine aw_seq (by kernel_rfl) ?_
  refine aw_reg (id := 0) (n := 3) [(0, []), (1, []), (2, [])] (by kernel_rfl) (by kernel_rfl) ?_
  refine at_seg [(0, []), (1, []), (2, [])] [(0, .str p0)] H (noU_all rfl) (fun fr => by kernel_rfl) ?_
  intro fr H
  refine at_nil ?_
  show AW cfg 43 g (right (bodyC cfg.P 43)) fr h _
  refine aw_seq (by kernel_rfl) ?_
  refine aw_seq (by kernel_rfl) ?_
  refine aw_reg (id := 1) (n := 3) [(0, []), (1, []), (2, [])] (by kernel_rfl) (by kernel_rfl) ?_
  refine at_seg [(0, []), (1, []), (2, [])] [(0, .str p0), (10, .bool (decide ((p0.length : Int) > (8192 : Int))))] H (noU_all rfl) (fun fr => by kernel_rfl) ?_
  intro fr H
  refine at_nil ?_
  show AW cfg 43 g (right (left (right (bodyC cfg.P 43)))) fr h _
  rcases iteB_some hm with ⟨hb, hm⟩ | ⟨hb, hm⟩
  · replace H := H.know 10 hb (by kernel_rfl)
    refine aw_true (x := .tmp 10) (by kernel_rfl) H (fun fr => by kernel_rfl) ?_
    refine aw_seq (by kernel_rfl) ?_
    refine aw_reg (id := 2) (n := 3) [(0, []), (1, []), (2, [])] (by kernel_rfl) (by kernel_rfl) ?_
    refine at_seg [(0, []), (1, []), (2, [])] [(2, .slice none 0), (3, .int .i64 (0 : Int)), (4, .int .i64 (12 : Int))] H (noU_all rfl) (fun fr => by kernel_rfl) ?_
    intro fr H
    refine at_nil ?_
    show AW cfg 43 g (right (left (right (left (right (bodyC cfg.P 43)))))) fr h _
    refine aw_ret (by kernel_rfl) ?_
    obtain ⟨e1, e2⟩ := inj2 hm
    subst e2
    obtain ⟨u0, v0⟩ := Prod.mk.inj e1
    obtain ⟨u1, v1⟩ := Prod.mk.inj v0
    subst u0
    subst u1
    subst v1
    exact (done_ret H (fun fr => by kernel_rfl) rfl : doneQ cfg.P _ _ _ _ fr _)
  · replace H := H.know 10 hb (by kernel_rfl)
    refine aw_false (x := .tmp 10) (by kernel_rfl) H (fun fr => by kernel_rfl) ?_
    refine aw_skip (by kernel_rfl) ?_
    show AW cfg 43 g (right (right (bodyC cfg.P 43))) fr h _
    refine aw_seq (by kernel_rfl) ?_
    refine aw_reg (id := 3) (n := 2) [(0, []), (1, [])] (by kernel_rfl) (by kernel_rfl) ?_
    obtain ⟨h1, hx, hm⟩ := bind_some hm
    refine at_step (v := .slice (some (h.size, 0)) 0) (h1 := h1) [(0, .str p0), (11, .slice (some (h.size, 0)) 0)] H (fun fr => by kernel_rfl) (fun fr => .of (s_n' (by kernel_rfl) hx)) ?_
    intro fr t H
    refine at_seg [(1, [])] [(0, .str p0), (5, .slice (some (h.size, 0)) 0)] H (noU_all rfl) (fun fr => by kernel_rfl) ?_
    intro fr H
    refine at_nil ?_
    show AW cfg 43 g (right (right (right (bodyC cfg.P 43)))) fr h1 _
    refine aw_seq (by kernel_rfl) ?_
    refine aw_reg (id := 4) (n := 1) [(0, [])] (by kernel_rfl) (by kernel_rfl) ?_
    refine at_seg [(0, [])] [(0, .str p0), (5, .slice (some (h.size, 0)) 0), (6, .int .i64 (0 : Int))] H (noU_all rfl) (fun fr => by kernel_rfl) ?_
    intro fr H
    refine at_nil ?_
    show AW cfg 43 g (right (right (right (right (bodyC cfg.P 43))))) fr h1 _
    refine aw_seq (by kernel_rfl) ?_
    refine aw_block (id := 0) (by kernel_rfl) ?_
    obtain ⟨o1, ho, hm⟩ := bind_some hm
    refine aw_mono (Q' := fun e fr' h' => (∃ (x3 : Sl), e = .exit 0 ∧ .inl (x3, h') = o1 ∧ h' = h' ∧ Has fr' 114 [(5, .slice x3.r x3.n)]) ∨ (∃ (x4 : Sl) (x5 : Int) (x6 : Int), e = .ret ∧ .inr (x4, x5, x6, h') = o1 ∧ h' = h' ∧ Has fr' 114 [(2, .slice x4.r x4.n), (3, .int .i64 x5), (4, .int .i64 x6)]) ∨ False) ?_ ?_
    · refine aw_loop (by kernel_rfl) (fun (s : Sl × Int × AHeap) fr' h' => ∃ (x7 : Sl) (x8 : Int), (x7, x8, h') = s ∧ h' = h' ∧ Has fr' 114 [(0, .str p0), (5, .slice x7.r x7.n), (6, .int .i64 x8)]) ho ⟨(⟨some (h.size, 0), 0⟩ : Sl), (0 : Int), rfl, rfl, H.less _ (fun fr => by kernel_rfl)⟩ ?_
      clear ho hm H
      intro s q fr h2 hI hm
      obtain ⟨x7, x8, rfl, _, H⟩ := hI
      unfold M_boulterref23_Parse_L0 at hm
      refine aw_seq (by kernel_rfl) ?_
      refine aw_seq (by kernel_rfl) ?_
      refine aw_reg (id := 5) (n := 4) [(0, []), (1, []), (2, []), (3, [])] (by kernel_rfl) (by kernel_rfl) ?_
      refine at_seg [(0, []), (1, []), (2, []), (3, [])] [(0, .str p0), (5, .slice x7.r x7.n), (6, .int .i64 x8), (15, .bool (decide (x8 < (p0.length : Int))))] H (noU_all rfl) (fun fr => by kernel_rfl) ?_
      intro fr H
      refine at_nil ?_
      show AW cfg 43 g (right (left (left (left (left (right (right (right (right (bodyC cfg.P 43)))))))))) fr h2 _
      rcases iteB_some hm with ⟨hb, hm⟩ | ⟨hb, hm⟩
      · replace H := H.know 15 hb (by kernel_rfl)
        refine aw_true (x := .tmp 15) (by kernel_rfl) H (fun fr => by kernel_rfl) ?_
        refine aw_skip (by kernel_rfl) ?_
        show AW cfg 43 g (right (left (left (left (right (right (right (right (bodyC cfg.P 43))))))))) fr h2 _
        refine aw_block (id := 1) (by kernel_rfl) ?_
        refine aw_seq (by kernel_rfl) ?_
        refine aw_seq (by kernel_rfl) ?_
        refine aw_reg (id := 6) (n := 4) [(0, []), (1, []), (2, []), (3, [])] (by kernel_rfl) (by kernel_rfl) ?_
        refine at_seg [(0, []), (1, [])] [(0, .str p0), (5, .slice x7.r x7.n), (6, .int .i64 x8), (16, .str p0), (17, .int .i64 x8)] H (noU_all rfl) (fun fr => by kernel_rfl) ?_
        intro fr H
        obtain ⟨x9, hx, hm⟩ := bind_some hm
        refine at_step (v := .int .u8 x9) (h1 := h2) [(0, .str p0), (5, .slice x7.r x7.n), (6, .int .i64 x8), (18, .int .u8 x9)] H (fun fr => by kernel_rfl) (fun fr => .of (s_ixS (by kernel_rfl) hx)) ?_
        intro fr t H
        refine at_seg [(3, [])] [(0, .str p0), (5, .slice x7.r x7.n), (6, .int .i64 x8), (19, .bool (x9 == (38 : Int)))] H (noU_all rfl) (fun fr => by kernel_rfl) ?_
        intro fr H
        refine at_nil ?_
        show AW cfg 43 g (right (left (left (right (left (left (left (right (right (right (right (bodyC cfg.P 43)))))))))))) fr h2 _
        rcases iteB_some hm with ⟨hb, hm⟩ | ⟨hb, hm⟩
        · replace H := H.know 19 hb (by kernel_rfl)
          refine aw_true (x := .tmp 19) (by kernel_rfl) H (fun fr => by kernel_rfl) ?_
          refine aw_seq (by kernel_rfl) ?_
          refine aw_reg (id := 7) (n := 5) [(0, []), (1, []), (2, []), (3, []), (4, [])] (by kernel_rfl) (by kernel_rfl) ?_
          refine at_seg [(0, []), (1, [])] [(0, .str p0), (6, .int .i64 x8), (20, .slice x7.r x7.n), (21, .agg [.int .i64 (1 : Int), .int .i64 (0 : Int), .str ([] : List UInt8)])] H (noU_all rfl) (fun fr => by kernel_rfl) ?_
          intro fr H
          obtain ⟨h3, hx, hm⟩ := bind_some hm
          refine at_step (v := .slice (some (h2.size, 0)) 1) (h1 := h3) [(0, .str p0), (6, .int .i64 x8), (20, .slice x7.r x7.n), (22, .slice (some (h2.size, 0)) 1)] H (fun fr => by kernel_rfl) (fun fr => .of (s_n' (by kernel_rfl) hx)) ?_
          intro fr t H
          obtain ⟨⟨x10, h4⟩, hx, hm⟩ := bind_some hm
          refine at_step (v := .slice x10.r x10.n) (h1 := h4) [(0, .str p0), (6, .int .i64 x8), (23, .slice x10.r x10.n)] H (fun fr => by kernel_rfl) (fun fr => .of (s_app (s := x7) (by kernel_rfl) hx)) ?_
          intro fr t H
          refine at_seg [(4, [])] [(0, .str p0), (5, .slice x10.r x10.n), (6, .int .i64 x8)] H (noU_all rfl) (fun fr => by kernel_rfl) ?_
          intro fr H
          refine at_nil ?_
          show AW cfg 43 g (right (left (right (left (left (right (left (left (left (right (right (right (right (bodyC cfg.P 43)))))))))))))) fr h4 _
          refine aw_seq (by kernel_rfl) ?_
          refine aw_reg (id := 8) (n := 3) [(0, []), (1, []), (2, [])] (by kernel_rfl) (by kernel_rfl) ?_
          refine at_seg [(0, []), (1, []), (2, [])] [(0, .str p0), (5, .slice x10.r x10.n), (6, .int .i64 (IntKind.i64.wrap (x8 + (1 : Int))))] H (noU_all rfl) (fun fr => by kernel_rfl) ?_
          intro fr H
          refine at_nil ?_
          show AW cfg 43 g (right (right (left (right (left (left (right (left (left (left (right (right (right (right (bodyC cfg.P 43))))))))))))))) fr h4 _
          refine aw_exit (i := 1) (by kernel_rfl) ?_
          exact Exists.intro (x10, IntKind.i64.wrap (x8 + (1 : Int)), h4) (And.intro (Option.some.inj hm).symm ⟨x10, IntKind.i64.wrap (x8 + (1 : Int)), rfl, rfl, H.less _ (fun fr => by kernel_rfl)⟩)
        · replace H := H.know 19 hb (by kernel_rfl)
          refine aw_false (x := .tmp 19) (by kernel_rfl) H (fun fr => by kernel_rfl) ?_
          refine aw_skip (by kernel_rfl) ?_
          show AW cfg 43 g (right (left (right (left (left (left (right (right (right (right (bodyC cfg.P 43))))))))))) fr h2 _
          refine aw_seq (by kernel_rfl) ?_
          refine aw_seq (by kernel_rfl) ?_
          refine aw_reg (id := 9) (n := 4) [(0, []), (1, []), (2, []), (3, [])] (by kernel_rfl) (by kernel_rfl) ?_
          refine at_seg [(0, []), (1, [])] [(0, .str p0), (5, .slice x7.r x7.n), (6, .int .i64 x8), (26, .str p0), (27, .int .i64 x8)] H (noU_all rfl) (fun fr => by kernel_rfl) ?_
          intro fr H
          obtain ⟨x11, hx, hm⟩ := bind_some hm
          refine at_step (v := .int .u8 x11) (h1 := h2) [(0, .str p0), (5, .slice x7.r x7.n), (6, .int .i64 x8), (28, .int .u8 x11)] H (fun fr => by kernel_rfl) (fun fr => .of (s_ixS (by kernel_rfl) hx)) ?_
          intro fr t H
          refine at_seg [(3, [])] [(0, .str p0), (5, .slice x7.r x7.n), (6, .int .i64 x8), (29, .bool (x11 != (92 : Int)))] H (noU_all rfl) (fun fr => by kernel_rfl) ?_
          intro fr H
          refine at_nil ?_
          show AW cfg 43 g (right (left (right (left (right (left (left (left (right (right (right (right (bodyC cfg.P 43))))))))))))) fr h2 _
          rcases iteB_some hm with ⟨hb, hm⟩ | ⟨hb, hm⟩
          · replace H := H.know 29 hb (by kernel_rfl)
            refine aw_true (x := .tmp 29) (by kernel_rfl) H (fun fr => by kernel_rfl) ?_
            refine aw_seq (by kernel_rfl) ?_
            refine aw_reg (id := 10) (n := 8) [(0, []), (1, []), (2, []), (3, []), (4, []), (5, []), (6, []), (7, [])] (by kernel_rfl) (by kernel_rfl) ?_
            refine at_seg [(0, []), (1, []), (2, []), (3, []), (4, [])] [(0, .str p0), (6, .int .i64 x8), (30, .slice x7.r x7.n), (31, .str p0), (32, .int .i64 x8), (34, .int .i64 (IntKind.i64.wrap (x8 + (1 : Int))))] H (noU_all rfl) (fun fr => by kernel_rfl) ?_
            intro fr H
            obtain ⟨x12, hx, hm⟩ := bind_some hm
            refine at_step (v := .str x12) (h1 := h2) [(0, .str p0), (6, .int .i64 x8), (30, .slice x7.r x7.n), (35, .str x12)] H (fun fr => by kernel_rfl) (fun fr => .of (s_subS (k := .i64) (k' := .i64) (lo := (some x8)) (hi := (some (IntKind.i64.wrap (x8 + (1 : Int))))) (by kernel_rfl) hx)) ?_
            intro fr t H
            obtain ⟨⟨x13, h5⟩, hx, hm⟩ := bind_some hm
            refine at_step (v := .slice x13.r x13.n) (h1 := h5) [(0, .str p0), (6, .int .i64 x8), (36, .slice x13.r x13.n)] H (fun fr => by kernel_rfl) (fun fr => Steps.call (by kernel_rfl) (ok_boulterref23_text hx)) ?_
            intro fr t H
            refine at_seg [(7, [])] [(0, .str p0), (5, .slice x13.r x13.n), (6, .int .i64 x8)] H (noU_all rfl) (fun fr => by kernel_rfl) ?_
            intro fr H
            refine at_nil ?_
            show AW cfg 43 g (right (left (right (left (right (left (right (left (left (left (right (right (right (right (bodyC cfg.P 43))))))))))))))) fr h5 _
            refine aw_seq (by kernel_rfl) ?_
            refine aw_reg (id := 11) (n := 3) [(0, []), (1, []), (2, [])] (by kernel_rfl) (by kernel_rfl) ?_
            refine at_seg [(0, []), (1, []), (2, [])] [(0, .str p0), (5, .slice x13.r x13.n), (6, .int .i64 (IntKind.i64.wrap (x8 + (1 : Int))))] H (noU_all rfl) (fun fr => by kernel_rfl) ?_
            intro fr H
            refine at_nil ?_
            show AW cfg 43 g (right (right (left (right (left (right (left (right (left (left (left (right (right (right (right (bodyC cfg.P 43)))))))))))))))) fr h5 _
            refine aw_exit (i := 1) (by kernel_rfl) ?_
            exact Exists.intro (x13, IntKind.i64.wrap (x8 + (1 : Int)), h5) (And.intro (Option.some.inj hm).symm ⟨x13, IntKind.i64.wrap (x8 + (1 : Int)), rfl, rfl, H.less _ (fun fr => by kernel_rfl)⟩)
          · replace H := H.know 29 hb (by kernel_rfl)
            refine aw_false (x := .tmp 29) (by kernel_rfl) H (fun fr => by kernel_rfl) ?_
            refine aw_skip (by kernel_rfl) ?_
            show AW cfg 43 g (right (right (left (right (left (left (left (right (right (right (right (bodyC cfg.P 43)))))))))))) fr h2 _
            refine aw_seq (by kernel_rfl) ?_
            refine aw_seq (by kernel_rfl) ?_
            refine aw_reg (id := 12) (n := 5) [(0, []), (1, []), (2, []), (3, []), (4, [])] (by kernel_rfl) (by kernel_rfl) ?_
            refine at_seg [(0, []), (1, []), (2, []), (3, []), (4, [])] [(0, .str p0), (5, .slice x7.r x7.n), (6, .int .i64 x8), (43, .bool (decide ((IntKind.i64.wrap (x8 + (1 : Int))) ≥ (p0.length : Int))))] H (noU_all rfl) (fun fr => by kernel_rfl) ?_
            intro fr H
            refine at_nil ?_
            show AW cfg 43 g (right (left (right (right (left (right (left (left (left (right (right (right (right (bodyC cfg.P 43)))))))))))))) fr h2 _
            rcases iteB_some hm with ⟨hb, hm⟩ | ⟨hb, hm⟩
            · replace H := H.know 43 hb (by kernel_rfl)
              refine aw_true (x := .tmp 43) (by kernel_rfl) H (fun fr => by kernel_rfl) ?_
              refine aw_seq (by kernel_rfl) ?_
              refine aw_reg (id := 13) (n := 4) [(0, []), (1, []), (2, []), (3, [])] (by kernel_rfl) (by kernel_rfl) ?_
              refine at_seg [(0, []), (1, []), (2, []), (3, [])] [(2, .slice none 0), (3, .int .i64 x8), (4, .int .i64 (11 : Int))] H (noU_all rfl) (fun fr => by kernel_rfl) ?_
              intro fr H
              refine at_nil ?_
              show AW cfg 43 g (right (left (right (left (right (right (left (right (left (left (left (right (right (right (right (bodyC cfg.P 43)))))))))))))))) fr h2 _
              refine aw_ret (by kernel_rfl) ?_
              exact Exists.intro _ (And.intro (Option.some.inj hm).symm (fun e => Or.inr (Or.inl ⟨(⟨none, 0⟩ : Sl), x8, (11 : Int), rfl, e, rfl, H.less _ (fun fr => by kernel_rfl)⟩)))
            · replace H := H.know 43 hb (by kernel_rfl)
              refine aw_false (x := .tmp 43) (by kernel_rfl) H (fun fr => by kernel_rfl) ?_
              refine aw_skip (by kernel_rfl) ?_
              show AW cfg 43 g (right (right (right (left (right (left (left (left (right (right (right (right (bodyC cfg.P 43))))))))))))) fr h2 _
              refine aw_seq (by kernel_rfl) ?_
              refine aw_reg (id := 14) (n := 5) [(0, []), (1, []), (2, []), (3, []), (4, [])] (by kernel_rfl) (by kernel_rfl) ?_
              refine at_seg [(0, []), (1, []), (2, [])] [(0, .str p0), (5, .slice x7.r x7.n), (6, .int .i64 x8), (45, .str p0), (47, .int .i64 (IntKind.i64.wrap (x8 + (1 : Int))))] H (noU_all rfl) (fun fr => by kernel_rfl) ?_
              intro fr H
              obtain ⟨x14, hx, hm⟩ := bind_some hm
              refine at_step (v := .int .u8 x14) (h1 := h2) [(0, .str p0), (5, .slice x7.r x7.n), (6, .int .i64 x8), (48, .int .u8 x14)] H (fun fr => by kernel_rfl) (fun fr => .of (s_ixS (by kernel_rfl) hx)) ?_
              intro fr t H
              refine at_seg [(4, [])] [(0, .str p0), (5, .slice x7.r x7.n), (6, .int .i64 x8), (7, .int .u8 x14)] H (noU_all rfl) (fun fr => by kernel_rfl) ?_
              intro fr H
              refine at_nil ?_
              show AW cfg 43 g (right (right (right (right (left (right (left (left (left (right (right (right (right (bodyC cfg.P 43)))))))))))))) fr h2 _
              refine aw_seq (by kernel_rfl) ?_
              obtain ⟨o2, ho, hm⟩ := bind_some hm
              refine aw_mono (Q' := fun e fr' h' => (∃ (x15 : Sl), e = .normal ∧ .inl (x15, h') = o2 ∧ h' = h' ∧ Has fr' 114 [(0, .str p0), (5, .slice x15.r x15.n), (6, .int .i64 x8)]) ∨ (∃ (x16 : Sl) (x17 : Int) (x18 : Int), e = .ret ∧ .inr (x16, x17, x18, h') = o2 ∧ h' = h' ∧ Has fr' 114 [(2, .slice x16.r x16.n), (3, .int .i64 x17), (4, .int .i64 x18)]) ∨ False) ?_ ?_
              · replace hm := ho
                clear ho
                refine aw_seq (by kernel_rfl) ?_
                refine aw_reg (id := 15) (n := 6) [(0, []), (1, []), (2, []), (3, []), (4, []), (5, [])] (by kernel_rfl) (by kernel_rfl) ?_
                refine at_seg [(0, []), (1, []), (2, [])] [(0, .str p0), (5, .slice x7.r x7.n), (6, .int .i64 x8), (7, .int .u8 x14), (51, .bool (decide (x14 ≥ (49 : Int))))] H (noU_all rfl) (fun fr => by kernel_rfl) ?_
                intro fr H
                refine at_cut [(3, []), (4, []), (5, [])] (fun fr' h' => h2 = h' ∧ Has fr' 114 [(0, .str p0), (5, .slice x7.r x7.n), (6, .int .i64 x8), (7, .int .u8 x14), (54, .bool ((decide (x14 ≥ (49 : Int))) && (decide (x14 ≤ (57 : Int)))))]) ?_ ?_
                · cases hb : (decide (x14 ≥ (49 : Int)) : Bool) with
                  | true =>
                    replace H := H.know 51 hb (by kernel_rfl)
                    refine at_seg [(3, []), (4, []), (5, [])] [(0, .str p0), (5, .slice x7.r x7.n), (6, .int .i64 x8), (7, .int .u8 x14), (54, .bool (decide (x14 ≤ (57 : Int))))] H (noU_all rfl) (fun fr => by kernel_rfl) ?_
                    intro fr H
                    exact at_nil ⟨rfl, by first | exact H.less _ (fun fr => by rfl) | exact H.less _ (fun fr => by rw [hb]; rfl)⟩
                  | false =>
                    replace H := H.know 51 hb (by kernel_rfl)
                    refine at_seg [(3, []), (4, []), (5, [])] [(0, .str p0), (5, .slice x7.r x7.n), (6, .int .i64 x8), (7, .int .u8 x14), (54, .bool false)] H (noU_all rfl) (fun fr => by kernel_rfl) ?_
                    intro fr H
                    exact at_nil ⟨rfl, by first | exact H.less _ (fun fr => by rfl) | exact H.less _ (fun fr => by rw [hb]; rfl)⟩
                · intro t fr h' hK
                  obtain ⟨e, H⟩ := hK
                  subst e
                  refine at_nil ?_
                  show AW cfg 43 g (right (left (right (right (right (right (left (right (left (left (left (right (right (right (right (bodyC cfg.P 43)))))))))))))))) fr h2 _
                  rcases iteB_some hm with ⟨hb, hm⟩ | ⟨hb, hm⟩
                  · replace H := H.know 54 hb (by kernel_rfl)
                    refine aw_true (x := .tmp 54) (by kernel_rfl) H (fun fr => by kernel_rfl) ?_
                    refine aw_reg (id := 16) (n := 8) [(0, []), (1, []), (2, []), (3, []), (4, []), (5, []), (6, []), (7, [])] (by kernel_rfl) (by kernel_rfl) ?_
                    refine at_seg [(0, []), (1, []), (2, []), (3, []), (4, [])] [(0, .str p0), (6, .int .i64 x8), (55, .slice x7.r x7.n), (59, .agg [.int .i64 (1 : Int), .int .i64 (IntKind.i64.wrap ((IntKind.i64.wrap x14) - (48 : Int))), .str ([] : List UInt8)])] H (noU_all rfl) (fun fr => by kernel_rfl) ?_
                    intro fr H
                    obtain ⟨h6, hx, hm⟩ := bind_some hm
                    refine at_step (v := .slice (some (h2.size, 0)) 1) (h1 := h6) [(0, .str p0), (6, .int .i64 x8), (55, .slice x7.r x7.n), (60, .slice (some (h2.size, 0)) 1)] H (fun fr => by kernel_rfl) (fun fr => .of (s_n' (by kernel_rfl) hx)) ?_
                    intro fr t H
                    obtain ⟨⟨x19, h7⟩, hx, hm⟩ := bind_some hm
                    refine at_step (v := .slice x19.r x19.n) (h1 := h7) [(0, .str p0), (6, .int .i64 x8), (61, .slice x19.r x19.n)] H (fun fr => by kernel_rfl) (fun fr => .of (s_app (s := x7) (by kernel_rfl) hx)) ?_
                    intro fr t H
                    refine at_seg [(7, [])] [(0, .str p0), (5, .slice x19.r x19.n), (6, .int .i64 x8)] H (noU_all rfl) (fun fr => by kernel_rfl) ?_
                    intro fr H
                    refine at_nil ?_
                    exact Or.inl ⟨x19, rfl, Option.some.inj hm, rfl, H.less _ (fun fr => by kernel_rfl)⟩
                  · replace H := H.know 54 hb (by kernel_rfl)
                    refine aw_false (x := .tmp 54) (by kernel_rfl) H (fun fr => by kernel_rfl) ?_
                    refine aw_seq (by kernel_rfl) ?_
                    refine aw_reg (id := 17) (n := 2) [(0, []), (1, [])] (by kernel_rfl) (by kernel_rfl) ?_
                    refine at_seg [(0, []), (1, [])] [(0, .str p0), (5, .slice x7.r x7.n), (6, .int .i64 x8), (7, .int .u8 x14), (63, .bool (x14 == (85 : Int)))] H (noU_all rfl) (fun fr => by kernel_rfl) ?_
                    intro fr H
                    refine at_nil ?_
                    show AW cfg 43 g (right (right (right (left (right (right (right (right (left (right (left (left (left (right (right (right (right (bodyC cfg.P 43)))))))))))))))))) fr h2 _
                    rcases iteB_some hm with ⟨hb, hm⟩ | ⟨hb, hm⟩
                    · replace H := H.know 63 hb (by kernel_rfl)
                      refine aw_true (x := .tmp 63) (by kernel_rfl) H (fun fr => by kernel_rfl) ?_
                      refine aw_reg (id := 18) (n := 5) [(0, []), (1, []), (2, []), (3, []), (4, [])] (by kernel_rfl) (by kernel_rfl) ?_
                      refine at_seg [(0, []), (1, [])] [(0, .str p0), (6, .int .i64 x8), (64, .slice x7.r x7.n), (65, .agg [.int .i64 (2 : Int), .int .i64 (0 : Int), .str ([] : List UInt8)])] H (noU_all rfl) (fun fr => by kernel_rfl) ?_
                      intro fr H
                      obtain ⟨h8, hx, hm⟩ := bind_some hm
                      refine at_step (v := .slice (some (h2.size, 0)) 1) (h1 := h8) [(0, .str p0), (6, .int .i64 x8), (64, .slice x7.r x7.n), (66, .slice (some (h2.size, 0)) 1)] H (fun fr => by kernel_rfl) (fun fr => .of (s_n' (by kernel_rfl) hx)) ?_
                      intro fr t H
                      obtain ⟨⟨x20, h9⟩, hx, hm⟩ := bind_some hm
                      refine at_step (v := .slice x20.r x20.n) (h1 := h9) [(0, .str p0), (6, .int .i64 x8), (67, .slice x20.r x20.n)] H (fun fr => by kernel_rfl) (fun fr => .of (s_app (s := x7) (by kernel_rfl) hx)) ?_
                      intro fr t H
                      refine at_seg [(4, [])] [(0, .str p0), (5, .slice x20.r x20.n), (6, .int .i64 x8)] H (noU_all rfl) (fun fr => by kernel_rfl) ?_
                      intro fr H
                      refine at_nil ?_
                      exact Or.inl ⟨x20, rfl, Option.some.inj hm, rfl, H.less _ (fun fr => by kernel_rfl)⟩
                    · replace H := H.know 63 hb (by kernel_rfl)
                      refine aw_false (x := .tmp 63) (by kernel_rfl) H (fun fr => by kernel_rfl) ?_
                      refine aw_seq (by kernel_rfl) ?_
                      refine aw_reg (id := 19) (n := 2) [(0, []), (1, [])] (by kernel_rfl) (by kernel_rfl) ?_
                      refine at_seg [(0, []), (1, [])] [(0, .str p0), (5, .slice x7.r x7.n), (6, .int .i64 x8), (7, .int .u8 x14), (69, .bool (x14 == (76 : Int)))] H (noU_all rfl) (fun fr => by kernel_rfl) ?_
                      intro fr H
                      refine at_nil ?_
                      show AW cfg 43 g (right (right (right (right (right (left (right (right (right (right (left (right (left (left (left (right (right (right (right (bodyC cfg.P 43)))))))))))))))))))) fr h2 _
                      rcases iteB_some hm with ⟨hb, hm⟩ | ⟨hb, hm⟩
                      · replace H := H.know 69 hb (by kernel_rfl)
                        refine aw_true (x := .tmp 69) (by kernel_rfl) H (fun fr => by kernel_rfl) ?_
                        refine aw_reg (id := 20) (n := 5) [(0, []), (1, []), (2, []), (3, []), (4, [])] (by kernel_rfl) (by kernel_rfl) ?_
                        refine at_seg [(0, []), (1, [])] [(0, .str p0), (6, .int .i64 x8), (70, .slice x7.r x7.n), (71, .agg [.int .i64 (3 : Int), .int .i64 (0 : Int), .str ([] : List UInt8)])] H (noU_all rfl) (fun fr => by kernel_rfl) ?_
                        intro fr H
                        obtain ⟨h10, hx, hm⟩ := bind_some hm
                        refine at_step (v := .slice (some (h2.size, 0)) 1) (h1 := h10) [(0, .str p0), (6, .int .i64 x8), (70, .slice x7.r x7.n), (72, .slice (some (h2.size, 0)) 1)] H (fun fr => by kernel_rfl) (fun fr => .of (s_n' (by kernel_rfl) hx)) ?_
                        intro fr t H
                        obtain ⟨⟨x21, h11⟩, hx, hm⟩ := bind_some hm
                        refine at_step (v := .slice x21.r x21.n) (h1 := h11) [(0, .str p0), (6, .int .i64 x8), (73, .slice x21.r x21.n)] H (fun fr => by kernel_rfl) (fun fr => .of (s_app (s := x7) (by kernel_rfl) hx)) ?_
                        intro fr t H
                        refine at_seg [(4, [])] [(0, .str p0), (5, .slice x21.r x21.n), (6, .int .i64 x8)] H (noU_all rfl) (fun fr => by kernel_rfl) ?_
                        intro fr H
                        refine at_nil ?_
                        exact Or.inl ⟨x21, rfl, Option.some.inj hm, rfl, H.less _ (fun fr => by kernel_rfl)⟩
                      · replace H := H.know 69 hb (by kernel_rfl)
                        refine aw_false (x := .tmp 69) (by kernel_rfl) H (fun fr => by kernel_rfl) ?_
                        refine aw_seq (by kernel_rfl) ?_
                        refine aw_reg (id := 21) (n := 2) [(0, []), (1, [])] (by kernel_rfl) (by kernel_rfl) ?_
                        refine at_seg [(0, []), (1, [])] [(0, .str p0), (5, .slice x7.r x7.n), (6, .int .i64 x8), (7, .int .u8 x14), (75, .bool (x14 == (69 : Int)))] H (noU_all rfl) (fun fr => by kernel_rfl) ?_
                        intro fr H
                        refine at_nil ?_
                        show AW cfg 43 g (right (right (right (right (right (right (right (left (right (right (right (right (left (right (left (left (left (right (right (right (right (bodyC cfg.P 43)))))))))))))))))))))) fr h2 _
                        rcases iteB_some hm with ⟨hb, hm⟩ | ⟨hb, hm⟩
                        · replace H := H.know 75 hb (by kernel_rfl)
                          refine aw_true (x := .tmp 75) (by kernel_rfl) H (fun fr => by kernel_rfl) ?_
                          refine aw_reg (id := 22) (n := 5) [(0, []), (1, []), (2, []), (3, []), (4, [])] (by kernel_rfl) (by kernel_rfl) ?_
                          refine at_seg [(0, []), (1, [])] [(0, .str p0), (6, .int .i64 x8), (76, .slice x7.r x7.n), (77, .agg [.int .i64 (4 : Int), .int .i64 (0 : Int), .str ([] : List UInt8)])] H (noU_all rfl) (fun fr => by kernel_rfl) ?_
                          intro fr H
                          obtain ⟨h12, hx, hm⟩ := bind_some hm
                          refine at_step (v := .slice (some (h2.size, 0)) 1) (h1 := h12) [(0, .str p0), (6, .int .i64 x8), (76, .slice x7.r x7.n), (78, .slice (some (h2.size, 0)) 1)] H (fun fr => by kernel_rfl) (fun fr => .of (s_n' (by kernel_rfl) hx)) ?_
                          intro fr t H
                          obtain ⟨⟨x22, h13⟩, hx, hm⟩ := bind_some hm
                          refine at_step (v := .slice x22.r x22.n) (h1 := h13) [(0, .str p0), (6, .int .i64 x8), (79, .slice x22.r x22.n)] H (fun fr => by kernel_rfl) (fun fr => .of (s_app (s := x7) (by kernel_rfl) hx)) ?_
                          intro fr t H
                          refine at_seg [(4, [])] [(0, .str p0), (5, .slice x22.r x22.n), (6, .int .i64 x8)] H (noU_all rfl) (fun fr => by kernel_rfl) ?_
                          intro fr H
                          refine at_nil ?_
                          exact Or.inl ⟨x22, rfl, Option.some.inj hm, rfl, H.less _ (fun fr => by kernel_rfl)⟩
                        · replace H := H.know 75 hb (by kernel_rfl)
                          refine aw_false (x := .tmp 75) (by kernel_rfl) H (fun fr => by kernel_rfl) ?_
                          refine aw_seq (by kernel_rfl) ?_
                          refine aw_reg (id := 23) (n := 2) [(0, []), (1, [])] (by kernel_rfl) (by kernel_rfl) ?_
                          refine at_seg [(0, []), (1, [])] [(0, .str p0), (5, .slice x7.r x7.n), (6, .int .i64 x8), (7, .int .u8 x14), (81, .bool (x14 == (117 : Int)))] H (noU_all rfl) (fun fr => by kernel_rfl) ?_
                          intro fr H
                          refine at_nil ?_
                          show AW cfg 43 g (right (right (right (right (right (right (right (right (right (left (right (right (right (right (left (right (left (left (left (right (right (right (right (bodyC cfg.P 43)))))))))))))))))))))))) fr h2 _
                          rcases iteB_some hm with ⟨hb, hm⟩ | ⟨hb, hm⟩
                          · replace H := H.know 81 hb (by kernel_rfl)
                            refine aw_true (x := .tmp 81) (by kernel_rfl) H (fun fr => by kernel_rfl) ?_
                            refine aw_reg (id := 24) (n := 5) [(0, []), (1, []), (2, []), (3, []), (4, [])] (by kernel_rfl) (by kernel_rfl) ?_
                            refine at_seg [(0, []), (1, [])] [(0, .str p0), (6, .int .i64 x8), (82, .slice x7.r x7.n), (83, .agg [.int .i64 (5 : Int), .int .i64 (0 : Int), .str ([] : List UInt8)])] H (noU_all rfl) (fun fr => by kernel_rfl) ?_
                            intro fr H
                            obtain ⟨h14, hx, hm⟩ := bind_some hm
                            refine at_step (v := .slice (some (h2.size, 0)) 1) (h1 := h14) [(0, .str p0), (6, .int .i64 x8), (82, .slice x7.r x7.n), (84, .slice (some (h2.size, 0)) 1)] H (fun fr => by kernel_rfl) (fun fr => .of (s_n' (by kernel_rfl) hx)) ?_
                            intro fr t H
                            obtain ⟨⟨x23, h15⟩, hx, hm⟩ := bind_some hm
                            refine at_step (v := .slice x23.r x23.n) (h1 := h15) [(0, .str p0), (6, .int .i64 x8), (85, .slice x23.r x23.n)] H (fun fr => by kernel_rfl) (fun fr => .of (s_app (s := x7) (by kernel_rfl) hx)) ?_
                            intro fr t H
                            refine at_seg [(4, [])] [(0, .str p0), (5, .slice x23.r x23.n), (6, .int .i64 x8)] H (noU_all rfl) (fun fr => by kernel_rfl) ?_
                            intro fr H
                            refine at_nil ?_
                            exact Or.inl ⟨x23, rfl, Option.some.inj hm, rfl, H.less _ (fun fr => by kernel_rfl)⟩
                          · replace H := H.know 81 hb (by kernel_rfl)
                            refine aw_false (x := .tmp 81) (by kernel_rfl) H (fun fr => by kernel_rfl) ?_
                            refine aw_seq (by kernel_rfl) ?_
                            refine aw_reg (id := 25) (n := 2) [(0, []), (1, [])] (by kernel_rfl) (by kernel_rfl) ?_
                            refine at_seg [(0, []), (1, [])] [(0, .str p0), (5, .slice x7.r x7.n), (6, .int .i64 x8), (7, .int .u8 x14), (87, .bool (x14 == (108 : Int)))] H (noU_all rfl) (fun fr => by kernel_rfl) ?_
                            intro fr H
                            refine at_nil ?_
                            show AW cfg 43 g (right (right (right (right (right (right (right (right (right (right (right (left (right (right (right (right (left (right (left (left (left (right (right (right (right (bodyC cfg.P 43)))))))))))))))))))))))))) fr h2 _
                            rcases iteB_some hm with ⟨hb, hm⟩ | ⟨hb, hm⟩
                            · replace H := H.know 87 hb (by kernel_rfl)
                              refine aw_true (x := .tmp 87) (by kernel_rfl) H (fun fr => by kernel_rfl) ?_
                              refine aw_reg (id := 26) (n := 5) [(0, []), (1, []), (2, []), (3, []), (4, [])] (by kernel_rfl) (by kernel_rfl) ?_
                              refine at_seg [(0, []), (1, [])] [(0, .str p0), (6, .int .i64 x8), (88, .slice x7.r x7.n), (89, .agg [.int .i64 (6 : Int), .int .i64 (0 : Int), .str ([] : List UInt8)])] H (noU_all rfl) (fun fr => by kernel_rfl) ?_
                              intro fr H
                              obtain ⟨h16, hx, hm⟩ := bind_some hm
                              refine at_step (v := .slice (some (h2.size, 0)) 1) (h1 := h16) [(0, .str p0), (6, .int .i64 x8), (88, .slice x7.r x7.n), (90, .slice (some (h2.size, 0)) 1)] H (fun fr => by kernel_rfl) (fun fr => .of (s_n' (by kernel_rfl) hx)) ?_
                              intro fr t H
                              obtain ⟨⟨x24, h17⟩, hx, hm⟩ := bind_some hm
                              refine at_step (v := .slice x24.r x24.n) (h1 := h17) [(0, .str p0), (6, .int .i64 x8), (91, .slice x24.r x24.n)] H (fun fr => by kernel_rfl) (fun fr => .of (s_app (s := x7) (by kernel_rfl) hx)) ?_
                              intro fr t H
                              refine at_seg [(4, [])] [(0, .str p0), (5, .slice x24.r x24.n), (6, .int .i64 x8)] H (noU_all rfl) (fun fr => by kernel_rfl) ?_
                              intro fr H
                              refine at_nil ?_
                              exact Or.inl ⟨x24, rfl, Option.some.inj hm, rfl, H.less _ (fun fr => by kernel_rfl)⟩
                            · replace H := H.know 87 hb (by kernel_rfl)
                              refine aw_false (x := .tmp 87) (by kernel_rfl) H (fun fr => by kernel_rfl) ?_
                              refine aw_seq (by kernel_rfl) ?_
                              refine aw_reg (id := 27) (n := 10) [(0, []), (1, []), (2, []), (3, []), (4, []), (5, []), (6, []), (7, []), (8, []), (9, [])] (by kernel_rfl) (by kernel_rfl) ?_
                              refine at_seg [(0, []), (1, []), (2, [])] [(0, .str p0), (5, .slice x7.r x7.n), (6, .int .i64 x8), (7, .int .u8 x14), (94, .bool (x14 == (38 : Int)))] H (noU_all rfl) (fun fr => by kernel_rfl) ?_
                              intro fr H
                              refine at_cut [(3, []), (4, []), (5, [])] (fun fr' h' => h2 = h' ∧ Has fr' 114 [(0, .str p0), (5, .slice x7.r x7.n), (6, .int .i64 x8), (7, .int .u8 x14), (97, .bool ((x14 == (38 : Int)) || (x14 == (92 : Int))))]) ?_ ?_
                              · cases hb : (x14 == (38 : Int) : Bool) with
                                | true =>
                                  replace H := H.know 94 hb (by kernel_rfl)
                                  refine at_seg [(3, []), (4, []), (5, [])] [(0, .str p0), (5, .slice x7.r x7.n), (6, .int .i64 x8), (7, .int .u8 x14), (97, .bool true)] H (noU_all rfl) (fun fr => by kernel_rfl) ?_
                                  intro fr H
                                  exact at_nil ⟨rfl, by first | exact H.less _ (fun fr => by rfl) | exact H.less _ (fun fr => by rw [hb]; rfl)⟩
                                | false =>
                                  replace H := H.know 94 hb (by kernel_rfl)
                                  refine at_seg [(3, []), (4, []), (5, [])] [(0, .str p0), (5, .slice x7.r x7.n), (6, .int .i64 x8), (7, .int .u8 x14), (97, .bool (x14 == (92 : Int)))] H (noU_all rfl) (fun fr => by kernel_rfl) ?_
                                  intro fr H
                                  exact at_nil ⟨rfl, by first | exact H.less _ (fun fr => by rfl) | exact H.less _ (fun fr => by rw [hb]; rfl)⟩
                              · intro t fr h' hK
                                obtain ⟨e, H⟩ := hK
                                subst e
                                refine at_seg [(6, [])] [(0, .str p0), (5, .slice x7.r x7.n), (6, .int .i64 x8), (7, .int .u8 x14), (98, .bool ((x14 == (38 : Int)) || (x14 == (92 : Int))))] H (noU_all rfl) (fun fr => by kernel_rfl) ?_
                                intro fr H
                                refine at_cut [(7, []), (8, []), (9, [])] (fun fr' h' => h2 = h' ∧ Has fr' 114 [(0, .str p0), (5, .slice x7.r x7.n), (6, .int .i64 x8), (101, .bool (((x14 == (38 : Int)) || (x14 == (92 : Int))) || (x14 == (47 : Int))))]) ?_ ?_
                                · cases hb : ((x14 == (38 : Int)) || (x14 == (92 : Int)) : Bool) with
                                  | true =>
                                    replace H := H.know 98 hb (by kernel_rfl)
                                    refine at_seg [(7, []), (8, []), (9, [])] [(0, .str p0), (5, .slice x7.r x7.n), (6, .int .i64 x8), (101, .bool true)] H (noU_all rfl) (fun fr => by kernel_rfl) ?_
                                    intro fr H
                                    exact at_nil ⟨rfl, by first | exact H.less _ (fun fr => by rfl) | exact H.less _ (fun fr => by rw [hb]; rfl)⟩
                                  | false =>
                                    replace H := H.know 98 hb (by kernel_rfl)
                                    refine at_seg [(7, []), (8, []), (9, [])] [(0, .str p0), (5, .slice x7.r x7.n), (6, .int .i64 x8), (101, .bool (x14 == (47 : Int)))] H (noU_all rfl) (fun fr => by kernel_rfl) ?_
                                    intro fr H
                                    exact at_nil ⟨rfl, by first | exact H.less _ (fun fr => by rfl) | exact H.less _ (fun fr => by rw [hb]; rfl)⟩
                                · intro t fr h' hK
                                  obtain ⟨e, H⟩ := hK
                                  subst e
                                  refine at_nil ?_
                                  show AW cfg 43 g (right (right (right (right (right (right (right (right (right (right (right (right (right (left (right (right (right (right (left (right (left (left (left (right (right (right (right (bodyC cfg.P 43)))))))))))))))))))))))))))) fr h2 _
                                  rcases iteB_some hm with ⟨hb, hm⟩ | ⟨hb, hm⟩
                                  · replace H := H.know 101 hb (by kernel_rfl)
                                    refine aw_true (x := .tmp 101) (by kernel_rfl) H (fun fr => by kernel_rfl) ?_
                                    refine aw_reg (id := 28) (n := 9) [(0, []), (1, []), (2, []), (3, []), (4, []), (5, []), (6, []), (7, []), (8, [])] (by kernel_rfl) (by kernel_rfl) ?_
                                    refine at_seg [(0, []), (1, []), (2, []), (3, []), (4, []), (5, [])] [(0, .str p0), (6, .int .i64 x8), (102, .slice x7.r x7.n), (103, .str p0), (105, .int .i64 (IntKind.i64.wrap (x8 + (1 : Int)))), (107, .int .i64 (IntKind.i64.wrap (x8 + (2 : Int))))] H (noU_all rfl) (fun fr => by kernel_rfl) ?_
                                    intro fr H
                                    obtain ⟨x25, hx, hm⟩ := bind_some hm
                                    refine at_step (v := .str x25) (h1 := h2) [(0, .str p0), (6, .int .i64 x8), (102, .slice x7.r x7.n), (108, .str x25)] H (fun fr => by kernel_rfl) (fun fr => .of (s_subS (k := .i64) (k' := .i64) (lo := (some (IntKind.i64.wrap (x8 + (1 : Int))))) (hi := (some (IntKind.i64.wrap (x8 + (2 : Int))))) (by kernel_rfl) hx)) ?_
                                    intro fr t H
                                    obtain ⟨⟨x26, h18⟩, hx, hm⟩ := bind_some hm
                                    refine at_step (v := .slice x26.r x26.n) (h1 := h18) [(0, .str p0), (6, .int .i64 x8), (109, .slice x26.r x26.n)] H (fun fr => by kernel_rfl) (fun fr => Steps.call (by kernel_rfl) (ok_boulterref23_text hx)) ?_
                                    intro fr t H
                                    refine at_seg [(8, [])] [(0, .str p0), (5, .slice x26.r x26.n), (6, .int .i64 x8)] H (noU_all rfl) (fun fr => by kernel_rfl) ?_
                                    intro fr H
                                    refine at_nil ?_
                                    exact Or.inl ⟨x26, rfl, Option.some.inj hm, rfl, H.less _ (fun fr => by kernel_rfl)⟩
                                  · replace H := H.know 101 hb (by kernel_rfl)
                                    refine aw_false (x := .tmp 101) (by kernel_rfl) H (fun fr => by kernel_rfl) ?_
                                    refine aw_seq (by kernel_rfl) ?_
                                    refine aw_reg (id := 29) (n := 4) [(0, []), (1, []), (2, []), (3, [])] (by kernel_rfl) (by kernel_rfl) ?_
                                    refine at_seg [(0, []), (1, []), (2, []), (3, [])] [(2, .slice none 0), (3, .int .i64 x8), (4, .int .i64 (11 : Int))] H (noU_all rfl) (fun fr => by kernel_rfl) ?_
                                    intro fr H
                                    refine at_nil ?_
                                    show AW cfg 43 g (right (right (right (right (right (right (right (right (right (right (right (right (right (right (right (left (right (right (right (right (left (right (left (left (left (right (right (right (right (bodyC cfg.P 43)))))))))))))))))))))))))))))) fr h2 _
                                    refine aw_ret (by kernel_rfl) ?_
                                    exact Or.inr (Or.inl ⟨(⟨none, 0⟩ : Sl), x8, (11 : Int), rfl, Option.some.inj hm, rfl, H.less _ (fun fr => by kernel_rfl)⟩)
              · clear ho
                intro e fr h19 hQ
                rcases hQ with ⟨x15, rfl, rfl, _, H⟩ | ⟨x16, x17, x18, rfl, rfl, _, H⟩ | hF
                · skip
                  show AW cfg 43 g (right (right (right (right (right (left (right (left (left (left (right (right (right (right (bodyC cfg.P 43))))))))))))))) fr h19 _
                  refine aw_reg (id := 30) (n := 3) [(0, []), (1, []), (2, [])] (by kernel_rfl) (by kernel_rfl) ?_
                  refine at_seg [(0, []), (1, []), (2, [])] [(0, .str p0), (5, .slice x15.r x15.n), (6, .int .i64 (IntKind.i64.wrap (x8 + (2 : Int))))] H (noU_all rfl) (fun fr => by kernel_rfl) ?_
                  intro fr H
                  refine at_nil ?_
                  exact Exists.intro (x15, IntKind.i64.wrap (x8 + (2 : Int)), h19) (And.intro (Option.some.inj hm).symm ⟨x15, IntKind.i64.wrap (x8 + (2 : Int)), rfl, rfl, H.less _ (fun fr => by kernel_rfl)⟩)
                · skip
                  exact Exists.intro _ (And.intro (Option.some.inj hm).symm (fun e => Or.inr (Or.inl ⟨x16, x17, x18, rfl, e, rfl, H.less _ (fun fr => by kernel_rfl)⟩)))
                · exact hF.elim
      · replace H := H.know 15 hb (by kernel_rfl)
        refine aw_false (x := .tmp 15) (by kernel_rfl) H (fun fr => by kernel_rfl) ?_
        refine aw_exit (i := 0) (by kernel_rfl) ?_
        exact Exists.intro _ (And.intro (Option.some.inj hm).symm (fun e => Or.inl ⟨x7, rfl, e, rfl, H.less _ (fun fr => by kernel_rfl)⟩))
    · clear ho
      intro e fr h20 hQ
      rcases hQ with ⟨x3, rfl, rfl, _, H⟩ | ⟨x4, x5, x6, rfl, rfl, _, H⟩ | hF
      · skip
        show AW cfg 43 g (right (right (right (right (right (bodyC cfg.P 43)))))) fr h20 _
        refine aw_seq (by kernel_rfl) ?_
        refine aw_reg (id := 31) (n := 4) [(0, []), (1, []), (2, []), (3, [])] (by kernel_rfl) (by kernel_rfl) ?_
        refine at_seg [(0, []), (1, []), (2, []), (3, [])] [(2, .slice x3.r x3.n), (3, .int .i64 (0 : Int)), (4, .int .i64 (0 : Int))] H (noU_all rfl) (fun fr => by kernel_rfl) ?_
        intro fr H
        refine at_nil ?_
        show AW cfg 43 g (right (right (right (right (right (right (bodyC cfg.P 43))))))) fr h20 _
        refine aw_ret (by kernel_rfl) ?_
        obtain ⟨e1, e2⟩ := inj2 hm
        subst e2
        obtain ⟨u0, v0⟩ := Prod.mk.inj e1
        obtain ⟨u1, v1⟩ := Prod.mk.inj v0
        subst u0
        subst u1
        subst v1
        exact (done_ret H (fun fr => by kernel_rfl) rfl : doneQ cfg.P _ _ _ _ fr _)
      · skip
        obtain ⟨e1, e2⟩ := inj2 hm
        subst e2
        obtain ⟨u0, v0⟩ := Prod.mk.inj e1
        obtain ⟨u1, v1⟩ := Prod.mk.inj v0
        subst u0
        subst u1
        subst v1
        exact (done_ret H (fun fr => by kernel_rfl) rfl : doneQ cfg.P _ _ _ _ fr _)
      · exact hF.elim
end Go.Abs.L
