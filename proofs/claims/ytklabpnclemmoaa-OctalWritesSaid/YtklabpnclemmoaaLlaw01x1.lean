/-
  Models of functions of package law01, and that the abstract run tells them. Written by lift.py.
-/
import Derived.Test.YtklabpnclemmoaaLCfg
import Derived.Test.YtklabpnclemmoaaLlaw01
import Derived.Test.YtklabpnclemmoaaLoctal
import Derived.Test.YtklabpnclemmoaaLref01
namespace Go.Abs.L
open Go.Abs
set_option linter.unusedVariables false
/-! ### boulter/boulterlaw01.OctalReads -/
noncomputable def M_boulterlaw01_OctalReads (h : AHeap) (p0 : List UInt8) : Option (Bool) :=
 iteB (decide ((p0.length : Int) > (20 : Int))) ((M_octal_Read h p0).bind fun (x1, x2) => (iteB ((x1 == (0 : Int)) && (x2 == (1 : Int))) ((M_boulterlaw01_awake).bind fun x4 => some x4) (some false) : Option (Bool)).bind fun x3 => some x3) ((M_octal_Read h p0).bind fun (x5, x6) => (M_boulterref01_Read h p0).bind fun (x7, x8) => (iteB ((x5 == x7) && (x6 == x8)) ((M_boulterlaw01_awake).bind fun x10 => some x10) (some false) : Option (Bool)).bind fun x9 => some x9)
theorem ok_boulterlaw01_OctalReads {g : Gd} {h : AHeap} {p0 : List UInt8} {r0 : Bool} (hm : M_boulterlaw01_OctalReads h p0 = some r0) : Runs cfg g h 8 [.str p0] (.bool r0) h := by
  refine runs2E (by kernel_rfl) (by kernel_rfl) (body_ofE (n := 47) (rs := [.tmp 2]) (by kernel_rfl) ?_)
  unfold M_boulterlaw01_OctalReads at hm
  refine start (n := 47) [(0, .str p0)] (by kernel_rfl) (by kernel_rfl) ?_
  intro fr H
  refine aw_seq (by kernel_rfl) ?_
  refine aw_reg (id := 0) (n := 1) [(0, [])] (by kernel_rfl) (by kernel_rfl) ?_
  refine at_seg [(0, [])] [(0, .str p0)] H (noU_all rfl) (fun fr => by kernel_rfl) ?_
  intro fr H
  refine at_nil ?_
  show AW cfg 8 (⟨h.size, []⟩ : Gd) (right (bodyC cfg.P 8)) fr h _
  refine aw_seq (by kernel_rfl) ?_
  refine aw_seq (by kernel_rfl) ?_
  refine aw_reg (id := 1) (n := 3) [(0, []), (1, []), (2, [])] (by kernel_rfl) (by kernel_rfl) ?_
  refine at_seg [(0, []), (1, []), (2, [])] [(0, .str p0), (11, .bool (decide ((p0.length : Int) > (20 : Int))))] H (noU_all rfl) (fun fr => by kernel_rfl) ?_
  intro fr H
  refine at_nil ?_
  show AW cfg 8 (⟨h.size, []⟩ : Gd) (right (left (right (bodyC cfg.P 8)))) fr h _
  rcases iteB_some hm with ⟨hb, hm⟩ | ⟨hb, hm⟩
  · rw [hb] at H
    refine aw_true (x := .tmp 11) (by kernel_rfl) H (fun fr => by kernel_rfl) ?_
    refine aw_seq (by kernel_rfl) ?_
    refine aw_reg (id := 2) (n := 7) [(0, []), (1, []), (2, []), (3, []), (4, []), (5, []), (6, [])] (by kernel_rfl) (by kernel_rfl) ?_
    refine at_seg [(0, [])] [(13, .str p0)] H (noU_all rfl) (fun fr => by kernel_rfl) ?_
    intro fr H
    obtain ⟨⟨x1, x2⟩, hx, hm⟩ := bind_some hm
    refine at_step (v := .tuple [.int .i64 x1, .int .i64 x2]) (h1 := h) [(14, .tuple [.int .i64 x1, .int .i64 x2])] H (fun fr => by kernel_rfl) (fun fr => Steps.call (by kernel_rfl) (ok_octal_Read hx)) ?_
    intro fr t H
    refine at_seg [(2, []), (3, []), (4, []), (5, []), (6, [])] [(3, .int .i64 x1), (4, .int .i64 x2)] H (noU_all rfl) (fun fr => by kernel_rfl) ?_
    intro fr H
    refine at_nil ?_
    show AW cfg 8 (⟨h.size, []⟩ : Gd) (right (left (right (left (right (bodyC cfg.P 8)))))) fr h _
    refine aw_seq (by kernel_rfl) ?_
    refine aw_reg (id := 3) (n := 10) [(0, []), (1, []), (2, []), (3, []), (4, []), (5, []), (6, []), (7, []), (8, []), (9, [])] (by kernel_rfl) (by kernel_rfl) ?_
    refine at_seg [(0, []), (1, []), (2, [])] [(4, .int .i64 x2), (19, .bool (x1 == (0 : Int)))] H (noU_all rfl) (fun fr => by kernel_rfl) ?_
    intro fr H
    refine at_cut [(3, []), (4, []), (5, [])] (fun fr' h' => h = h' ∧ Has fr' 47 [(22, .bool ((x1 == (0 : Int)) && (x2 == (1 : Int))))]) ?_ ?_
    · cases hb : (x1 == (0 : Int) : Bool) with
      | true =>
        rw [hb] at H
        refine at_seg [(3, []), (4, []), (5, [])] [(22, .bool (x2 == (1 : Int)))] H (noU_all rfl) (fun fr => by kernel_rfl) ?_
        intro fr H
        exact at_nil ⟨rfl, by first | exact H.less _ (fun fr => by rfl) | (rw [hb]; exact H.less _ (fun fr => by rfl))⟩
      | false =>
        rw [hb] at H
        refine at_seg [(3, []), (4, []), (5, [])] [(22, .bool false)] H (noU_all rfl) (fun fr => by kernel_rfl) ?_
        intro fr H
        exact at_nil ⟨rfl, by first | exact H.less _ (fun fr => by rfl) | (rw [hb]; exact H.less _ (fun fr => by rfl))⟩
    · intro t fr h' hK
      obtain ⟨e, H⟩ := hK
      subst e
      refine at_seg [(6, [])] [(23, .bool ((x1 == (0 : Int)) && (x2 == (1 : Int))))] H (noU_all rfl) (fun fr => by kernel_rfl) ?_
      intro fr H
      obtain ⟨x3, ho, hm⟩ := bind_some hm
      refine at_cut [(7, []), (8, [])] (fun fr' h' => h = h' ∧ Has fr' 47 [(25, .bool x3)]) ?_ ?_
      · rcases iteB_some ho with ⟨hb, hm⟩ | ⟨hb, hm⟩
        · rw [hb] at H
          obtain ⟨x4, hx, hm⟩ := bind_some hm
          refine at_step (v := .bool x4) (h1 := h) [(23, .bool true), (24, .bool x4)] H (fun fr => by kernel_rfl) (fun fr => Steps.call (by kernel_rfl) (ok_boulterlaw01_awake hx)) ?_
          intro fr t H
          refine at_seg [(8, [])] [(25, .bool x4)] H (noU_all rfl) (fun fr => by kernel_rfl) ?_
          intro fr H
          have e1 := Option.some.inj hm
          subst e1
          exact at_nil ⟨rfl, H.less _ (fun fr => by kernel_rfl)⟩
        · rw [hb] at H
          refine at_seg [(7, []), (8, [])] [(25, .bool false)] H (noU_all rfl) (fun fr => by kernel_rfl) ?_
          intro fr H
          have e1 := Option.some.inj hm
          subst e1
          exact at_nil ⟨rfl, H.less _ (fun fr => by kernel_rfl)⟩
      · intro t fr h' hK
        obtain ⟨e, H⟩ := hK
        subst e
        refine at_seg [(9, [])] [(2, .bool x3)] H (noU_all rfl) (fun fr => by kernel_rfl) ?_
        intro fr H
        refine at_nil ?_
        show AW cfg 8 (⟨h.size, []⟩ : Gd) (right (right (left (right (left (right (bodyC cfg.P 8))))))) fr h _
        refine aw_ret (by kernel_rfl) ?_
        have e1 := Option.some.inj hm
        subst e1
        exact (doneE_of .ret H (fun fr => by kernel_rfl) (.inl rfl) : doneE cfg.P _ _ _ fr _)
  · rw [hb] at H
    refine aw_false (x := .tmp 11) (by kernel_rfl) H (fun fr => by kernel_rfl) ?_
    refine aw_skip (by kernel_rfl) ?_
    show AW cfg 8 (⟨h.size, []⟩ : Gd) (right (right (bodyC cfg.P 8))) fr h _
    refine aw_seq (by kernel_rfl) ?_
    refine aw_reg (id := 4) (n := 7) [(0, []), (1, []), (2, []), (3, []), (4, []), (5, []), (6, [])] (by kernel_rfl) (by kernel_rfl) ?_
    refine at_seg [(0, [])] [(0, .str p0), (27, .str p0)] H (noU_all rfl) (fun fr => by kernel_rfl) ?_
    intro fr H
    obtain ⟨⟨x5, x6⟩, hx, hm⟩ := bind_some hm
    refine at_step (v := .tuple [.int .i64 x5, .int .i64 x6]) (h1 := h) [(0, .str p0), (28, .tuple [.int .i64 x5, .int .i64 x6])] H (fun fr => by kernel_rfl) (fun fr => Steps.call (by kernel_rfl) (ok_octal_Read hx)) ?_
    intro fr t H
    refine at_seg [(2, []), (3, []), (4, []), (5, []), (6, [])] [(0, .str p0), (5, .int .i64 x5), (6, .int .i64 x6)] H (noU_all rfl) (fun fr => by kernel_rfl) ?_
    intro fr H
    refine at_nil ?_
    show AW cfg 8 (⟨h.size, []⟩ : Gd) (right (right (right (bodyC cfg.P 8)))) fr h _
    refine aw_seq (by kernel_rfl) ?_
    refine aw_reg (id := 5) (n := 7) [(0, []), (1, []), (2, []), (3, []), (4, []), (5, []), (6, [])] (by kernel_rfl) (by kernel_rfl) ?_
    refine at_seg [(0, [])] [(5, .int .i64 x5), (6, .int .i64 x6), (32, .str p0)] H (noU_all rfl) (fun fr => by kernel_rfl) ?_
    intro fr H
    obtain ⟨⟨x7, x8⟩, hx, hm⟩ := bind_some hm
    refine at_step (v := .tuple [.int .i64 x7, .int .i64 x8]) (h1 := h) [(5, .int .i64 x5), (6, .int .i64 x6), (33, .tuple [.int .i64 x7, .int .i64 x8])] H (fun fr => by kernel_rfl) (fun fr => Steps.call (by kernel_rfl) (ok_boulterref01_Read hx)) ?_
    intro fr t H
    refine at_seg [(2, []), (3, []), (4, []), (5, []), (6, [])] [(5, .int .i64 x5), (6, .int .i64 x6), (7, .int .i64 x7), (8, .int .i64 x8)] H (noU_all rfl) (fun fr => by kernel_rfl) ?_
    intro fr H
    refine at_nil ?_
    show AW cfg 8 (⟨h.size, []⟩ : Gd) (right (right (right (right (bodyC cfg.P 8))))) fr h _
    refine aw_seq (by kernel_rfl) ?_
    refine aw_reg (id := 6) (n := 12) [(0, []), (1, []), (2, []), (3, []), (4, []), (5, []), (6, []), (7, []), (8, []), (9, []), (10, []), (11, [])] (by kernel_rfl) (by kernel_rfl) ?_
    refine at_seg [(0, []), (1, []), (2, []), (3, [])] [(6, .int .i64 x6), (8, .int .i64 x8), (39, .bool (x5 == x7))] H (noU_all rfl) (fun fr => by kernel_rfl) ?_
    intro fr H
    refine at_cut [(4, []), (5, []), (6, []), (7, [])] (fun fr' h' => h = h' ∧ Has fr' 47 [(43, .bool ((x5 == x7) && (x6 == x8)))]) ?_ ?_
    · cases hb : (x5 == x7 : Bool) with
      | true =>
        rw [hb] at H
        refine at_seg [(4, []), (5, []), (6, []), (7, [])] [(43, .bool (x6 == x8))] H (noU_all rfl) (fun fr => by kernel_rfl) ?_
        intro fr H
        exact at_nil ⟨rfl, by first | exact H.less _ (fun fr => by rfl) | (rw [hb]; exact H.less _ (fun fr => by rfl))⟩
      | false =>
        rw [hb] at H
        refine at_seg [(4, []), (5, []), (6, []), (7, [])] [(43, .bool false)] H (noU_all rfl) (fun fr => by kernel_rfl) ?_
        intro fr H
        exact at_nil ⟨rfl, by first | exact H.less _ (fun fr => by rfl) | (rw [hb]; exact H.less _ (fun fr => by rfl))⟩
    · intro t fr h' hK
      obtain ⟨e, H⟩ := hK
      subst e
      refine at_seg [(8, [])] [(44, .bool ((x5 == x7) && (x6 == x8)))] H (noU_all rfl) (fun fr => by kernel_rfl) ?_
      intro fr H
      obtain ⟨x9, ho, hm⟩ := bind_some hm
      refine at_cut [(9, []), (10, [])] (fun fr' h' => h = h' ∧ Has fr' 47 [(46, .bool x9)]) ?_ ?_
      · rcases iteB_some ho with ⟨hb, hm⟩ | ⟨hb, hm⟩
        · rw [hb] at H
          obtain ⟨x10, hx, hm⟩ := bind_some hm
          refine at_step (v := .bool x10) (h1 := h) [(44, .bool true), (45, .bool x10)] H (fun fr => by kernel_rfl) (fun fr => Steps.call (by kernel_rfl) (ok_boulterlaw01_awake hx)) ?_
          intro fr t H
          refine at_seg [(10, [])] [(46, .bool x10)] H (noU_all rfl) (fun fr => by kernel_rfl) ?_
          intro fr H
          have e1 := Option.some.inj hm
          subst e1
          exact at_nil ⟨rfl, H.less _ (fun fr => by kernel_rfl)⟩
        · rw [hb] at H
          refine at_seg [(9, []), (10, [])] [(46, .bool false)] H (noU_all rfl) (fun fr => by kernel_rfl) ?_
          intro fr H
          have e1 := Option.some.inj hm
          subst e1
          exact at_nil ⟨rfl, H.less _ (fun fr => by kernel_rfl)⟩
      · intro t fr h' hK
        obtain ⟨e, H⟩ := hK
        subst e
        refine at_seg [(11, [])] [(2, .bool x9)] H (noU_all rfl) (fun fr => by kernel_rfl) ?_
        intro fr H
        refine at_nil ?_
        show AW cfg 8 (⟨h.size, []⟩ : Gd) (right (right (right (right (right (bodyC cfg.P 8)))))) fr h _
        refine aw_ret (by kernel_rfl) ?_
        have e1 := Option.some.inj hm
        subst e1
        exact (doneE_of .ret H (fun fr => by kernel_rfl) (.inl rfl) : doneE cfg.P _ _ _ fr _)
/-! ### boulter/boulterlaw01.OctalWrites -/
noncomputable def M_boulterlaw01_OctalWrites (h : AHeap) (p0 : Int) (p1 : Int) : Option (Bool) :=
 (M_octal_Write h p0 p1).bind fun (x1, x2) => (M_boulterref01_Write h p0 p1).bind fun (x3, x4) => iteB ((!(x1 == x3)) || (x2 != x4)) (some false) (iteB (x4 != (0 : Int)) ((M_boulterlaw01_awake).bind fun x5 => some x5) ((M_octal_Read h x1).bind fun (x6, x7) => (iteB ((((x1.length : Int) == p1) && (x7 == (0 : Int))) && (x6 == p0)) ((M_boulterlaw01_awake).bind fun x9 => some x9) (some false) : Option (Bool)).bind fun x8 => some x8))
theorem ok_boulterlaw01_OctalWrites {g : Gd} {h : AHeap} {p0 : Int} {p1 : Int} {r0 : Bool} (hm : M_boulterlaw01_OctalWrites h p0 p1 = some r0) : Runs cfg g h 9 [.int .i64 p0, .int .i64 p1] (.bool r0) h := by
  refine runs2E (by kernel_rfl) (by kernel_rfl) (body_ofE (n := 55) (rs := [.tmp 4]) (by kernel_rfl) ?_)
  unfold M_boulterlaw01_OctalWrites at hm
  refine start (n := 55) [(0, .int .i64 p0), (1, .int .i64 p1)] (by kernel_rfl) (by kernel_rfl) ?_
  intro fr H
  refine aw_seq (by kernel_rfl) ?_
  refine aw_reg (id := 0) (n := 1) [(0, [])] (by kernel_rfl) (by kernel_rfl) ?_
  refine at_seg [(0, [])] [(0, .int .i64 p0), (1, .int .i64 p1)] H (noU_all rfl) (fun fr => by kernel_rfl) ?_
  intro fr H
  refine at_nil ?_
  show AW cfg 9 (⟨h.size, []⟩ : Gd) (right (bodyC cfg.P 9)) fr h _
  refine aw_seq (by kernel_rfl) ?_
  refine aw_reg (id := 1) (n := 8) [(0, []), (1, []), (2, []), (3, []), (4, []), (5, []), (6, []), (7, [])] (by kernel_rfl) (by kernel_rfl) ?_
  refine at_seg [(0, []), (1, [])] [(0, .int .i64 p0), (1, .int .i64 p1), (12, .int .i64 p0), (13, .int .i64 p1)] H (noU_all rfl) (fun fr => by kernel_rfl) ?_
  intro fr H
  obtain ⟨⟨x1, x2⟩, hx, hm⟩ := bind_some hm
  refine at_step (v := .tuple [.str x1, .int .i64 x2]) (h1 := h) [(0, .int .i64 p0), (1, .int .i64 p1), (14, .tuple [.str x1, .int .i64 x2])] H (fun fr => by kernel_rfl) (fun fr => Steps.call (by kernel_rfl) (ok_octal_Write hx)) ?_
  intro fr t H
  refine at_seg [(3, []), (4, []), (5, []), (6, []), (7, [])] [(0, .int .i64 p0), (1, .int .i64 p1), (5, .str x1), (6, .int .i64 x2)] H (noU_all rfl) (fun fr => by kernel_rfl) ?_
  intro fr H
  refine at_nil ?_
  show AW cfg 9 (⟨h.size, []⟩ : Gd) (right (right (bodyC cfg.P 9))) fr h _
  refine aw_seq (by kernel_rfl) ?_
  refine aw_reg (id := 2) (n := 8) [(0, []), (1, []), (2, []), (3, []), (4, []), (5, []), (6, []), (7, [])] (by kernel_rfl) (by kernel_rfl) ?_
  refine at_seg [(0, []), (1, [])] [(0, .int .i64 p0), (1, .int .i64 p1), (5, .str x1), (6, .int .i64 x2), (18, .int .i64 p0), (19, .int .i64 p1)] H (noU_all rfl) (fun fr => by kernel_rfl) ?_
  intro fr H
  obtain ⟨⟨x3, x4⟩, hx, hm⟩ := bind_some hm
  refine at_step (v := .tuple [.str x3, .int .i64 x4]) (h1 := h) [(0, .int .i64 p0), (1, .int .i64 p1), (5, .str x1), (6, .int .i64 x2), (20, .tuple [.str x3, .int .i64 x4])] H (fun fr => by kernel_rfl) (fun fr => Steps.call (by kernel_rfl) (ok_boulterref01_Write hx)) ?_
  intro fr t H
  refine at_seg [(3, []), (4, []), (5, []), (6, []), (7, [])] [(0, .int .i64 p0), (1, .int .i64 p1), (5, .str x1), (6, .int .i64 x2), (7, .str x3), (8, .int .i64 x4)] H (noU_all rfl) (fun fr => by kernel_rfl) ?_
  intro fr H
  refine at_nil ?_
  show AW cfg 9 (⟨h.size, []⟩ : Gd) (right (right (right (bodyC cfg.P 9)))) fr h _
  refine aw_seq (by kernel_rfl) ?_
  refine aw_seq (by kernel_rfl) ?_
  refine aw_reg (id := 3) (n := 8) [(0, []), (1, []), (2, []), (3, []), (4, []), (5, []), (6, []), (7, [])] (by kernel_rfl) (by kernel_rfl) ?_
  refine at_seg [(0, []), (1, []), (2, []), (3, [])] [(0, .int .i64 p0), (1, .int .i64 p1), (5, .str x1), (6, .int .i64 x2), (8, .int .i64 x4), (26, .bool (!(x1 == x3)))] H (noU_all rfl) (fun fr => by kernel_rfl) ?_
  intro fr H
  refine at_cut [(4, []), (5, []), (6, []), (7, [])] (fun fr' h' => h = h' ∧ Has fr' 55 [(0, .int .i64 p0), (1, .int .i64 p1), (5, .str x1), (8, .int .i64 x4), (30, .bool ((!(x1 == x3)) || (x2 != x4)))]) ?_ ?_
  · cases hb : (!(x1 == x3) : Bool) with
    | true =>
      rw [hb] at H
      refine at_seg [(4, []), (5, []), (6, []), (7, [])] [(0, .int .i64 p0), (1, .int .i64 p1), (5, .str x1), (8, .int .i64 x4), (30, .bool true)] H (noU_all rfl) (fun fr => by kernel_rfl) ?_
      intro fr H
      exact at_nil ⟨rfl, by first | exact H.less _ (fun fr => by rfl) | (rw [hb]; exact H.less _ (fun fr => by rfl))⟩
    | false =>
      rw [hb] at H
      refine at_seg [(4, []), (5, []), (6, []), (7, [])] [(0, .int .i64 p0), (1, .int .i64 p1), (5, .str x1), (8, .int .i64 x4), (30, .bool (x2 != x4))] H (noU_all rfl) (fun fr => by kernel_rfl) ?_
      intro fr H
      exact at_nil ⟨rfl, by first | exact H.less _ (fun fr => by rfl) | (rw [hb]; exact H.less _ (fun fr => by rfl))⟩
  · intro t fr h' hK
    obtain ⟨e, H⟩ := hK
    subst e
    refine at_nil ?_
    show AW cfg 9 (⟨h.size, []⟩ : Gd) (right (left (right (right (right (bodyC cfg.P 9)))))) fr h _
    rcases iteB_some hm with ⟨hb, hm⟩ | ⟨hb, hm⟩
    · rw [hb] at H
      refine aw_true (x := .tmp 30) (by kernel_rfl) H (fun fr => by kernel_rfl) ?_
      refine aw_seq (by kernel_rfl) ?_
      refine aw_reg (id := 4) (n := 1) [(0, [])] (by kernel_rfl) (by kernel_rfl) ?_
      refine at_seg [(0, [])] [(4, .bool false)] H (noU_all rfl) (fun fr => by kernel_rfl) ?_
      intro fr H
      refine at_nil ?_
      show AW cfg 9 (⟨h.size, []⟩ : Gd) (right (left (right (left (right (right (right (bodyC cfg.P 9)))))))) fr h _
      refine aw_ret (by kernel_rfl) ?_
      have e1 := Option.some.inj hm
      subst e1
      exact (doneE_of .ret H (fun fr => by kernel_rfl) (.inl rfl) : doneE cfg.P _ _ _ fr _)
    · rw [hb] at H
      refine aw_false (x := .tmp 30) (by kernel_rfl) H (fun fr => by kernel_rfl) ?_
      refine aw_skip (by kernel_rfl) ?_
      show AW cfg 9 (⟨h.size, []⟩ : Gd) (right (right (right (right (bodyC cfg.P 9))))) fr h _
      refine aw_seq (by kernel_rfl) ?_
      refine aw_seq (by kernel_rfl) ?_
      refine aw_reg (id := 5) (n := 2) [(0, []), (1, [])] (by kernel_rfl) (by kernel_rfl) ?_
      refine at_seg [(0, []), (1, [])] [(0, .int .i64 p0), (1, .int .i64 p1), (5, .str x1), (32, .bool (x4 != (0 : Int)))] H (noU_all rfl) (fun fr => by kernel_rfl) ?_
      intro fr H
      refine at_nil ?_
      show AW cfg 9 (⟨h.size, []⟩ : Gd) (right (left (right (right (right (right (bodyC cfg.P 9))))))) fr h _
      rcases iteB_some hm with ⟨hb, hm⟩ | ⟨hb, hm⟩
      · rw [hb] at H
        refine aw_true (x := .tmp 32) (by kernel_rfl) H (fun fr => by kernel_rfl) ?_
        refine aw_seq (by kernel_rfl) ?_
        refine aw_reg (id := 6) (n := 2) [(0, []), (1, [])] (by kernel_rfl) (by kernel_rfl) ?_
        obtain ⟨x5, hx, hm⟩ := bind_some hm
        refine at_step (v := .bool x5) (h1 := h) [(33, .bool x5)] H (fun fr => by kernel_rfl) (fun fr => Steps.call (by kernel_rfl) (ok_boulterlaw01_awake hx)) ?_
        intro fr t H
        refine at_seg [(1, [])] [(4, .bool x5)] H (noU_all rfl) (fun fr => by kernel_rfl) ?_
        intro fr H
        refine at_nil ?_
        show AW cfg 9 (⟨h.size, []⟩ : Gd) (right (left (right (left (right (right (right (right (bodyC cfg.P 9))))))))) fr h _
        refine aw_ret (by kernel_rfl) ?_
        have e1 := Option.some.inj hm
        subst e1
        exact (doneE_of .ret H (fun fr => by kernel_rfl) (.inl rfl) : doneE cfg.P _ _ _ fr _)
      · rw [hb] at H
        refine aw_false (x := .tmp 32) (by kernel_rfl) H (fun fr => by kernel_rfl) ?_
        refine aw_skip (by kernel_rfl) ?_
        show AW cfg 9 (⟨h.size, []⟩ : Gd) (right (right (right (right (right (bodyC cfg.P 9)))))) fr h _
        refine aw_seq (by kernel_rfl) ?_
        refine aw_reg (id := 7) (n := 7) [(0, []), (1, []), (2, []), (3, []), (4, []), (5, []), (6, [])] (by kernel_rfl) (by kernel_rfl) ?_
        refine at_seg [(0, [])] [(0, .int .i64 p0), (1, .int .i64 p1), (5, .str x1), (35, .str x1)] H (noU_all rfl) (fun fr => by kernel_rfl) ?_
        intro fr H
        obtain ⟨⟨x6, x7⟩, hx, hm⟩ := bind_some hm
        refine at_step (v := .tuple [.int .i64 x6, .int .i64 x7]) (h1 := h) [(0, .int .i64 p0), (1, .int .i64 p1), (5, .str x1), (36, .tuple [.int .i64 x6, .int .i64 x7])] H (fun fr => by kernel_rfl) (fun fr => Steps.call (by kernel_rfl) (ok_octal_Read hx)) ?_
        intro fr t H
        refine at_seg [(2, []), (3, []), (4, []), (5, []), (6, [])] [(0, .int .i64 p0), (1, .int .i64 p1), (5, .str x1), (9, .int .i64 x6), (10, .int .i64 x7)] H (noU_all rfl) (fun fr => by kernel_rfl) ?_
        intro fr H
        refine at_nil ?_
        show AW cfg 9 (⟨h.size, []⟩ : Gd) (right (right (right (right (right (right (bodyC cfg.P 9))))))) fr h _
        refine aw_seq (by kernel_rfl) ?_
        refine aw_reg (id := 8) (n := 17) [(0, []), (1, []), (2, []), (3, []), (4, []), (5, []), (6, []), (7, []), (8, []), (9, []), (10, []), (11, []), (12, []), (13, []), (14, []), (15, []), (16, [])] (by kernel_rfl) (by kernel_rfl) ?_
        refine at_seg [(0, []), (1, []), (2, []), (3, []), (4, [])] [(0, .int .i64 p0), (9, .int .i64 x6), (10, .int .i64 x7), (43, .bool ((x1.length : Int) == p1))] H (noU_all rfl) (fun fr => by kernel_rfl) ?_
        intro fr H
        refine at_cut [(5, []), (6, []), (7, [])] (fun fr' h' => h = h' ∧ Has fr' 55 [(0, .int .i64 p0), (9, .int .i64 x6), (46, .bool (((x1.length : Int) == p1) && (x7 == (0 : Int))))]) ?_ ?_
        · cases hb : ((x1.length : Int) == p1 : Bool) with
          | true =>
            rw [hb] at H
            refine at_seg [(5, []), (6, []), (7, [])] [(0, .int .i64 p0), (9, .int .i64 x6), (46, .bool (x7 == (0 : Int)))] H (noU_all rfl) (fun fr => by kernel_rfl) ?_
            intro fr H
            exact at_nil ⟨rfl, by first | exact H.less _ (fun fr => by rfl) | (rw [hb]; exact H.less _ (fun fr => by rfl))⟩
          | false =>
            rw [hb] at H
            refine at_seg [(5, []), (6, []), (7, [])] [(0, .int .i64 p0), (9, .int .i64 x6), (46, .bool false)] H (noU_all rfl) (fun fr => by kernel_rfl) ?_
            intro fr H
            exact at_nil ⟨rfl, by first | exact H.less _ (fun fr => by rfl) | (rw [hb]; exact H.less _ (fun fr => by rfl))⟩
        · intro t fr h' hK
          obtain ⟨e, H⟩ := hK
          subst e
          refine at_seg [(8, [])] [(0, .int .i64 p0), (9, .int .i64 x6), (47, .bool (((x1.length : Int) == p1) && (x7 == (0 : Int))))] H (noU_all rfl) (fun fr => by kernel_rfl) ?_
          intro fr H
          refine at_cut [(9, []), (10, []), (11, []), (12, [])] (fun fr' h' => h = h' ∧ Has fr' 55 [(51, .bool ((((x1.length : Int) == p1) && (x7 == (0 : Int))) && (x6 == p0)))]) ?_ ?_
          · cases hb : (((x1.length : Int) == p1) && (x7 == (0 : Int)) : Bool) with
            | true =>
              rw [hb] at H
              refine at_seg [(9, []), (10, []), (11, []), (12, [])] [(51, .bool (x6 == p0))] H (noU_all rfl) (fun fr => by kernel_rfl) ?_
              intro fr H
              exact at_nil ⟨rfl, by first | exact H.less _ (fun fr => by rfl) | (rw [hb]; exact H.less _ (fun fr => by rfl))⟩
            | false =>
              rw [hb] at H
              refine at_seg [(9, []), (10, []), (11, []), (12, [])] [(51, .bool false)] H (noU_all rfl) (fun fr => by kernel_rfl) ?_
              intro fr H
              exact at_nil ⟨rfl, by first | exact H.less _ (fun fr => by rfl) | (rw [hb]; exact H.less _ (fun fr => by rfl))⟩
          · intro t fr h' hK
            obtain ⟨e, H⟩ := hK
            subst e
            refine at_seg [(13, [])] [(52, .bool ((((x1.length : Int) == p1) && (x7 == (0 : Int))) && (x6 == p0)))] H (noU_all rfl) (fun fr => by kernel_rfl) ?_
            intro fr H
            obtain ⟨x8, ho, hm⟩ := bind_some hm
            refine at_cut [(14, []), (15, [])] (fun fr' h' => h = h' ∧ Has fr' 55 [(54, .bool x8)]) ?_ ?_
            · rcases iteB_some ho with ⟨hb, hm⟩ | ⟨hb, hm⟩
              · rw [hb] at H
                obtain ⟨x9, hx, hm⟩ := bind_some hm
                refine at_step (v := .bool x9) (h1 := h) [(52, .bool true), (53, .bool x9)] H (fun fr => by kernel_rfl) (fun fr => Steps.call (by kernel_rfl) (ok_boulterlaw01_awake hx)) ?_
                intro fr t H
                refine at_seg [(15, [])] [(54, .bool x9)] H (noU_all rfl) (fun fr => by kernel_rfl) ?_
                intro fr H
                have e1 := Option.some.inj hm
                subst e1
                exact at_nil ⟨rfl, H.less _ (fun fr => by kernel_rfl)⟩
              · rw [hb] at H
                refine at_seg [(14, []), (15, [])] [(54, .bool false)] H (noU_all rfl) (fun fr => by kernel_rfl) ?_
                intro fr H
                have e1 := Option.some.inj hm
                subst e1
                exact at_nil ⟨rfl, H.less _ (fun fr => by kernel_rfl)⟩
            · intro t fr h' hK
              obtain ⟨e, H⟩ := hK
              subst e
              refine at_seg [(16, [])] [(4, .bool x8)] H (noU_all rfl) (fun fr => by kernel_rfl) ?_
              intro fr H
              refine at_nil ?_
              show AW cfg 9 (⟨h.size, []⟩ : Gd) (right (right (right (right (right (right (right (bodyC cfg.P 9)))))))) fr h _
              refine aw_ret (by kernel_rfl) ?_
              have e1 := Option.some.inj hm
              subst e1
              exact (doneE_of .ret H (fun fr => by kernel_rfl) (.inl rfl) : doneE cfg.P _ _ _ fr _)
/-! ### boulter/boulterlaw01.OctalForms -/
noncomputable def M_boulterlaw01_OctalForms (h : AHeap) (p0 : Int) (p1 : Int) : Option (Bool) :=
 (M_octal_Octal h p0 p1).bind fun (x1, x2) => (M_boulterref01_Octal h p0 p1).bind fun (x3, x4) => iteB ((!(x1 == x3)) || (!(x2 == x4))) (some false) (iteB ((decide (p0 > (9007199254740991 : Int))) || (decide (p0 < (-9007199254740991 : Int)))) ((M_boulterlaw01_awake).bind fun x5 => some x5) ((M_octal_Binary h p0 p1).bind fun (x6, x7) => (M_boulterref01_Binary h p0 p1).bind fun (x8, x9) => iteB ((!(x6 == x8)) || (!(x7 == x9))) (some false) (iteB (x2 && x7) ((M_octal_Read h x1).bind fun (x10, x11) => (M_octal_Read h x6).bind fun (x12, x13) => (iteB ((((x11 == (0 : Int)) && (x13 == (0 : Int))) && (x10 == p0)) && (x12 == p0)) ((M_boulterlaw01_awake).bind fun x15 => some x15) (some false) : Option (Bool)).bind fun x14 => some x14) ((M_boulterlaw01_awake).bind fun x16 => some x16))))
theorem ok_boulterlaw01_OctalForms {g : Gd} {h : AHeap} {p0 : Int} {p1 : Int} {r0 : Bool} (hm : M_boulterlaw01_OctalForms h p0 p1 = some r0) : Runs cfg g h 10 [.int .i64 p0, .int .i64 p1] (.bool r0) h := by
  refine runs2E (by kernel_rfl) (by kernel_rfl) (body_ofE (n := 98) (rs := [.tmp 4]) (by kernel_rfl) ?_)
  unfold M_boulterlaw01_OctalForms at hm
  refine start (n := 98) [(0, .int .i64 p0), (1, .int .i64 p1)] (by kernel_rfl) (by kernel_rfl) ?_
  intro fr H
  refine aw_seq (by kernel_rfl) ?_
  refine aw_reg (id := 0) (n := 1) [(0, [])] (by kernel_rfl) (by kernel_rfl) ?_
  refine at_seg [(0, [])] [(0, .int .i64 p0), (1, .int .i64 p1)] H (noU_all rfl) (fun fr => by kernel_rfl) ?_
  intro fr H
  refine at_nil ?_
  show AW cfg 10 (⟨h.size, []⟩ : Gd) (right (bodyC cfg.P 10)) fr h _
  refine aw_seq (by kernel_rfl) ?_
  refine aw_reg (id := 1) (n := 8) [(0, []), (1, []), (2, []), (3, []), (4, []), (5, []), (6, []), (7, [])] (by kernel_rfl) (by kernel_rfl) ?_
  refine at_seg [(0, []), (1, [])] [(0, .int .i64 p0), (1, .int .i64 p1), (18, .int .i64 p0), (19, .int .i64 p1)] H (noU_all rfl) (fun fr => by kernel_rfl) ?_
  intro fr H
  obtain ⟨⟨x1, x2⟩, hx, hm⟩ := bind_some hm
  refine at_step (v := .tuple [.str x1, .bool x2]) (h1 := h) [(0, .int .i64 p0), (1, .int .i64 p1), (20, .tuple [.str x1, .bool x2])] H (fun fr => by kernel_rfl) (fun fr => Steps.call (by kernel_rfl) (ok_octal_Octal hx)) ?_
  intro fr t H
  refine at_seg [(3, []), (4, []), (5, []), (6, []), (7, [])] [(0, .int .i64 p0), (1, .int .i64 p1), (5, .str x1), (6, .bool x2)] H (noU_all rfl) (fun fr => by kernel_rfl) ?_
  intro fr H
  refine at_nil ?_
  show AW cfg 10 (⟨h.size, []⟩ : Gd) (right (right (bodyC cfg.P 10))) fr h _
  refine aw_seq (by kernel_rfl) ?_
  refine aw_reg (id := 2) (n := 8) [(0, []), (1, []), (2, []), (3, []), (4, []), (5, []), (6, []), (7, [])] (by kernel_rfl) (by kernel_rfl) ?_
  refine at_seg [(0, []), (1, [])] [(0, .int .i64 p0), (1, .int .i64 p1), (5, .str x1), (6, .bool x2), (24, .int .i64 p0), (25, .int .i64 p1)] H (noU_all rfl) (fun fr => by kernel_rfl) ?_
  intro fr H
  obtain ⟨⟨x3, x4⟩, hx, hm⟩ := bind_some hm
  refine at_step (v := .tuple [.str x3, .bool x4]) (h1 := h) [(0, .int .i64 p0), (1, .int .i64 p1), (5, .str x1), (6, .bool x2), (26, .tuple [.str x3, .bool x4])] H (fun fr => by kernel_rfl) (fun fr => Steps.call (by kernel_rfl) (ok_boulterref01_Octal hx)) ?_
  intro fr t H
  refine at_seg [(3, []), (4, []), (5, []), (6, []), (7, [])] [(0, .int .i64 p0), (1, .int .i64 p1), (5, .str x1), (6, .bool x2), (7, .str x3), (8, .bool x4)] H (noU_all rfl) (fun fr => by kernel_rfl) ?_
  intro fr H
  refine at_nil ?_
  show AW cfg 10 (⟨h.size, []⟩ : Gd) (right (right (right (bodyC cfg.P 10)))) fr h _
  refine aw_seq (by kernel_rfl) ?_
  refine aw_seq (by kernel_rfl) ?_
  refine aw_reg (id := 3) (n := 8) [(0, []), (1, []), (2, []), (3, []), (4, []), (5, []), (6, []), (7, [])] (by kernel_rfl) (by kernel_rfl) ?_
  refine at_seg [(0, []), (1, []), (2, []), (3, [])] [(0, .int .i64 p0), (1, .int .i64 p1), (5, .str x1), (6, .bool x2), (8, .bool x4), (32, .bool (!(x1 == x3)))] H (noU_all rfl) (fun fr => by kernel_rfl) ?_
  intro fr H
  refine at_cut [(4, []), (5, []), (6, []), (7, [])] (fun fr' h' => h = h' ∧ Has fr' 98 [(0, .int .i64 p0), (1, .int .i64 p1), (5, .str x1), (6, .bool x2), (36, .bool ((!(x1 == x3)) || (!(x2 == x4))))]) ?_ ?_
  · cases hb : (!(x1 == x3) : Bool) with
    | true =>
      rw [hb] at H
      refine at_seg [(4, []), (5, []), (6, []), (7, [])] [(0, .int .i64 p0), (1, .int .i64 p1), (5, .str x1), (6, .bool x2), (36, .bool true)] H (noU_all rfl) (fun fr => by kernel_rfl) ?_
      intro fr H
      exact at_nil ⟨rfl, by first | exact H.less _ (fun fr => by rfl) | (rw [hb]; exact H.less _ (fun fr => by rfl))⟩
    | false =>
      rw [hb] at H
      refine at_seg [(4, []), (5, []), (6, []), (7, [])] [(0, .int .i64 p0), (1, .int .i64 p1), (5, .str x1), (6, .bool x2), (36, .bool (!(x2 == x4)))] H (noU_all rfl) (fun fr => by kernel_rfl) ?_
      intro fr H
      exact at_nil ⟨rfl, by first | exact H.less _ (fun fr => by rfl) | (rw [hb]; exact H.less _ (fun fr => by rfl))⟩
  · intro t fr h' hK
    obtain ⟨e, H⟩ := hK
    subst e
    refine at_nil ?_
    show AW cfg 10 (⟨h.size, []⟩ : Gd) (right (left (right (right (right (bodyC cfg.P 10)))))) fr h _
    rcases iteB_some hm with ⟨hb, hm⟩ | ⟨hb, hm⟩
    · rw [hb] at H
      refine aw_true (x := .tmp 36) (by kernel_rfl) H (fun fr => by kernel_rfl) ?_
      refine aw_seq (by kernel_rfl) ?_
      refine aw_reg (id := 4) (n := 1) [(0, [])] (by kernel_rfl) (by kernel_rfl) ?_
      refine at_seg [(0, [])] [(4, .bool false)] H (noU_all rfl) (fun fr => by kernel_rfl) ?_
      intro fr H
      refine at_nil ?_
      show AW cfg 10 (⟨h.size, []⟩ : Gd) (right (left (right (left (right (right (right (bodyC cfg.P 10)))))))) fr h _
      refine aw_ret (by kernel_rfl) ?_
      have e1 := Option.some.inj hm
      subst e1
      exact (doneE_of .ret H (fun fr => by kernel_rfl) (.inl rfl) : doneE cfg.P _ _ _ fr _)
    · rw [hb] at H
      refine aw_false (x := .tmp 36) (by kernel_rfl) H (fun fr => by kernel_rfl) ?_
      refine aw_skip (by kernel_rfl) ?_
      show AW cfg 10 (⟨h.size, []⟩ : Gd) (right (right (right (right (bodyC cfg.P 10))))) fr h _
      refine aw_seq (by kernel_rfl) ?_
      refine aw_seq (by kernel_rfl) ?_
      refine aw_reg (id := 5) (n := 6) [(0, []), (1, []), (2, []), (3, []), (4, []), (5, [])] (by kernel_rfl) (by kernel_rfl) ?_
      refine at_seg [(0, []), (1, []), (2, [])] [(0, .int .i64 p0), (1, .int .i64 p1), (5, .str x1), (6, .bool x2), (39, .bool (decide (p0 > (9007199254740991 : Int))))] H (noU_all rfl) (fun fr => by kernel_rfl) ?_
      intro fr H
      refine at_cut [(3, []), (4, []), (5, [])] (fun fr' h' => h = h' ∧ Has fr' 98 [(0, .int .i64 p0), (1, .int .i64 p1), (5, .str x1), (6, .bool x2), (42, .bool ((decide (p0 > (9007199254740991 : Int))) || (decide (p0 < (-9007199254740991 : Int)))))]) ?_ ?_
      · cases hb : (decide (p0 > (9007199254740991 : Int)) : Bool) with
        | true =>
          rw [hb] at H
          refine at_seg [(3, []), (4, []), (5, [])] [(0, .int .i64 p0), (1, .int .i64 p1), (5, .str x1), (6, .bool x2), (42, .bool true)] H (noU_all rfl) (fun fr => by kernel_rfl) ?_
          intro fr H
          exact at_nil ⟨rfl, by first | exact H.less _ (fun fr => by rfl) | (rw [hb]; exact H.less _ (fun fr => by rfl))⟩
        | false =>
          rw [hb] at H
          refine at_seg [(3, []), (4, []), (5, [])] [(0, .int .i64 p0), (1, .int .i64 p1), (5, .str x1), (6, .bool x2), (42, .bool (decide (p0 < (-9007199254740991 : Int))))] H (noU_all rfl) (fun fr => by kernel_rfl) ?_
          intro fr H
          exact at_nil ⟨rfl, by first | exact H.less _ (fun fr => by rfl) | (rw [hb]; exact H.less _ (fun fr => by rfl))⟩
      · intro t fr h' hK
        obtain ⟨e, H⟩ := hK
        subst e
        refine at_nil ?_
        show AW cfg 10 (⟨h.size, []⟩ : Gd) (right (left (right (right (right (right (bodyC cfg.P 10))))))) fr h _
        rcases iteB_some hm with ⟨hb, hm⟩ | ⟨hb, hm⟩
        · rw [hb] at H
          refine aw_true (x := .tmp 42) (by kernel_rfl) H (fun fr => by kernel_rfl) ?_
          refine aw_seq (by kernel_rfl) ?_
          refine aw_reg (id := 6) (n := 2) [(0, []), (1, [])] (by kernel_rfl) (by kernel_rfl) ?_
          obtain ⟨x5, hx, hm⟩ := bind_some hm
          refine at_step (v := .bool x5) (h1 := h) [(43, .bool x5)] H (fun fr => by kernel_rfl) (fun fr => Steps.call (by kernel_rfl) (ok_boulterlaw01_awake hx)) ?_
          intro fr t H
          refine at_seg [(1, [])] [(4, .bool x5)] H (noU_all rfl) (fun fr => by kernel_rfl) ?_
          intro fr H
          refine at_nil ?_
          show AW cfg 10 (⟨h.size, []⟩ : Gd) (right (left (right (left (right (right (right (right (bodyC cfg.P 10))))))))) fr h _
          refine aw_ret (by kernel_rfl) ?_
          have e1 := Option.some.inj hm
          subst e1
          exact (doneE_of .ret H (fun fr => by kernel_rfl) (.inl rfl) : doneE cfg.P _ _ _ fr _)
        · rw [hb] at H
          refine aw_false (x := .tmp 42) (by kernel_rfl) H (fun fr => by kernel_rfl) ?_
          refine aw_skip (by kernel_rfl) ?_
          show AW cfg 10 (⟨h.size, []⟩ : Gd) (right (right (right (right (right (bodyC cfg.P 10)))))) fr h _
          refine aw_seq (by kernel_rfl) ?_
          refine aw_reg (id := 7) (n := 8) [(0, []), (1, []), (2, []), (3, []), (4, []), (5, []), (6, []), (7, [])] (by kernel_rfl) (by kernel_rfl) ?_
          refine at_seg [(0, []), (1, [])] [(0, .int .i64 p0), (1, .int .i64 p1), (5, .str x1), (6, .bool x2), (45, .int .i64 p0), (46, .int .i64 p1)] H (noU_all rfl) (fun fr => by kernel_rfl) ?_
          intro fr H
          obtain ⟨⟨x6, x7⟩, hx, hm⟩ := bind_some hm
          refine at_step (v := .tuple [.str x6, .bool x7]) (h1 := h) [(0, .int .i64 p0), (1, .int .i64 p1), (5, .str x1), (6, .bool x2), (47, .tuple [.str x6, .bool x7])] H (fun fr => by kernel_rfl) (fun fr => Steps.call (by kernel_rfl) (ok_octal_Binary hx)) ?_
          intro fr t H
          refine at_seg [(3, []), (4, []), (5, []), (6, []), (7, [])] [(0, .int .i64 p0), (1, .int .i64 p1), (5, .str x1), (6, .bool x2), (9, .str x6), (10, .bool x7)] H (noU_all rfl) (fun fr => by kernel_rfl) ?_
          intro fr H
          refine at_nil ?_
          show AW cfg 10 (⟨h.size, []⟩ : Gd) (right (right (right (right (right (right (bodyC cfg.P 10))))))) fr h _
          refine aw_seq (by kernel_rfl) ?_
          refine aw_reg (id := 8) (n := 8) [(0, []), (1, []), (2, []), (3, []), (4, []), (5, []), (6, []), (7, [])] (by kernel_rfl) (by kernel_rfl) ?_
          refine at_seg [(0, []), (1, [])] [(0, .int .i64 p0), (5, .str x1), (6, .bool x2), (9, .str x6), (10, .bool x7), (51, .int .i64 p0), (52, .int .i64 p1)] H (noU_all rfl) (fun fr => by kernel_rfl) ?_
          intro fr H
          obtain ⟨⟨x8, x9⟩, hx, hm⟩ := bind_some hm
          refine at_step (v := .tuple [.str x8, .bool x9]) (h1 := h) [(0, .int .i64 p0), (5, .str x1), (6, .bool x2), (9, .str x6), (10, .bool x7), (53, .tuple [.str x8, .bool x9])] H (fun fr => by kernel_rfl) (fun fr => Steps.call (by kernel_rfl) (ok_boulterref01_Binary hx)) ?_
          intro fr t H
          refine at_seg [(3, []), (4, []), (5, []), (6, []), (7, [])] [(0, .int .i64 p0), (5, .str x1), (6, .bool x2), (9, .str x6), (10, .bool x7), (11, .str x8), (12, .bool x9)] H (noU_all rfl) (fun fr => by kernel_rfl) ?_
          intro fr H
          refine at_nil ?_
          show AW cfg 10 (⟨h.size, []⟩ : Gd) (right (right (right (right (right (right (right (bodyC cfg.P 10)))))))) fr h _
          refine aw_seq (by kernel_rfl) ?_
          refine aw_seq (by kernel_rfl) ?_
          refine aw_reg (id := 9) (n := 8) [(0, []), (1, []), (2, []), (3, []), (4, []), (5, []), (6, []), (7, [])] (by kernel_rfl) (by kernel_rfl) ?_
          refine at_seg [(0, []), (1, []), (2, []), (3, [])] [(0, .int .i64 p0), (5, .str x1), (6, .bool x2), (9, .str x6), (10, .bool x7), (12, .bool x9), (59, .bool (!(x6 == x8)))] H (noU_all rfl) (fun fr => by kernel_rfl) ?_
          intro fr H
          refine at_cut [(4, []), (5, []), (6, []), (7, [])] (fun fr' h' => h = h' ∧ Has fr' 98 [(0, .int .i64 p0), (5, .str x1), (6, .bool x2), (9, .str x6), (10, .bool x7), (63, .bool ((!(x6 == x8)) || (!(x7 == x9))))]) ?_ ?_
          · cases hb : (!(x6 == x8) : Bool) with
            | true =>
              rw [hb] at H
              refine at_seg [(4, []), (5, []), (6, []), (7, [])] [(0, .int .i64 p0), (5, .str x1), (6, .bool x2), (9, .str x6), (10, .bool x7), (63, .bool true)] H (noU_all rfl) (fun fr => by kernel_rfl) ?_
              intro fr H
              exact at_nil ⟨rfl, by first | exact H.less _ (fun fr => by rfl) | (rw [hb]; exact H.less _ (fun fr => by rfl))⟩
            | false =>
              rw [hb] at H
              refine at_seg [(4, []), (5, []), (6, []), (7, [])] [(0, .int .i64 p0), (5, .str x1), (6, .bool x2), (9, .str x6), (10, .bool x7), (63, .bool (!(x7 == x9)))] H (noU_all rfl) (fun fr => by kernel_rfl) ?_
              intro fr H
              exact at_nil ⟨rfl, by first | exact H.less _ (fun fr => by rfl) | (rw [hb]; exact H.less _ (fun fr => by rfl))⟩
          · intro t fr h' hK
            obtain ⟨e, H⟩ := hK
            subst e
            refine at_nil ?_
            show AW cfg 10 (⟨h.size, []⟩ : Gd) (right (left (right (right (right (right (right (right (right (bodyC cfg.P 10)))))))))) fr h _
            rcases iteB_some hm with ⟨hb, hm⟩ | ⟨hb, hm⟩
            · rw [hb] at H
              refine aw_true (x := .tmp 63) (by kernel_rfl) H (fun fr => by kernel_rfl) ?_
              refine aw_seq (by kernel_rfl) ?_
              refine aw_reg (id := 10) (n := 1) [(0, [])] (by kernel_rfl) (by kernel_rfl) ?_
              refine at_seg [(0, [])] [(4, .bool false)] H (noU_all rfl) (fun fr => by kernel_rfl) ?_
              intro fr H
              refine at_nil ?_
              show AW cfg 10 (⟨h.size, []⟩ : Gd) (right (left (right (left (right (right (right (right (right (right (right (bodyC cfg.P 10)))))))))))) fr h _
              refine aw_ret (by kernel_rfl) ?_
              have e1 := Option.some.inj hm
              subst e1
              exact (doneE_of .ret H (fun fr => by kernel_rfl) (.inl rfl) : doneE cfg.P _ _ _ fr _)
            · rw [hb] at H
              refine aw_false (x := .tmp 63) (by kernel_rfl) H (fun fr => by kernel_rfl) ?_
              refine aw_skip (by kernel_rfl) ?_
              show AW cfg 10 (⟨h.size, []⟩ : Gd) (right (right (right (right (right (right (right (right (bodyC cfg.P 10))))))))) fr h _
              refine aw_seq (by kernel_rfl) ?_
              refine aw_seq (by kernel_rfl) ?_
              refine aw_reg (id := 11) (n := 4) [(0, []), (1, []), (2, []), (3, [])] (by kernel_rfl) (by kernel_rfl) ?_
              refine at_seg [(0, []), (1, [])] [(0, .int .i64 p0), (5, .str x1), (9, .str x6), (10, .bool x7), (65, .bool x2)] H (noU_all rfl) (fun fr => by kernel_rfl) ?_
              intro fr H
              refine at_cut [(2, []), (3, [])] (fun fr' h' => h = h' ∧ Has fr' 98 [(0, .int .i64 p0), (5, .str x1), (9, .str x6), (67, .bool (x2 && x7))]) ?_ ?_
              · cases hb : (x2 : Bool) with
                | true =>
                  rw [hb] at H
                  refine at_seg [(2, []), (3, [])] [(0, .int .i64 p0), (5, .str x1), (9, .str x6), (67, .bool x7)] H (noU_all rfl) (fun fr => by kernel_rfl) ?_
                  intro fr H
                  exact at_nil ⟨rfl, by first | exact H.less _ (fun fr => by rfl) | (rw [hb]; exact H.less _ (fun fr => by rfl))⟩
                | false =>
                  rw [hb] at H
                  refine at_seg [(2, []), (3, [])] [(0, .int .i64 p0), (5, .str x1), (9, .str x6), (67, .bool false)] H (noU_all rfl) (fun fr => by kernel_rfl) ?_
                  intro fr H
                  exact at_nil ⟨rfl, by first | exact H.less _ (fun fr => by rfl) | (rw [hb]; exact H.less _ (fun fr => by rfl))⟩
              · intro t fr h' hK
                obtain ⟨e, H⟩ := hK
                subst e
                refine at_nil ?_
                show AW cfg 10 (⟨h.size, []⟩ : Gd) (right (left (right (right (right (right (right (right (right (right (bodyC cfg.P 10))))))))))) fr h _
                rcases iteB_some hm with ⟨hb, hm⟩ | ⟨hb, hm⟩
                · rw [hb] at H
                  refine aw_true (x := .tmp 67) (by kernel_rfl) H (fun fr => by kernel_rfl) ?_
                  refine aw_seq (by kernel_rfl) ?_
                  refine aw_reg (id := 12) (n := 7) [(0, []), (1, []), (2, []), (3, []), (4, []), (5, []), (6, [])] (by kernel_rfl) (by kernel_rfl) ?_
                  refine at_seg [(0, [])] [(0, .int .i64 p0), (9, .str x6), (69, .str x1)] H (noU_all rfl) (fun fr => by kernel_rfl) ?_
                  intro fr H
                  obtain ⟨⟨x10, x11⟩, hx, hm⟩ := bind_some hm
                  refine at_step (v := .tuple [.int .i64 x10, .int .i64 x11]) (h1 := h) [(0, .int .i64 p0), (9, .str x6), (70, .tuple [.int .i64 x10, .int .i64 x11])] H (fun fr => by kernel_rfl) (fun fr => Steps.call (by kernel_rfl) (ok_octal_Read hx)) ?_
                  intro fr t H
                  refine at_seg [(2, []), (3, []), (4, []), (5, []), (6, [])] [(0, .int .i64 p0), (9, .str x6), (13, .int .i64 x10), (14, .int .i64 x11)] H (noU_all rfl) (fun fr => by kernel_rfl) ?_
                  intro fr H
                  refine at_nil ?_
                  show AW cfg 10 (⟨h.size, []⟩ : Gd) (right (left (right (left (right (right (right (right (right (right (right (right (bodyC cfg.P 10))))))))))))) fr h _
                  refine aw_seq (by kernel_rfl) ?_
                  refine aw_reg (id := 13) (n := 7) [(0, []), (1, []), (2, []), (3, []), (4, []), (5, []), (6, [])] (by kernel_rfl) (by kernel_rfl) ?_
                  refine at_seg [(0, [])] [(0, .int .i64 p0), (13, .int .i64 x10), (14, .int .i64 x11), (74, .str x6)] H (noU_all rfl) (fun fr => by kernel_rfl) ?_
                  intro fr H
                  obtain ⟨⟨x12, x13⟩, hx, hm⟩ := bind_some hm
                  refine at_step (v := .tuple [.int .i64 x12, .int .i64 x13]) (h1 := h) [(0, .int .i64 p0), (13, .int .i64 x10), (14, .int .i64 x11), (75, .tuple [.int .i64 x12, .int .i64 x13])] H (fun fr => by kernel_rfl) (fun fr => Steps.call (by kernel_rfl) (ok_octal_Read hx)) ?_
                  intro fr t H
                  refine at_seg [(2, []), (3, []), (4, []), (5, []), (6, [])] [(0, .int .i64 p0), (13, .int .i64 x10), (14, .int .i64 x11), (15, .int .i64 x12), (16, .int .i64 x13)] H (noU_all rfl) (fun fr => by kernel_rfl) ?_
                  intro fr H
                  refine at_nil ?_
                  show AW cfg 10 (⟨h.size, []⟩ : Gd) (right (right (left (right (left (right (right (right (right (right (right (right (right (bodyC cfg.P 10)))))))))))))) fr h _
                  refine aw_seq (by kernel_rfl) ?_
                  refine aw_reg (id := 14) (n := 20) [(0, []), (1, []), (2, []), (3, []), (4, []), (5, []), (6, []), (7, []), (8, []), (9, []), (10, []), (11, []), (12, []), (13, []), (14, []), (15, []), (16, []), (17, []), (18, []), (19, [])] (by kernel_rfl) (by kernel_rfl) ?_
                  refine at_seg [(0, []), (1, []), (2, [])] [(0, .int .i64 p0), (13, .int .i64 x10), (15, .int .i64 x12), (16, .int .i64 x13), (80, .bool (x11 == (0 : Int)))] H (noU_all rfl) (fun fr => by kernel_rfl) ?_
                  intro fr H
                  refine at_cut [(3, []), (4, []), (5, [])] (fun fr' h' => h = h' ∧ Has fr' 98 [(0, .int .i64 p0), (13, .int .i64 x10), (15, .int .i64 x12), (83, .bool ((x11 == (0 : Int)) && (x13 == (0 : Int))))]) ?_ ?_
                  · cases hb : (x11 == (0 : Int) : Bool) with
                    | true =>
                      rw [hb] at H
                      refine at_seg [(3, []), (4, []), (5, [])] [(0, .int .i64 p0), (13, .int .i64 x10), (15, .int .i64 x12), (83, .bool (x13 == (0 : Int)))] H (noU_all rfl) (fun fr => by kernel_rfl) ?_
                      intro fr H
                      exact at_nil ⟨rfl, by first | exact H.less _ (fun fr => by rfl) | (rw [hb]; exact H.less _ (fun fr => by rfl))⟩
                    | false =>
                      rw [hb] at H
                      refine at_seg [(3, []), (4, []), (5, [])] [(0, .int .i64 p0), (13, .int .i64 x10), (15, .int .i64 x12), (83, .bool false)] H (noU_all rfl) (fun fr => by kernel_rfl) ?_
                      intro fr H
                      exact at_nil ⟨rfl, by first | exact H.less _ (fun fr => by rfl) | (rw [hb]; exact H.less _ (fun fr => by rfl))⟩
                  · intro t fr h' hK
                    obtain ⟨e, H⟩ := hK
                    subst e
                    refine at_seg [(6, [])] [(0, .int .i64 p0), (13, .int .i64 x10), (15, .int .i64 x12), (84, .bool ((x11 == (0 : Int)) && (x13 == (0 : Int))))] H (noU_all rfl) (fun fr => by kernel_rfl) ?_
                    intro fr H
                    refine at_cut [(7, []), (8, []), (9, []), (10, [])] (fun fr' h' => h = h' ∧ Has fr' 98 [(0, .int .i64 p0), (15, .int .i64 x12), (88, .bool (((x11 == (0 : Int)) && (x13 == (0 : Int))) && (x10 == p0)))]) ?_ ?_
                    · cases hb : ((x11 == (0 : Int)) && (x13 == (0 : Int)) : Bool) with
                      | true =>
                        rw [hb] at H
                        refine at_seg [(7, []), (8, []), (9, []), (10, [])] [(0, .int .i64 p0), (15, .int .i64 x12), (88, .bool (x10 == p0))] H (noU_all rfl) (fun fr => by kernel_rfl) ?_
                        intro fr H
                        exact at_nil ⟨rfl, by first | exact H.less _ (fun fr => by rfl) | (rw [hb]; exact H.less _ (fun fr => by rfl))⟩
                      | false =>
                        rw [hb] at H
                        refine at_seg [(7, []), (8, []), (9, []), (10, [])] [(0, .int .i64 p0), (15, .int .i64 x12), (88, .bool false)] H (noU_all rfl) (fun fr => by kernel_rfl) ?_
                        intro fr H
                        exact at_nil ⟨rfl, by first | exact H.less _ (fun fr => by rfl) | (rw [hb]; exact H.less _ (fun fr => by rfl))⟩
                    · intro t fr h' hK
                      obtain ⟨e, H⟩ := hK
                      subst e
                      refine at_seg [(11, [])] [(0, .int .i64 p0), (15, .int .i64 x12), (89, .bool (((x11 == (0 : Int)) && (x13 == (0 : Int))) && (x10 == p0)))] H (noU_all rfl) (fun fr => by kernel_rfl) ?_
                      intro fr H
                      refine at_cut [(12, []), (13, []), (14, []), (15, [])] (fun fr' h' => h = h' ∧ Has fr' 98 [(93, .bool ((((x11 == (0 : Int)) && (x13 == (0 : Int))) && (x10 == p0)) && (x12 == p0)))]) ?_ ?_
                      · cases hb : (((x11 == (0 : Int)) && (x13 == (0 : Int))) && (x10 == p0) : Bool) with
                        | true =>
                          rw [hb] at H
                          refine at_seg [(12, []), (13, []), (14, []), (15, [])] [(93, .bool (x12 == p0))] H (noU_all rfl) (fun fr => by kernel_rfl) ?_
                          intro fr H
                          exact at_nil ⟨rfl, by first | exact H.less _ (fun fr => by rfl) | (rw [hb]; exact H.less _ (fun fr => by rfl))⟩
                        | false =>
                          rw [hb] at H
                          refine at_seg [(12, []), (13, []), (14, []), (15, [])] [(93, .bool false)] H (noU_all rfl) (fun fr => by kernel_rfl) ?_
                          intro fr H
                          exact at_nil ⟨rfl, by first | exact H.less _ (fun fr => by rfl) | (rw [hb]; exact H.less _ (fun fr => by rfl))⟩
                      · intro t fr h' hK
                        obtain ⟨e, H⟩ := hK
                        subst e
                        refine at_seg [(16, [])] [(94, .bool ((((x11 == (0 : Int)) && (x13 == (0 : Int))) && (x10 == p0)) && (x12 == p0)))] H (noU_all rfl) (fun fr => by kernel_rfl) ?_
                        intro fr H
                        obtain ⟨x14, ho, hm⟩ := bind_some hm
                        refine at_cut [(17, []), (18, [])] (fun fr' h' => h = h' ∧ Has fr' 98 [(96, .bool x14)]) ?_ ?_
                        · rcases iteB_some ho with ⟨hb, hm⟩ | ⟨hb, hm⟩
                          · rw [hb] at H
                            obtain ⟨x15, hx, hm⟩ := bind_some hm
                            refine at_step (v := .bool x15) (h1 := h) [(94, .bool true), (95, .bool x15)] H (fun fr => by kernel_rfl) (fun fr => Steps.call (by kernel_rfl) (ok_boulterlaw01_awake hx)) ?_
                            intro fr t H
                            refine at_seg [(18, [])] [(96, .bool x15)] H (noU_all rfl) (fun fr => by kernel_rfl) ?_
                            intro fr H
                            have e1 := Option.some.inj hm
                            subst e1
                            exact at_nil ⟨rfl, H.less _ (fun fr => by kernel_rfl)⟩
                          · rw [hb] at H
                            refine at_seg [(17, []), (18, [])] [(96, .bool false)] H (noU_all rfl) (fun fr => by kernel_rfl) ?_
                            intro fr H
                            have e1 := Option.some.inj hm
                            subst e1
                            exact at_nil ⟨rfl, H.less _ (fun fr => by kernel_rfl)⟩
                        · intro t fr h' hK
                          obtain ⟨e, H⟩ := hK
                          subst e
                          refine at_seg [(19, [])] [(4, .bool x14)] H (noU_all rfl) (fun fr => by kernel_rfl) ?_
                          intro fr H
                          refine at_nil ?_
                          show AW cfg 10 (⟨h.size, []⟩ : Gd) (right (right (right (left (right (left (right (right (right (right (right (right (right (right (bodyC cfg.P 10))))))))))))))) fr h _
                          refine aw_ret (by kernel_rfl) ?_
                          have e1 := Option.some.inj hm
                          subst e1
                          exact (doneE_of .ret H (fun fr => by kernel_rfl) (.inl rfl) : doneE cfg.P _ _ _ fr _)
                · rw [hb] at H
                  refine aw_false (x := .tmp 67) (by kernel_rfl) H (fun fr => by kernel_rfl) ?_
                  refine aw_skip (by kernel_rfl) ?_
                  show AW cfg 10 (⟨h.size, []⟩ : Gd) (right (right (right (right (right (right (right (right (right (bodyC cfg.P 10)))))))))) fr h _
                  refine aw_seq (by kernel_rfl) ?_
                  refine aw_reg (id := 15) (n := 2) [(0, []), (1, [])] (by kernel_rfl) (by kernel_rfl) ?_
                  obtain ⟨x16, hx, hm⟩ := bind_some hm
                  refine at_step (v := .bool x16) (h1 := h) [(97, .bool x16)] H (fun fr => by kernel_rfl) (fun fr => Steps.call (by kernel_rfl) (ok_boulterlaw01_awake hx)) ?_
                  intro fr t H
                  refine at_seg [(1, [])] [(4, .bool x16)] H (noU_all rfl) (fun fr => by kernel_rfl) ?_
                  intro fr H
                  refine at_nil ?_
                  show AW cfg 10 (⟨h.size, []⟩ : Gd) (right (right (right (right (right (right (right (right (right (right (bodyC cfg.P 10))))))))))) fr h _
                  refine aw_ret (by kernel_rfl) ?_
                  have e1 := Option.some.inj hm
                  subst e1
                  exact (doneE_of .ret H (fun fr => by kernel_rfl) (.inl rfl) : doneE cfg.P _ _ _ fr _)
end Go.Abs.L
