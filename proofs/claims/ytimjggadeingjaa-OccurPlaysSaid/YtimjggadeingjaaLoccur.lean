/-
  Models of functions of package occur, and that the abstract run tells them. Written by lift.py.
-/
import Derived.Test.YtimjggadeingjaaLCfg
namespace Go.Abs.L
open Go.Abs
set_option linter.unusedVariables false
/-! ### boulter/occur.New -/
noncomputable def M_occur_New (g : Gd) (h : AHeap) (p0 : Int) (p1 : Int) : Option (((Option (Nat × Nat)) × Int) × AHeap) :=
 iteB ((((decide (p0 < (0 : Int))) || (decide (p0 > (9007199254740991 : Int)))) || (decide (p1 < (1 : Int)))) || (decide (p1 > (257 : Int)))) (some ((none, (6 : Int)), h)) ((some (h.push (.cells none 2 (splice (splice (zc 45) 0 [.int .i64 p0]) 1 [.int .i64 p1])))).bind fun h1 => some ((some (h.size, 0), (0 : Int)), h1))
theorem ok_occur_New {g : Gd} {h h' : AHeap} {p0 : Int} {p1 : Int} {r0 : Option (Nat × Nat)} {r1 : Int} (hm : M_occur_New g h p0 p1 = some ((r0, r1), h')) : Runs cfg g h 6 [.int .i64 p0, .int .i64 p1] (.tuple [.ptr r0, .int .i64 r1]) h' := by
  refine runs1 (by kernel_rfl) (body_of (n := 24) (rs := [.tmp 4, .tmp 5]) (by kernel_rfl) ?_)
  unfold M_occur_New at hm
  refine start (n := 24) [(0, .int .i64 p0), (1, .int .i64 p1)] (by kernel_rfl) (by kernel_rfl) ?_
  intro fr H
  refine aw_seq (by kernel_rfl) ?_
  refine aw_reg (id := 0) (n := 2) [(0, []), (1, [])] (by kernel_rfl) (by kernel_rfl) ?_
  refine at_seg [(0, []), (1, [])] [(0, .int .i64 p0), (1, .int .i64 p1)] H (noU_all rfl) (fun fr => by kernel_rfl) ?_
  intro fr H
  refine at_nil ?_
  show AW cfg 6 g (right (bodyC cfg.P 6)) fr h _
  refine aw_seq (by kernel_rfl) ?_
  refine aw_seq (by kernel_rfl) ?_
  refine aw_reg (id := 1) (n := 14) [(0, []), (1, []), (2, []), (3, []), (4, []), (5, []), (6, []), (7, []), (8, []), (9, []), (10, []), (11, []), (12, []), (13, [])] (by kernel_rfl) (by kernel_rfl) ?_
  refine at_seg [(0, []), (1, []), (2, [])] [(0, .int .i64 p0), (1, .int .i64 p1), (8, .bool (decide (p0 < (0 : Int))))] H (noU_all rfl) (fun fr => by kernel_rfl) ?_
  intro fr H
  refine at_cut [(3, []), (4, []), (5, [])] (fun fr' h' => h = h' ∧ Has fr' 24 [(0, .int .i64 p0), (1, .int .i64 p1), (11, .bool ((decide (p0 < (0 : Int))) || (decide (p0 > (9007199254740991 : Int)))))]) ?_ ?_
  · cases hb : (decide (p0 < (0 : Int)) : Bool) with
    | true =>
      rw [hb] at H
      refine at_seg [(3, []), (4, []), (5, [])] [(0, .int .i64 p0), (1, .int .i64 p1), (11, .bool true)] H (noU_all rfl) (fun fr => by kernel_rfl) ?_
      intro fr H
      exact at_nil ⟨rfl, by first | exact H.less _ (fun fr => by rfl) | (rw [hb]; exact H.less _ (fun fr => by rfl))⟩
    | false =>
      rw [hb] at H
      refine at_seg [(3, []), (4, []), (5, [])] [(0, .int .i64 p0), (1, .int .i64 p1), (11, .bool (decide (p0 > (9007199254740991 : Int))))] H (noU_all rfl) (fun fr => by kernel_rfl) ?_
      intro fr H
      exact at_nil ⟨rfl, by first | exact H.less _ (fun fr => by rfl) | (rw [hb]; exact H.less _ (fun fr => by rfl))⟩
  · intro t fr h' hK
    obtain ⟨e, H⟩ := hK
    subst e
    refine at_seg [(6, [])] [(0, .int .i64 p0), (1, .int .i64 p1), (12, .bool ((decide (p0 < (0 : Int))) || (decide (p0 > (9007199254740991 : Int)))))] H (noU_all rfl) (fun fr => by kernel_rfl) ?_
    intro fr H
    refine at_cut [(7, []), (8, []), (9, [])] (fun fr' h' => h = h' ∧ Has fr' 24 [(0, .int .i64 p0), (1, .int .i64 p1), (15, .bool (((decide (p0 < (0 : Int))) || (decide (p0 > (9007199254740991 : Int)))) || (decide (p1 < (1 : Int)))))]) ?_ ?_
    · cases hb : ((decide (p0 < (0 : Int))) || (decide (p0 > (9007199254740991 : Int))) : Bool) with
      | true =>
        rw [hb] at H
        refine at_seg [(7, []), (8, []), (9, [])] [(0, .int .i64 p0), (1, .int .i64 p1), (15, .bool true)] H (noU_all rfl) (fun fr => by kernel_rfl) ?_
        intro fr H
        exact at_nil ⟨rfl, by first | exact H.less _ (fun fr => by rfl) | (rw [hb]; exact H.less _ (fun fr => by rfl))⟩
      | false =>
        rw [hb] at H
        refine at_seg [(7, []), (8, []), (9, [])] [(0, .int .i64 p0), (1, .int .i64 p1), (15, .bool (decide (p1 < (1 : Int))))] H (noU_all rfl) (fun fr => by kernel_rfl) ?_
        intro fr H
        exact at_nil ⟨rfl, by first | exact H.less _ (fun fr => by rfl) | (rw [hb]; exact H.less _ (fun fr => by rfl))⟩
    · intro t fr h' hK
      obtain ⟨e, H⟩ := hK
      subst e
      refine at_seg [(10, [])] [(0, .int .i64 p0), (1, .int .i64 p1), (16, .bool (((decide (p0 < (0 : Int))) || (decide (p0 > (9007199254740991 : Int)))) || (decide (p1 < (1 : Int)))))] H (noU_all rfl) (fun fr => by kernel_rfl) ?_
      intro fr H
      refine at_cut [(11, []), (12, []), (13, [])] (fun fr' h' => h = h' ∧ Has fr' 24 [(0, .int .i64 p0), (1, .int .i64 p1), (19, .bool ((((decide (p0 < (0 : Int))) || (decide (p0 > (9007199254740991 : Int)))) || (decide (p1 < (1 : Int)))) || (decide (p1 > (257 : Int)))))]) ?_ ?_
      · cases hb : (((decide (p0 < (0 : Int))) || (decide (p0 > (9007199254740991 : Int)))) || (decide (p1 < (1 : Int))) : Bool) with
        | true =>
          rw [hb] at H
          refine at_seg [(11, []), (12, []), (13, [])] [(0, .int .i64 p0), (1, .int .i64 p1), (19, .bool true)] H (noU_all rfl) (fun fr => by kernel_rfl) ?_
          intro fr H
          exact at_nil ⟨rfl, by first | exact H.less _ (fun fr => by rfl) | (rw [hb]; exact H.less _ (fun fr => by rfl))⟩
        | false =>
          rw [hb] at H
          refine at_seg [(11, []), (12, []), (13, [])] [(0, .int .i64 p0), (1, .int .i64 p1), (19, .bool (decide (p1 > (257 : Int))))] H (noU_all rfl) (fun fr => by kernel_rfl) ?_
          intro fr H
          exact at_nil ⟨rfl, by first | exact H.less _ (fun fr => by rfl) | (rw [hb]; exact H.less _ (fun fr => by rfl))⟩
      · intro t fr h' hK
        obtain ⟨e, H⟩ := hK
        subst e
        refine at_nil ?_
        show AW cfg 6 g (right (left (right (bodyC cfg.P 6)))) fr h _
        rcases iteB_some hm with ⟨hb, hm⟩ | ⟨hb, hm⟩
        · rw [hb] at H
          refine aw_true (x := .tmp 19) (by kernel_rfl) H (fun fr => by kernel_rfl) ?_
          refine aw_seq (by kernel_rfl) ?_
          refine aw_reg (id := 2) (n := 2) [(0, []), (1, [])] (by kernel_rfl) (by kernel_rfl) ?_
          refine at_seg [(0, []), (1, [])] [(4, .ptr none), (5, .int .i64 (6 : Int))] H (noU_all rfl) (fun fr => by kernel_rfl) ?_
          intro fr H
          refine at_nil ?_
          show AW cfg 6 g (right (left (right (left (right (bodyC cfg.P 6)))))) fr h _
          refine aw_ret (by kernel_rfl) ?_
          obtain ⟨e1, e2⟩ := inj2 hm
          subst e2
          obtain ⟨u0, v0⟩ := Prod.mk.inj e1
          subst u0
          subst v0
          exact (done_ret H (fun fr => by kernel_rfl) rfl : doneQ cfg.P _ _ _ _ fr _)
        · rw [hb] at H
          refine aw_false (x := .tmp 19) (by kernel_rfl) H (fun fr => by kernel_rfl) ?_
          refine aw_skip (by kernel_rfl) ?_
          show AW cfg 6 g (right (right (bodyC cfg.P 6))) fr h _
          refine aw_seq (by kernel_rfl) ?_
          refine aw_reg (id := 3) (n := 6) [(0, []), (1, []), (2, []), (3, []), (4, []), (5, [])] (by kernel_rfl) (by kernel_rfl) ?_
          refine at_seg [(0, []), (1, []), (2, [])] [(22, .agg (splice (splice (zc 45) 0 [.int .i64 p0]) 1 [.int .i64 p1]))] H (noU_all rfl) (fun fr => by kernel_rfl) ?_
          intro fr H
          obtain ⟨h1, hx, hm⟩ := bind_some hm
          refine at_step (v := .ptr (some (h.size, 0))) (h1 := h1) [(23, .ptr (some (h.size, 0)))] H (fun fr => by kernel_rfl) (fun fr => .of (s_n' (by kernel_rfl) hx)) ?_
          intro fr t H
          refine at_seg [(4, []), (5, [])] [(4, .ptr (some (h.size, 0))), (5, .int .i64 (0 : Int))] H (noU_all rfl) (fun fr => by kernel_rfl) ?_
          intro fr H
          refine at_nil ?_
          show AW cfg 6 g (right (right (right (bodyC cfg.P 6)))) fr h1 _
          refine aw_ret (by kernel_rfl) ?_
          obtain ⟨e1, e2⟩ := inj2 hm
          subst e2
          obtain ⟨u0, v0⟩ := Prod.mk.inj e1
          subst u0
          subst v0
          exact (done_ret H (fun fr => by kernel_rfl) rfl : doneQ cfg.P _ _ _ _ fr _)
/-! ### (*boulter/occur.Picker).is -/
noncomputable def M_occur_Picker_is (h : AHeap) (p0 : Option (Nat × Nat)) (p1 : Int) : Option (Bool) :=
 (iteB (decide (p1 ≥ (0 : Int))) ((p0).bind fun a1 => (ldI h (a1.1, a1.2 + 1) .i64).bind fun x2 => some (decide (p1 < x2))) (some false) : Option (Bool)).bind fun x1 => some x1
theorem ok_occur_Picker_is {g : Gd} {h : AHeap} {p0 : Option (Nat × Nat)} {p1 : Int} {r0 : Bool} (hm : M_occur_Picker_is h p0 p1 = some r0) : Runs cfg g h 16 [.ptr p0, .int .i64 p1] (.bool r0) h := by
  refine runs2E (by kernel_rfl) (by kernel_rfl) (body_ofE (n := 15) (rs := [.tmp 4]) (by kernel_rfl) ?_)
  unfold M_occur_Picker_is at hm
  refine start (n := 15) [(0, .ptr p0), (1, .int .i64 p1)] (by kernel_rfl) (by kernel_rfl) ?_
  intro fr H
  refine aw_seq (by kernel_rfl) ?_
  refine aw_reg (id := 0) (n := 1) [(0, [])] (by kernel_rfl) (by kernel_rfl) ?_
  refine at_seg [(0, [])] [(0, .ptr p0), (1, .int .i64 p1)] H (noU_all rfl) (fun fr => by kernel_rfl) ?_
  intro fr H
  refine at_nil ?_
  show AW cfg 16 (⟨h.size, []⟩ : Gd) (right (bodyC cfg.P 16)) fr h _
  refine aw_seq (by kernel_rfl) ?_
  refine aw_reg (id := 1) (n := 11) [(0, []), (1, []), (2, []), (3, []), (4, []), (5, []), (6, []), (7, []), (8, []), (9, []), (10, [])] (by kernel_rfl) (by kernel_rfl) ?_
  refine at_seg [(0, []), (1, []), (2, [])] [(0, .ptr p0), (1, .int .i64 p1), (7, .bool (decide (p1 ≥ (0 : Int))))] H (noU_all rfl) (fun fr => by kernel_rfl) ?_
  intro fr H
  obtain ⟨x1, ho, hm⟩ := bind_some hm
  refine at_cut [(3, []), (4, []), (5, []), (6, []), (7, []), (8, []), (9, [])] (fun fr' h' => h = h' ∧ Has fr' 15 [(14, .bool x1)]) ?_ ?_
  · rcases iteB_some ho with ⟨hb, hm⟩ | ⟨hb, hm⟩
    · rw [hb] at H
      refine at_seg [(3, []), (4, [])] [(7, .bool true), (8, .int .i64 p1), (9, .ptr p0)] H (noU_all rfl) (fun fr => by kernel_rfl) ?_
      intro fr H
      obtain ⟨a1, hx, hm⟩ := bind_some hm
      refine at_step (v := .ptr (some a1)) (h1 := h) [(7, .bool true), (8, .int .i64 p1), (10, .ptr (some (a1.1, a1.2)))] H (fun fr => by kernel_rfl) (fun fr => .of (s_nc (by kernel_rfl) hx)) ?_
      intro fr t H
      refine at_seg [(6, [])] [(7, .bool true), (8, .int .i64 p1), (11, .ptr (some (a1.1, a1.2 + 1)))] H (noU_all rfl) (fun fr => by kernel_rfl) ?_
      intro fr H
      obtain ⟨x2, hx, hm⟩ := bind_some hm
      refine at_step (v := .int .i64 x2) (h1 := h) [(7, .bool true), (8, .int .i64 p1), (12, .int .i64 x2)] H (fun fr => by kernel_rfl) (fun fr => .of (s_ld (by kernel_rfl) (ldI_eq hx))) ?_
      intro fr t H
      refine at_seg [(8, []), (9, [])] [(14, .bool (decide (p1 < x2)))] H (noU_all rfl) (fun fr => by kernel_rfl) ?_
      intro fr H
      have e1 := Option.some.inj hm
      subst e1
      exact at_nil ⟨rfl, H.less _ (fun fr => by kernel_rfl)⟩
    · rw [hb] at H
      refine at_seg [(3, []), (4, []), (5, []), (6, []), (7, []), (8, []), (9, [])] [(14, .bool false)] H (noU_all rfl) (fun fr => by kernel_rfl) ?_
      intro fr H
      have e1 := Option.some.inj hm
      subst e1
      exact at_nil ⟨rfl, H.less _ (fun fr => by kernel_rfl)⟩
  · intro t fr h' hK
    obtain ⟨e, H⟩ := hK
    subst e
    refine at_seg [(10, [])] [(4, .bool x1)] H (noU_all rfl) (fun fr => by kernel_rfl) ?_
    intro fr H
    refine at_nil ?_
    show AW cfg 16 (⟨h.size, []⟩ : Gd) (right (right (bodyC cfg.P 16))) fr h _
    refine aw_ret (by kernel_rfl) ?_
    have e1 := Option.some.inj hm
    subst e1
    exact (doneE_of .ret H (fun fr => by kernel_rfl) (.inl rfl) : doneE cfg.P _ _ _ fr _)
/-! ### (*boulter/occur.Picker).Take -/
noncomputable def M_occur_Picker_Take (g : Gd) (h : AHeap) (p0 : Option (Nat × Nat)) (p1 : Int) : Option ((Bool × Int) × AHeap) :=
 (M_occur_Picker_is h p0 p1).bind fun x1 => iteB (!x1) (some ((false, (9 : Int)), h)) (((p0).bind fun a1 => (ixA (a1.1, a1.2 + 2) 257 1 p1).bind fun a2 => (ldI h (a2.1, a2.2) .i64).bind fun x2 => iteB (decide (x2 < (9007199254740991 : Int))) ((p0).bind fun a3 => (ixA (a3.1, a3.2 + 2) 257 1 p1).bind fun a4 => (ldI h (a4.1, a4.2) .i64).bind fun x3 => (p0).bind fun a5 => (ixA (a5.1, a5.2 + 2) 257 1 p1).bind fun a6 => (st g h (a6.1, a6.2) [.int .i64 (IntKind.i64.wrap (x3 + (1 : Int)))]).bind fun h1 => some h1) (some h) : Option ((AHeap))).bind fun h2 => (p0).bind fun a7 => (ldI h2 (a7.1, a7.2 + 0) .i64).bind fun x4 => (iteB (x4 == (0 : Int)) (some true) ((p0).bind fun a8 => (ixA (a8.1, a8.2 + 2) 257 1 p1).bind fun a9 => (ldI h2 (a9.1, a9.2) .i64).bind fun x6 => (p0).bind fun a10 => (ldI h2 (a10.1, a10.2 + 0) .i64).bind fun x7 => some (x6 == x7)) : Option (Bool)).bind fun x5 => some ((x5, (0 : Int)), h2))
theorem ok_occur_Picker_Take {g : Gd} {h h' : AHeap} {p0 : Option (Nat × Nat)} {p1 : Int} {r0 : Bool} {r1 : Int} (hm : M_occur_Picker_Take g h p0 p1 = some ((r0, r1), h')) : Runs cfg g h 8 [.ptr p0, .int .i64 p1] (.tuple [.bool r0, .int .i64 r1]) h' := by
  refine runs1 (by kernel_rfl) (body_of (n := 45) (rs := [.tmp 4, .tmp 5]) (by kernel_rfl) ?_)
  unfold M_occur_Picker_Take at hm
  refine start (n := 45) [(0, .ptr p0), (1, .int .i64 p1)] (by kernel_rfl) (by kernel_rfl) ?_
  intro fr H
  refine aw_seq (by kernel_rfl) ?_
  refine aw_reg (id := 0) (n := 2) [(0, []), (1, [])] (by kernel_rfl) (by kernel_rfl) ?_
  refine at_seg [(0, []), (1, [])] [(0, .ptr p0), (1, .int .i64 p1)] H (noU_all rfl) (fun fr => by kernel_rfl) ?_
  intro fr H
  refine at_nil ?_
  show AW cfg 8 g (right (bodyC cfg.P 8)) fr h _
  refine aw_seq (by kernel_rfl) ?_
  refine aw_seq (by kernel_rfl) ?_
  refine aw_reg (id := 1) (n := 4) [(0, []), (1, []), (2, []), (3, [])] (by kernel_rfl) (by kernel_rfl) ?_
  refine at_seg [(0, []), (1, [])] [(0, .ptr p0), (1, .int .i64 p1), (6, .ptr p0), (7, .int .i64 p1)] H (noU_all rfl) (fun fr => by kernel_rfl) ?_
  intro fr H
  obtain ⟨x1, hx, hm⟩ := bind_some hm
  refine at_step (v := .bool x1) (h1 := h) [(0, .ptr p0), (1, .int .i64 p1), (8, .bool x1)] H (fun fr => by kernel_rfl) (fun fr => Steps.call (by kernel_rfl) (ok_occur_Picker_is hx)) ?_
  intro fr t H
  refine at_seg [(3, [])] [(0, .ptr p0), (1, .int .i64 p1), (9, .bool (!x1))] H (noU_all rfl) (fun fr => by kernel_rfl) ?_
  intro fr H
  refine at_nil ?_
  show AW cfg 8 g (right (left (right (bodyC cfg.P 8)))) fr h _
  rcases iteB_some hm with ⟨hb, hm⟩ | ⟨hb, hm⟩
  · rw [hb] at H
    refine aw_true (x := .tmp 9) (by kernel_rfl) H (fun fr => by kernel_rfl) ?_
    refine aw_seq (by kernel_rfl) ?_
    refine aw_reg (id := 2) (n := 2) [(0, []), (1, [])] (by kernel_rfl) (by kernel_rfl) ?_
    refine at_seg [(0, []), (1, [])] [(4, .bool false), (5, .int .i64 (9 : Int))] H (noU_all rfl) (fun fr => by kernel_rfl) ?_
    intro fr H
    refine at_nil ?_
    show AW cfg 8 g (right (left (right (left (right (bodyC cfg.P 8)))))) fr h _
    refine aw_ret (by kernel_rfl) ?_
    obtain ⟨e1, e2⟩ := inj2 hm
    subst e2
    obtain ⟨u0, v0⟩ := Prod.mk.inj e1
    subst u0
    subst v0
    exact (done_ret H (fun fr => by kernel_rfl) rfl : doneQ cfg.P _ _ _ _ fr _)
  · rw [hb] at H
    refine aw_false (x := .tmp 9) (by kernel_rfl) H (fun fr => by kernel_rfl) ?_
    refine aw_skip (by kernel_rfl) ?_
    show AW cfg 8 g (right (right (bodyC cfg.P 8))) fr h _
    refine aw_seq (by kernel_rfl) ?_
    obtain ⟨o1, ho, hm⟩ := bind_some hm
    refine aw_mono (Q' := fun e fr' h' => (e = .normal ∧ h' = o1 ∧ h' = h' ∧ Has fr' 45 [(0, .ptr p0), (1, .int .i64 p1)]) ∨ False) ?_ ?_
    · replace hm := ho
      clear ho
      refine aw_seq (by kernel_rfl) ?_
      refine aw_reg (id := 3) (n := 7) [(0, []), (1, []), (2, []), (3, []), (4, []), (5, []), (6, [])] (by kernel_rfl) (by kernel_rfl) ?_
      refine at_seg [(0, []), (1, [])] [(0, .ptr p0), (1, .int .i64 p1), (10, .ptr p0), (11, .int .i64 p1)] H (noU_all rfl) (fun fr => by kernel_rfl) ?_
      intro fr H
      obtain ⟨a1, hx, hm⟩ := bind_some hm
      refine at_step (v := .ptr (some a1)) (h1 := h) [(0, .ptr p0), (1, .int .i64 p1), (11, .int .i64 p1), (12, .ptr (some (a1.1, a1.2)))] H (fun fr => by kernel_rfl) (fun fr => .of (s_nc (by kernel_rfl) hx)) ?_
      intro fr t H
      refine at_seg [(3, [])] [(0, .ptr p0), (1, .int .i64 p1), (11, .int .i64 p1), (13, .ptr (some (a1.1, a1.2 + 2)))] H (noU_all rfl) (fun fr => by kernel_rfl) ?_
      intro fr H
      obtain ⟨a2, hx, hm⟩ := bind_some hm
      refine at_step (v := .ptr (some a2)) (h1 := h) [(0, .ptr p0), (1, .int .i64 p1), (14, .ptr (some (a2.1, a2.2)))] H (fun fr => by kernel_rfl) (fun fr => .of (s_ixA (by kernel_rfl) hx)) ?_
      intro fr t H
      obtain ⟨x2, hx, hm⟩ := bind_some hm
      refine at_step (v := .int .i64 x2) (h1 := h) [(0, .ptr p0), (1, .int .i64 p1), (15, .int .i64 x2)] H (fun fr => by kernel_rfl) (fun fr => .of (s_ld (by kernel_rfl) (ldI_eq hx))) ?_
      intro fr t H
      refine at_seg [(6, [])] [(0, .ptr p0), (1, .int .i64 p1), (16, .bool (decide (x2 < (9007199254740991 : Int))))] H (noU_all rfl) (fun fr => by kernel_rfl) ?_
      intro fr H
      refine at_nil ?_
      show AW cfg 8 g (right (left (right (right (bodyC cfg.P 8))))) fr h _
      rcases iteB_some hm with ⟨hb, hm⟩ | ⟨hb, hm⟩
      · rw [hb] at H
        refine aw_true (x := .tmp 16) (by kernel_rfl) H (fun fr => by kernel_rfl) ?_
        refine aw_draw (id := 4) (n := 11) (by kernel_rfl) [(0, []), (1, []), (2, []), (3, []), (4, []), (5, []), (6, []), (7, []), (8, []), (9, []), (10, [])] (by kernel_rfl) ?_
        refine at_seg [(0, []), (1, [])] [(0, .ptr p0), (1, .int .i64 p1), (17, .ptr p0), (18, .int .i64 p1)] H (noU_all rfl) (fun fr => by kernel_rfl) ?_
        intro fr H
        obtain ⟨a3, hx, hm⟩ := bind_some hm
        refine at_step (v := .ptr (some a3)) (h1 := h) [(0, .ptr p0), (1, .int .i64 p1), (17, .ptr p0), (18, .int .i64 p1), (19, .ptr (some (a3.1, a3.2)))] H (fun fr => by kernel_rfl) (fun fr => .of (s_nc (by kernel_rfl) hx)) ?_
        intro fr t H
        refine at_seg [(3, [])] [(0, .ptr p0), (1, .int .i64 p1), (17, .ptr p0), (18, .int .i64 p1), (20, .ptr (some (a3.1, a3.2 + 2)))] H (noU_all rfl) (fun fr => by kernel_rfl) ?_
        intro fr H
        obtain ⟨a4, hx, hm⟩ := bind_some hm
        refine at_step (v := .ptr (some a4)) (h1 := h) [(0, .ptr p0), (1, .int .i64 p1), (17, .ptr p0), (18, .int .i64 p1), (21, .ptr (some (a4.1, a4.2)))] H (fun fr => by kernel_rfl) (fun fr => .of (s_ixA (by kernel_rfl) hx)) ?_
        intro fr t H
        obtain ⟨x3, hx, hm⟩ := bind_some hm
        refine at_step (v := .int .i64 x3) (h1 := h) [(0, .ptr p0), (1, .int .i64 p1), (17, .ptr p0), (18, .int .i64 p1), (22, .int .i64 x3)] H (fun fr => by kernel_rfl) (fun fr => .of (s_ld (by kernel_rfl) (ldI_eq hx))) ?_
        intro fr t H
        refine at_seg [(6, [])] [(0, .ptr p0), (1, .int .i64 p1), (17, .ptr p0), (18, .int .i64 p1), (23, .int .i64 (IntKind.i64.wrap (x3 + (1 : Int))))] H (noU_all rfl) (fun fr => by kernel_rfl) ?_
        intro fr H
        obtain ⟨a5, hx, hm⟩ := bind_some hm
        refine at_step (v := .ptr (some a5)) (h1 := h) [(0, .ptr p0), (1, .int .i64 p1), (18, .int .i64 p1), (23, .int .i64 (IntKind.i64.wrap (x3 + (1 : Int)))), (24, .ptr (some (a5.1, a5.2)))] H (fun fr => by kernel_rfl) (fun fr => .of (s_nc (by kernel_rfl) hx)) ?_
        intro fr t H
        refine at_seg [(8, [])] [(0, .ptr p0), (1, .int .i64 p1), (18, .int .i64 p1), (23, .int .i64 (IntKind.i64.wrap (x3 + (1 : Int)))), (25, .ptr (some (a5.1, a5.2 + 2)))] H (noU_all rfl) (fun fr => by kernel_rfl) ?_
        intro fr H
        obtain ⟨a6, hx, hm⟩ := bind_some hm
        refine at_step (v := .ptr (some a6)) (h1 := h) [(0, .ptr p0), (1, .int .i64 p1), (23, .int .i64 (IntKind.i64.wrap (x3 + (1 : Int)))), (26, .ptr (some (a6.1, a6.2)))] H (fun fr => by kernel_rfl) (fun fr => .of (s_ixA (by kernel_rfl) hx)) ?_
        intro fr t H
        obtain ⟨h1, hx, hm⟩ := bind_some hm
        refine at_step (v := .tuple []) (h1 := h1) [(0, .ptr p0), (1, .int .i64 p1)] H (fun fr => by kernel_rfl) (fun fr => .of (s_st (by kernel_rfl) rfl hx)) ?_
        intro fr t H
        refine at_nil ?_
        exact Or.inl ⟨rfl, Option.some.inj hm, rfl, H.less _ (fun fr => by kernel_rfl)⟩
      · rw [hb] at H
        refine aw_false (x := .tmp 16) (by kernel_rfl) H (fun fr => by kernel_rfl) ?_
        refine aw_skip (by kernel_rfl) ?_
        exact Or.inl ⟨rfl, Option.some.inj hm, rfl, H.less _ (fun fr => by kernel_rfl)⟩
    · clear ho
      intro e fr h2 hQ
      rcases hQ with ⟨rfl, rfl, _, H⟩ | hF
      · skip
        show AW cfg 8 g (right (right (right (bodyC cfg.P 8)))) fr h2 _
        refine aw_seq (by kernel_rfl) ?_
        refine aw_draw (id := 5) (n := 20) (by kernel_rfl) [(0, []), (1, []), (2, []), (3, []), (4, []), (5, []), (6, []), (7, []), (8, []), (9, []), (10, []), (11, []), (12, []), (13, []), (14, []), (15, []), (16, []), (17, []), (18, []), (19, [])] (by kernel_rfl) ?_
        refine at_seg [(0, [])] [(0, .ptr p0), (1, .int .i64 p1), (27, .ptr p0)] H (noU_all rfl) (fun fr => by kernel_rfl) ?_
        intro fr H
        obtain ⟨a7, hx, hm⟩ := bind_some hm
        refine at_step (v := .ptr (some a7)) (h1 := h2) [(0, .ptr p0), (1, .int .i64 p1), (28, .ptr (some (a7.1, a7.2)))] H (fun fr => by kernel_rfl) (fun fr => .of (s_nc (by kernel_rfl) hx)) ?_
        intro fr t H
        refine at_seg [(2, [])] [(0, .ptr p0), (1, .int .i64 p1), (29, .ptr (some (a7.1, a7.2 + 0)))] H (noU_all rfl) (fun fr => by kernel_rfl) ?_
        intro fr H
        obtain ⟨x4, hx, hm⟩ := bind_some hm
        refine at_step (v := .int .i64 x4) (h1 := h2) [(0, .ptr p0), (1, .int .i64 p1), (30, .int .i64 x4)] H (fun fr => by kernel_rfl) (fun fr => .of (s_ld (by kernel_rfl) (ldI_eq hx))) ?_
        intro fr t H
        refine at_seg [(4, []), (5, [])] [(0, .ptr p0), (1, .int .i64 p1), (32, .bool (x4 == (0 : Int)))] H (noU_all rfl) (fun fr => by kernel_rfl) ?_
        intro fr H
        obtain ⟨x5, ho, hm⟩ := bind_some hm
        refine at_cut [(6, []), (7, []), (8, []), (9, []), (10, []), (11, []), (12, []), (13, []), (14, []), (15, []), (16, []), (17, [])] (fun fr' h' => h2 = h' ∧ Has fr' 45 [(44, .bool x5)]) ?_ ?_
        · rcases iteB_some ho with ⟨hb, hm⟩ | ⟨hb, hm⟩
          · rw [hb] at H
            refine at_seg [(6, []), (7, []), (8, []), (9, []), (10, []), (11, []), (12, []), (13, []), (14, []), (15, []), (16, []), (17, [])] [(44, .bool true)] H (noU_all rfl) (fun fr => by kernel_rfl) ?_
            intro fr H
            have e1 := Option.some.inj hm
            subst e1
            exact at_nil ⟨rfl, H.less _ (fun fr => by kernel_rfl)⟩
          · rw [hb] at H
            refine at_seg [(6, []), (7, [])] [(0, .ptr p0), (32, .bool false), (33, .ptr p0), (34, .int .i64 p1)] H (noU_all rfl) (fun fr => by kernel_rfl) ?_
            intro fr H
            obtain ⟨a8, hx, hm⟩ := bind_some hm
            refine at_step (v := .ptr (some a8)) (h1 := h2) [(0, .ptr p0), (32, .bool false), (34, .int .i64 p1), (35, .ptr (some (a8.1, a8.2)))] H (fun fr => by kernel_rfl) (fun fr => .of (s_nc (by kernel_rfl) hx)) ?_
            intro fr t H
            refine at_seg [(9, [])] [(0, .ptr p0), (32, .bool false), (34, .int .i64 p1), (36, .ptr (some (a8.1, a8.2 + 2)))] H (noU_all rfl) (fun fr => by kernel_rfl) ?_
            intro fr H
            obtain ⟨a9, hx, hm⟩ := bind_some hm
            refine at_step (v := .ptr (some a9)) (h1 := h2) [(0, .ptr p0), (32, .bool false), (37, .ptr (some (a9.1, a9.2)))] H (fun fr => by kernel_rfl) (fun fr => .of (s_ixA (by kernel_rfl) hx)) ?_
            intro fr t H
            obtain ⟨x6, hx, hm⟩ := bind_some hm
            refine at_step (v := .int .i64 x6) (h1 := h2) [(0, .ptr p0), (32, .bool false), (38, .int .i64 x6)] H (fun fr => by kernel_rfl) (fun fr => .of (s_ld (by kernel_rfl) (ldI_eq hx))) ?_
            intro fr t H
            refine at_seg [(12, [])] [(32, .bool false), (38, .int .i64 x6), (39, .ptr p0)] H (noU_all rfl) (fun fr => by kernel_rfl) ?_
            intro fr H
            obtain ⟨a10, hx, hm⟩ := bind_some hm
            refine at_step (v := .ptr (some a10)) (h1 := h2) [(32, .bool false), (38, .int .i64 x6), (40, .ptr (some (a10.1, a10.2)))] H (fun fr => by kernel_rfl) (fun fr => .of (s_nc (by kernel_rfl) hx)) ?_
            intro fr t H
            refine at_seg [(14, [])] [(32, .bool false), (38, .int .i64 x6), (41, .ptr (some (a10.1, a10.2 + 0)))] H (noU_all rfl) (fun fr => by kernel_rfl) ?_
            intro fr H
            obtain ⟨x7, hx, hm⟩ := bind_some hm
            refine at_step (v := .int .i64 x7) (h1 := h2) [(32, .bool false), (38, .int .i64 x6), (42, .int .i64 x7)] H (fun fr => by kernel_rfl) (fun fr => .of (s_ld (by kernel_rfl) (ldI_eq hx))) ?_
            intro fr t H
            refine at_seg [(16, []), (17, [])] [(44, .bool (x6 == x7))] H (noU_all rfl) (fun fr => by kernel_rfl) ?_
            intro fr H
            have e1 := Option.some.inj hm
            subst e1
            exact at_nil ⟨rfl, H.less _ (fun fr => by kernel_rfl)⟩
        · intro t fr h' hK
          obtain ⟨e, H⟩ := hK
          subst e
          refine at_seg [(18, []), (19, [])] [(4, .bool x5), (5, .int .i64 (0 : Int))] H (noU_all rfl) (fun fr => by kernel_rfl) ?_
          intro fr H
          refine at_nil ?_
          show AW cfg 8 g (right (right (right (right (bodyC cfg.P 8))))) fr h2 _
          refine aw_ret (by kernel_rfl) ?_
          obtain ⟨e1, e2⟩ := inj2 hm
          subst e2
          obtain ⟨u0, v0⟩ := Prod.mk.inj e1
          subst u0
          subst v0
          exact (done_ret H (fun fr => by kernel_rfl) rfl : doneQ cfg.P _ _ _ _ fr _)
      · exact hF.elim
/-! ### (*boulter/occur.Picker).Count -/
noncomputable def M_occur_Picker_Count (h : AHeap) (p0 : Option (Nat × Nat)) (p1 : Int) : Option (Int) :=
 (M_occur_Picker_is h p0 p1).bind fun x1 => iteB (!x1) (some (0 : Int)) ((p0).bind fun a1 => (ixA (a1.1, a1.2 + 2) 257 1 p1).bind fun a2 => (ldI h (a2.1, a2.2) .i64).bind fun x2 => some x2)
theorem ok_occur_Picker_Count {g : Gd} {h : AHeap} {p0 : Option (Nat × Nat)} {p1 : Int} {r0 : Int} (hm : M_occur_Picker_Count h p0 p1 = some r0) : Runs cfg g h 9 [.ptr p0, .int .i64 p1] (.int .i64 r0) h := by
  refine runs2E (by kernel_rfl) (by kernel_rfl) (body_ofE (n := 15) (rs := [.tmp 4]) (by kernel_rfl) ?_)
  unfold M_occur_Picker_Count at hm
  refine start (n := 15) [(0, .ptr p0), (1, .int .i64 p1)] (by kernel_rfl) (by kernel_rfl) ?_
  intro fr H
  refine aw_seq (by kernel_rfl) ?_
  refine aw_reg (id := 0) (n := 1) [(0, [])] (by kernel_rfl) (by kernel_rfl) ?_
  refine at_seg [(0, [])] [(0, .ptr p0), (1, .int .i64 p1)] H (noU_all rfl) (fun fr => by kernel_rfl) ?_
  intro fr H
  refine at_nil ?_
  show AW cfg 9 (⟨h.size, []⟩ : Gd) (right (bodyC cfg.P 9)) fr h _
  refine aw_seq (by kernel_rfl) ?_
  refine aw_seq (by kernel_rfl) ?_
  refine aw_reg (id := 1) (n := 4) [(0, []), (1, []), (2, []), (3, [])] (by kernel_rfl) (by kernel_rfl) ?_
  refine at_seg [(0, []), (1, [])] [(0, .ptr p0), (1, .int .i64 p1), (5, .ptr p0), (6, .int .i64 p1)] H (noU_all rfl) (fun fr => by kernel_rfl) ?_
  intro fr H
  obtain ⟨x1, hx, hm⟩ := bind_some hm
  refine at_step (v := .bool x1) (h1 := h) [(0, .ptr p0), (1, .int .i64 p1), (7, .bool x1)] H (fun fr => by kernel_rfl) (fun fr => Steps.call (by kernel_rfl) (ok_occur_Picker_is hx)) ?_
  intro fr t H
  refine at_seg [(3, [])] [(0, .ptr p0), (1, .int .i64 p1), (8, .bool (!x1))] H (noU_all rfl) (fun fr => by kernel_rfl) ?_
  intro fr H
  refine at_nil ?_
  show AW cfg 9 (⟨h.size, []⟩ : Gd) (right (left (right (bodyC cfg.P 9)))) fr h _
  rcases iteB_some hm with ⟨hb, hm⟩ | ⟨hb, hm⟩
  · rw [hb] at H
    refine aw_true (x := .tmp 8) (by kernel_rfl) H (fun fr => by kernel_rfl) ?_
    refine aw_seq (by kernel_rfl) ?_
    refine aw_reg (id := 2) (n := 1) [(0, [])] (by kernel_rfl) (by kernel_rfl) ?_
    refine at_seg [(0, [])] [(4, .int .i64 (0 : Int))] H (noU_all rfl) (fun fr => by kernel_rfl) ?_
    intro fr H
    refine at_nil ?_
    show AW cfg 9 (⟨h.size, []⟩ : Gd) (right (left (right (left (right (bodyC cfg.P 9)))))) fr h _
    refine aw_ret (by kernel_rfl) ?_
    have e1 := Option.some.inj hm
    subst e1
    exact (doneE_of .ret H (fun fr => by kernel_rfl) (.inl rfl) : doneE cfg.P _ _ _ fr _)
  · rw [hb] at H
    refine aw_false (x := .tmp 8) (by kernel_rfl) H (fun fr => by kernel_rfl) ?_
    refine aw_skip (by kernel_rfl) ?_
    show AW cfg 9 (⟨h.size, []⟩ : Gd) (right (right (bodyC cfg.P 9))) fr h _
    refine aw_seq (by kernel_rfl) ?_
    refine aw_reg (id := 3) (n := 7) [(0, []), (1, []), (2, []), (3, []), (4, []), (5, []), (6, [])] (by kernel_rfl) (by kernel_rfl) ?_
    refine at_seg [(0, []), (1, [])] [(9, .ptr p0), (10, .int .i64 p1)] H (noU_all rfl) (fun fr => by kernel_rfl) ?_
    intro fr H
    obtain ⟨a1, hx, hm⟩ := bind_some hm
    refine at_step (v := .ptr (some a1)) (h1 := h) [(10, .int .i64 p1), (11, .ptr (some (a1.1, a1.2)))] H (fun fr => by kernel_rfl) (fun fr => .of (s_nc (by kernel_rfl) hx)) ?_
    intro fr t H
    refine at_seg [(3, [])] [(10, .int .i64 p1), (12, .ptr (some (a1.1, a1.2 + 2)))] H (noU_all rfl) (fun fr => by kernel_rfl) ?_
    intro fr H
    obtain ⟨a2, hx, hm⟩ := bind_some hm
    refine at_step (v := .ptr (some a2)) (h1 := h) [(13, .ptr (some (a2.1, a2.2)))] H (fun fr => by kernel_rfl) (fun fr => .of (s_ixA (by kernel_rfl) hx)) ?_
    intro fr t H
    obtain ⟨x2, hx, hm⟩ := bind_some hm
    refine at_step (v := .int .i64 x2) (h1 := h) [(14, .int .i64 x2)] H (fun fr => by kernel_rfl) (fun fr => .of (s_ld (by kernel_rfl) (ldI_eq hx))) ?_
    intro fr t H
    refine at_seg [(6, [])] [(4, .int .i64 x2)] H (noU_all rfl) (fun fr => by kernel_rfl) ?_
    intro fr H
    refine at_nil ?_
    show AW cfg 9 (⟨h.size, []⟩ : Gd) (right (right (right (bodyC cfg.P 9)))) fr h _
    refine aw_ret (by kernel_rfl) ?_
    have e1 := Option.some.inj hm
    subst e1
    exact (doneE_of .ret H (fun fr => by kernel_rfl) (.inl rfl) : doneE cfg.P _ _ _ fr _)
/-! ### (*boulter/occur.Picker).Missing -/
noncomputable def M_occur_Picker_Missing_L0 (g : Gd) (p0 : Option (Nat × Nat)) (x2 : Sl) (s : Sl × Int × AHeap) : Option ((Sl × Int × AHeap) ⊕ ((Sl × AHeap))) :=
  match s with
  | (x6, x7, h1) => iteB (decide (x7 < ((x2.n : Nat) : Int))) (((ixL x2 1 x7).bind fun a3 => (ldI h1 (a3.1, a3.2) .i64).bind fun x9 => (p0).bind fun a4 => (ldI h1 (a4.1, a4.2 + 0) .i64).bind fun x10 => iteB (decide (x9 < (mx x10 (1 : Int)))) ((some (h1.push (.cells (some 3) 2 [.int .i64 x7]))).bind fun h2 => (app 3 1 8 g h2 x6 1 (.slice (some (h1.size, 0)) 1)).bind fun (x11, h3) => some (x11, h3)) (some (x6, h1)) : Option ((Sl × AHeap))).bind fun (x8, h4) => some (.inl (x8, IntKind.i64.wrap (x7 + (1 : Int)), h4))) (some (.inr (x6, h1)))
noncomputable def M_occur_Picker_Missing (g : Gd) (h : AHeap) (p0 : Option (Nat × Nat)) : Option ((Sl) × AHeap) :=
 (p0).bind fun a1 => (p0).bind fun a2 => (ldI h (a2.1, a2.2 + 1) .i64).bind fun x1 => (subA h (a1.1, a1.2 + 2) 257 1 none (some x1)).bind fun x2 => (loop (M_occur_Picker_Missing_L0 g p0 x2) ((⟨none, 0⟩ : Sl), (0 : Int), h)).bind fun (x5, h5) => some (x5, h5)
theorem ok_occur_Picker_Missing {g : Gd} {h h' : AHeap} {p0 : Option (Nat × Nat)} {r0 : Sl} (hm : M_occur_Picker_Missing g h p0 = some (r0, h')) : Runs cfg g h 10 [.ptr p0] (.slice r0.r r0.n) h' := by
  refine runs1 (by kernel_rfl) (body_of (n := 33) (rs := [.tmp 2]) (by kernel_rfl) ?_)
  unfold M_occur_Picker_Missing at hm
  refine start (n := 33) [(0, .ptr p0)] (by kernel_rfl) (by kernel_rfl) ?_
  intro fr H
  refine aw_seq (by kernel_rfl) ?_
  refine aw_reg (id := 0) (n := 1) [(0, [])] (by kernel_rfl) (by kernel_rfl) ?_
  refine at_seg [(0, [])] [(0, .ptr p0)] H (noU_all rfl) (fun fr => by kernel_rfl) ?_
  intro fr H
  refine at_nil ?_
  show AW cfg 10 g (right (bodyC cfg.P 10)) fr h _
  refine aw_seq (by kernel_rfl) ?_
  refine aw_reg (id := 1) (n := 1) [(0, [])] (by kernel_rfl) (by kernel_rfl) ?_
  refine at_seg [(0, [])] [(0, .ptr p0), (3, .slice none 0)] H (noU_all rfl) (fun fr => by kernel_rfl) ?_
  intro fr H
  refine at_nil ?_
  show AW cfg 10 g (right (right (bodyC cfg.P 10))) fr h _
  refine aw_seq (by kernel_rfl) ?_
  refine aw_seq (by kernel_rfl) ?_
  refine aw_draw (id := 2) (n := 10) (by kernel_rfl) [(0, []), (1, []), (2, []), (3, []), (4, []), (5, []), (6, []), (7, []), (8, []), (9, [])] (by kernel_rfl) ?_
  refine at_seg [(0, [])] [(0, .ptr p0), (3, .slice none 0), (6, .ptr p0)] H (noU_all rfl) (fun fr => by kernel_rfl) ?_
  intro fr H
  obtain ⟨a1, hx, hm⟩ := bind_some hm
  refine at_step (v := .ptr (some a1)) (h1 := h) [(0, .ptr p0), (3, .slice none 0), (7, .ptr (some (a1.1, a1.2)))] H (fun fr => by kernel_rfl) (fun fr => .of (s_nc (by kernel_rfl) hx)) ?_
  intro fr t H
  refine at_seg [(2, []), (3, [])] [(0, .ptr p0), (3, .slice none 0), (8, .ptr (some (a1.1, a1.2 + 2))), (9, .ptr p0)] H (noU_all rfl) (fun fr => by kernel_rfl) ?_
  intro fr H
  obtain ⟨a2, hx, hm⟩ := bind_some hm
  refine at_step (v := .ptr (some a2)) (h1 := h) [(0, .ptr p0), (3, .slice none 0), (8, .ptr (some (a1.1, a1.2 + 2))), (10, .ptr (some (a2.1, a2.2)))] H (fun fr => by kernel_rfl) (fun fr => .of (s_nc (by kernel_rfl) hx)) ?_
  intro fr t H
  refine at_seg [(5, [])] [(0, .ptr p0), (3, .slice none 0), (8, .ptr (some (a1.1, a1.2 + 2))), (11, .ptr (some (a2.1, a2.2 + 1)))] H (noU_all rfl) (fun fr => by kernel_rfl) ?_
  intro fr H
  obtain ⟨x1, hx, hm⟩ := bind_some hm
  refine at_step (v := .int .i64 x1) (h1 := h) [(0, .ptr p0), (3, .slice none 0), (8, .ptr (some (a1.1, a1.2 + 2))), (12, .int .i64 x1)] H (fun fr => by kernel_rfl) (fun fr => .of (s_ld (by kernel_rfl) (ldI_eq hx))) ?_
  intro fr t H
  obtain ⟨x2, hx, hm⟩ := bind_some hm
  refine at_step (v := .slice x2.r x2.n) (h1 := h) [(0, .ptr p0), (3, .slice none 0), (13, .slice x2.r x2.n)] H (fun fr => by kernel_rfl) (fun fr => .of (s_subA (k := .i64) (k' := .i64) (lo := none) (hi := (some x1)) (by kernel_rfl) hx)) ?_
  intro fr t H
  refine at_seg [(8, []), (9, [])] [(0, .ptr p0), (3, .slice none 0), (13, .slice x2.r x2.n), (14, .int .i64 ((x2.n : Nat) : Int)), (15, .int .i64 (0 : Int))] H (noU_all rfl) (fun fr => by kernel_rfl) ?_
  intro fr H
  refine at_nil ?_
  show AW cfg 10 g (right (left (right (right (bodyC cfg.P 10))))) fr h _
  refine aw_block (id := 0) (by kernel_rfl) ?_
  obtain ⟨o1, ho, hm⟩ := bind_some hm
  refine aw_mono (Q' := fun e fr' h' => (∃ (x5 : Sl), e = .exit 0 ∧ (x5, h') = o1 ∧ h' = h' ∧ Has fr' 33 [(3, .slice x5.r x5.n)]) ∨ False) ?_ ?_
  · refine aw_loop (by kernel_rfl) (fun (s : Sl × Int × AHeap) fr' h' => ∃ (x6 : Sl) (x7 : Int), (x6, x7, h') = s ∧ h' = h' ∧ Has fr' 33 [(0, .ptr p0), (3, .slice x6.r x6.n), (13, .slice x2.r x2.n), (14, .int .i64 ((x2.n : Nat) : Int)), (15, .int .i64 x7)]) ho ⟨(⟨none, 0⟩ : Sl), (0 : Int), rfl, rfl, H.less _ (fun fr => by kernel_rfl)⟩ ?_
    clear ho hm H
    intro s q fr h1 hI hm
    obtain ⟨x6, x7, rfl, _, H⟩ := hI
    unfold M_occur_Picker_Missing_L0 at hm
    refine aw_seq (by kernel_rfl) ?_
    refine aw_reg (id := 3) (n := 1) [(0, [])] (by kernel_rfl) (by kernel_rfl) ?_
    refine at_seg [(0, [])] [(0, .ptr p0), (3, .slice x6.r x6.n), (13, .slice x2.r x2.n), (14, .int .i64 ((x2.n : Nat) : Int)), (15, .int .i64 x7), (16, .bool (decide (x7 < ((x2.n : Nat) : Int))))] H (noU_all rfl) (fun fr => by kernel_rfl) ?_
    intro fr H
    refine at_nil ?_
    show AW cfg 10 g (right (left (left (right (left (right (right (bodyC cfg.P 10)))))))) fr h1 _
    refine aw_seq (by kernel_rfl) ?_
    rcases iteB_some hm with ⟨hb, hm⟩ | ⟨hb, hm⟩
    · rw [hb] at H
      refine aw_true (x := .tmp 16) (by kernel_rfl) H (fun fr => by kernel_rfl) ?_
      refine aw_skip (by kernel_rfl) ?_
      show AW cfg 10 g (right (right (left (left (right (left (right (right (bodyC cfg.P 10))))))))) fr h1 _
      refine aw_seq (by kernel_rfl) ?_
      obtain ⟨o2, ho, hm⟩ := bind_some hm
      refine aw_mono (Q' := fun e fr' h' => (∃ (x8 : Sl), e = .normal ∧ (x8, h') = o2 ∧ h' = h' ∧ Has fr' 33 [(0, .ptr p0), (3, .slice x8.r x8.n), (13, .slice x2.r x2.n), (14, .int .i64 ((x2.n : Nat) : Int)), (15, .int .i64 x7)]) ∨ False) ?_ ?_
      · replace hm := ho
        clear ho
        refine aw_block (id := 1) (by kernel_rfl) ?_
        refine aw_seq (by kernel_rfl) ?_
        refine aw_reg (id := 4) (n := 5) [(0, []), (1, []), (2, []), (3, []), (4, [])] (by kernel_rfl) (by kernel_rfl) ?_
        refine at_seg [(0, [])] [(0, .ptr p0), (3, .slice x6.r x6.n), (13, .slice x2.r x2.n), (14, .int .i64 ((x2.n : Nat) : Int)), (15, .int .i64 x7), (17, .int .i64 x7)] H (noU_all rfl) (fun fr => by kernel_rfl) ?_
        intro fr H
        obtain ⟨a3, hx, hm⟩ := bind_some hm
        refine at_step (v := .ptr (some a3)) (h1 := h1) [(0, .ptr p0), (3, .slice x6.r x6.n), (13, .slice x2.r x2.n), (14, .int .i64 ((x2.n : Nat) : Int)), (15, .int .i64 x7), (17, .int .i64 x7), (18, .ptr (some (a3.1, a3.2)))] H (fun fr => by kernel_rfl) (fun fr => .of (s_ixL (s := x2) (by kernel_rfl) hx)) ?_
        intro fr t H
        obtain ⟨x9, hx, hm⟩ := bind_some hm
        refine at_step (v := .int .i64 x9) (h1 := h1) [(0, .ptr p0), (3, .slice x6.r x6.n), (13, .slice x2.r x2.n), (14, .int .i64 ((x2.n : Nat) : Int)), (15, .int .i64 x7), (17, .int .i64 x7), (19, .int .i64 x9)] H (fun fr => by kernel_rfl) (fun fr => .of (s_ld (by kernel_rfl) (ldI_eq hx))) ?_
        intro fr t H
        refine at_seg [(3, []), (4, [])] [(0, .ptr p0), (3, .slice x6.r x6.n), (4, .int .i64 x7), (5, .int .i64 x9), (13, .slice x2.r x2.n), (14, .int .i64 ((x2.n : Nat) : Int)), (15, .int .i64 x7)] H (noU_all rfl) (fun fr => by kernel_rfl) ?_
        intro fr H
        refine at_nil ?_
        show AW cfg 10 g (right (left (left (right (right (left (left (right (left (right (right (bodyC cfg.P 10)))))))))))) fr h1 _
        refine aw_seq (by kernel_rfl) ?_
        refine aw_reg (id := 5) (n := 7) [(0, []), (1, []), (2, []), (3, []), (4, []), (5, []), (6, [])] (by kernel_rfl) (by kernel_rfl) ?_
        refine at_seg [(0, []), (1, [])] [(0, .ptr p0), (3, .slice x6.r x6.n), (4, .int .i64 x7), (13, .slice x2.r x2.n), (14, .int .i64 ((x2.n : Nat) : Int)), (15, .int .i64 x7), (20, .int .i64 x9), (21, .ptr p0)] H (noU_all rfl) (fun fr => by kernel_rfl) ?_
        intro fr H
        obtain ⟨a4, hx, hm⟩ := bind_some hm
        refine at_step (v := .ptr (some a4)) (h1 := h1) [(0, .ptr p0), (3, .slice x6.r x6.n), (4, .int .i64 x7), (13, .slice x2.r x2.n), (14, .int .i64 ((x2.n : Nat) : Int)), (15, .int .i64 x7), (20, .int .i64 x9), (22, .ptr (some (a4.1, a4.2)))] H (fun fr => by kernel_rfl) (fun fr => .of (s_nc (by kernel_rfl) hx)) ?_
        intro fr t H
        refine at_seg [(3, [])] [(0, .ptr p0), (3, .slice x6.r x6.n), (4, .int .i64 x7), (13, .slice x2.r x2.n), (14, .int .i64 ((x2.n : Nat) : Int)), (15, .int .i64 x7), (20, .int .i64 x9), (23, .ptr (some (a4.1, a4.2 + 0)))] H (noU_all rfl) (fun fr => by kernel_rfl) ?_
        intro fr H
        obtain ⟨x10, hx, hm⟩ := bind_some hm
        refine at_step (v := .int .i64 x10) (h1 := h1) [(0, .ptr p0), (3, .slice x6.r x6.n), (4, .int .i64 x7), (13, .slice x2.r x2.n), (14, .int .i64 ((x2.n : Nat) : Int)), (15, .int .i64 x7), (20, .int .i64 x9), (24, .int .i64 x10)] H (fun fr => by kernel_rfl) (fun fr => .of (s_ld (by kernel_rfl) (ldI_eq hx))) ?_
        intro fr t H
        refine at_seg [(5, []), (6, [])] [(0, .ptr p0), (3, .slice x6.r x6.n), (4, .int .i64 x7), (13, .slice x2.r x2.n), (14, .int .i64 ((x2.n : Nat) : Int)), (15, .int .i64 x7), (26, .bool (decide (x9 < (mx x10 (1 : Int)))))] H (noU_all rfl) (fun fr => by kernel_rfl) ?_
        intro fr H
        refine at_nil ?_
        show AW cfg 10 g (right (right (left (left (right (right (left (left (right (left (right (right (bodyC cfg.P 10))))))))))))) fr h1 _
        rcases iteB_some hm with ⟨hb, hm⟩ | ⟨hb, hm⟩
        · rw [hb] at H
          refine aw_true (x := .tmp 26) (by kernel_rfl) H (fun fr => by kernel_rfl) ?_
          refine aw_reg (id := 6) (n := 5) [(0, []), (1, []), (2, []), (3, []), (4, [])] (by kernel_rfl) (by kernel_rfl) ?_
          refine at_seg [(0, []), (1, [])] [(0, .ptr p0), (13, .slice x2.r x2.n), (14, .int .i64 ((x2.n : Nat) : Int)), (15, .int .i64 x7), (27, .slice x6.r x6.n), (28, .int .i64 x7)] H (noU_all rfl) (fun fr => by kernel_rfl) ?_
          intro fr H
          obtain ⟨h2, hx, hm⟩ := bind_some hm
          refine at_step (v := .slice (some (h1.size, 0)) 1) (h1 := h2) [(0, .ptr p0), (13, .slice x2.r x2.n), (14, .int .i64 ((x2.n : Nat) : Int)), (15, .int .i64 x7), (27, .slice x6.r x6.n), (29, .slice (some (h1.size, 0)) 1)] H (fun fr => by kernel_rfl) (fun fr => .of (s_n' (by kernel_rfl) hx)) ?_
          intro fr t H
          obtain ⟨⟨x11, h3⟩, hx, hm⟩ := bind_some hm
          refine at_step (v := .slice x11.r x11.n) (h1 := h3) [(0, .ptr p0), (13, .slice x2.r x2.n), (14, .int .i64 ((x2.n : Nat) : Int)), (15, .int .i64 x7), (30, .slice x11.r x11.n)] H (fun fr => by kernel_rfl) (fun fr => .of (s_app (s := x6) (by kernel_rfl) hx)) ?_
          intro fr t H
          refine at_seg [(4, [])] [(0, .ptr p0), (3, .slice x11.r x11.n), (13, .slice x2.r x2.n), (14, .int .i64 ((x2.n : Nat) : Int)), (15, .int .i64 x7)] H (noU_all rfl) (fun fr => by kernel_rfl) ?_
          intro fr H
          refine at_nil ?_
          exact Or.inl ⟨x11, rfl, Option.some.inj hm, rfl, H.less _ (fun fr => by kernel_rfl)⟩
        · rw [hb] at H
          refine aw_false (x := .tmp 26) (by kernel_rfl) H (fun fr => by kernel_rfl) ?_
          refine aw_skip (by kernel_rfl) ?_
          exact Or.inl ⟨x6, rfl, Option.some.inj hm, rfl, H.less _ (fun fr => by kernel_rfl)⟩
      · clear ho
        intro e fr h4 hQ
        rcases hQ with ⟨x8, rfl, rfl, _, H⟩ | hF
        · skip
          show AW cfg 10 g (right (right (right (left (left (right (left (right (right (bodyC cfg.P 10)))))))))) fr h4 _
          refine aw_reg (id := 7) (n := 2) [(0, []), (1, [])] (by kernel_rfl) (by kernel_rfl) ?_
          refine at_seg [(0, []), (1, [])] [(0, .ptr p0), (3, .slice x8.r x8.n), (13, .slice x2.r x2.n), (14, .int .i64 ((x2.n : Nat) : Int)), (15, .int .i64 (IntKind.i64.wrap (x7 + (1 : Int))))] H (noU_all rfl) (fun fr => by kernel_rfl) ?_
          intro fr H
          refine at_nil ?_
          exact Exists.intro (x8, IntKind.i64.wrap (x7 + (1 : Int)), h4) (And.intro (Option.some.inj hm).symm ⟨x8, IntKind.i64.wrap (x7 + (1 : Int)), rfl, rfl, H.less _ (fun fr => by kernel_rfl)⟩)
        · exact hF.elim
    · rw [hb] at H
      refine aw_false (x := .tmp 16) (by kernel_rfl) H (fun fr => by kernel_rfl) ?_
      refine aw_exit (i := 0) (by kernel_rfl) ?_
      exact Exists.intro _ (And.intro (Option.some.inj hm).symm (fun e => Or.inl ⟨x6, rfl, e, rfl, H.less _ (fun fr => by kernel_rfl)⟩))
  · clear ho
    intro e fr h5 hQ
    rcases hQ with ⟨x5, rfl, rfl, _, H⟩ | hF
    · skip
      show AW cfg 10 g (right (right (right (bodyC cfg.P 10)))) fr h5 _
      refine aw_seq (by kernel_rfl) ?_
      refine aw_reg (id := 8) (n := 2) [(0, []), (1, [])] (by kernel_rfl) (by kernel_rfl) ?_
      refine at_seg [(0, []), (1, [])] [(2, .slice x5.r x5.n)] H (noU_all rfl) (fun fr => by kernel_rfl) ?_
      intro fr H
      refine at_nil ?_
      show AW cfg 10 g (right (right (right (right (bodyC cfg.P 10))))) fr h5 _
      refine aw_ret (by kernel_rfl) ?_
      obtain ⟨e1, e2⟩ := inj2 hm
      subst e2
      subst e1
      exact (done_ret H (fun fr => by kernel_rfl) rfl : doneQ cfg.P _ _ _ _ fr _)
    · exact hF.elim
/-! ### (*boulter/occur.Picker).Reset -/
noncomputable def M_occur_Picker_Reset (g : Gd) (h : AHeap) (p0 : Option (Nat × Nat)) : Option ((Unit) × AHeap) :=
 (some (h.push (.cells none 2 (zc 43)))).bind fun h1 => (p0).bind fun a1 => (subA h1 (a1.1, a1.2 + 2) 257 1 none none).bind fun x1 => (p0).bind fun a2 => (ldI h1 (a2.1, a2.2 + 1) .i64).bind fun x2 => (subA h1 (h.size, 0) 257 1 none (some x2)).bind fun x3 => (cpy 1 g h1 x1 x3.n (.slice x3.r x3.n)).bind fun (x4, h2) => some ((), h2)
theorem ok_occur_Picker_Reset {g : Gd} {h h' : AHeap} {p0 : Option (Nat × Nat)} (hm : M_occur_Picker_Reset g h p0 = some ((), h')) : Runs cfg g h 12 [.ptr p0] (.tuple []) h' := by
  refine runs1 (by kernel_rfl) (body_of (n := 13) (rs := []) (by kernel_rfl) ?_)
  unfold M_occur_Picker_Reset at hm
  refine start (n := 13) [(0, .ptr p0)] (by kernel_rfl) (by kernel_rfl) ?_
  intro fr H
  refine aw_seq (by kernel_rfl) ?_
  refine aw_reg (id := 0) (n := 1) [(0, [])] (by kernel_rfl) (by kernel_rfl) ?_
  obtain ⟨h1, hx, hm⟩ := bind_some hm
  refine at_step (v := .ptr (some (h.size, 0))) (h1 := h1) [(0, .ptr p0), (2, .ptr (some (h.size, 0)))] H (fun fr => by kernel_rfl) (fun fr => .of (s_n' (by kernel_rfl) hx)) ?_
  intro fr t H
  refine at_nil ?_
  show AW cfg 12 g (right (bodyC cfg.P 12)) fr h1 _
  refine aw_draw (id := 1) (n := 10) (by kernel_rfl) [(0, []), (1, []), (2, []), (3, []), (4, []), (5, []), (6, []), (7, []), (8, []), (9, [])] (by kernel_rfl) ?_
  refine at_seg [(0, [])] [(0, .ptr p0), (2, .ptr (some (h.size, 0))), (3, .ptr p0)] H (noU_all rfl) (fun fr => by kernel_rfl) ?_
  intro fr H
  obtain ⟨a1, hx, hm⟩ := bind_some hm
  refine at_step (v := .ptr (some a1)) (h1 := h1) [(0, .ptr p0), (2, .ptr (some (h.size, 0))), (4, .ptr (some (a1.1, a1.2)))] H (fun fr => by kernel_rfl) (fun fr => .of (s_nc (by kernel_rfl) hx)) ?_
  intro fr t H
  refine at_seg [(2, [])] [(0, .ptr p0), (2, .ptr (some (h.size, 0))), (5, .ptr (some (a1.1, a1.2 + 2)))] H (noU_all rfl) (fun fr => by kernel_rfl) ?_
  intro fr H
  obtain ⟨x1, hx, hm⟩ := bind_some hm
  refine at_step (v := .slice x1.r x1.n) (h1 := h1) [(0, .ptr p0), (2, .ptr (some (h.size, 0))), (6, .slice x1.r x1.n)] H (fun fr => by kernel_rfl) (fun fr => .of (s_subA (k := .i64) (k' := .i64) (lo := none) (hi := none) (by kernel_rfl) hx)) ?_
  intro fr t H
  refine at_seg [(4, [])] [(2, .ptr (some (h.size, 0))), (6, .slice x1.r x1.n), (7, .ptr p0)] H (noU_all rfl) (fun fr => by kernel_rfl) ?_
  intro fr H
  obtain ⟨a2, hx, hm⟩ := bind_some hm
  refine at_step (v := .ptr (some a2)) (h1 := h1) [(2, .ptr (some (h.size, 0))), (6, .slice x1.r x1.n), (8, .ptr (some (a2.1, a2.2)))] H (fun fr => by kernel_rfl) (fun fr => .of (s_nc (by kernel_rfl) hx)) ?_
  intro fr t H
  refine at_seg [(6, [])] [(2, .ptr (some (h.size, 0))), (6, .slice x1.r x1.n), (9, .ptr (some (a2.1, a2.2 + 1)))] H (noU_all rfl) (fun fr => by kernel_rfl) ?_
  intro fr H
  obtain ⟨x2, hx, hm⟩ := bind_some hm
  refine at_step (v := .int .i64 x2) (h1 := h1) [(2, .ptr (some (h.size, 0))), (6, .slice x1.r x1.n), (10, .int .i64 x2)] H (fun fr => by kernel_rfl) (fun fr => .of (s_ld (by kernel_rfl) (ldI_eq hx))) ?_
  intro fr t H
  obtain ⟨x3, hx, hm⟩ := bind_some hm
  refine at_step (v := .slice x3.r x3.n) (h1 := h1) [(6, .slice x1.r x1.n), (11, .slice x3.r x3.n)] H (fun fr => by kernel_rfl) (fun fr => .of (s_subA (k := .i64) (k' := .i64) (lo := none) (hi := (some x2)) (by kernel_rfl) hx)) ?_
  intro fr t H
  obtain ⟨⟨x4, h2⟩, hx, hm⟩ := bind_some hm
  refine at_step (v := .int .i64 x4) (h1 := h2) [] H (fun fr => by kernel_rfl) (fun fr => .of (s_cpy (d := x1) (by kernel_rfl) hx)) ?_
  intro fr t H
  refine at_nil ?_
  obtain ⟨e1, e2⟩ := inj2 hm
  subst e2
  exact (done_normal H (fun fr => by kernel_rfl) rfl : doneQ cfg.P _ _ _ _ fr _)
/-! ### (*boulter/occur.Picker).Rows -/
noncomputable def M_occur_Picker_Rows (h : AHeap) (p0 : Option (Nat × Nat)) : Option (Int) :=
 (p0).bind fun a1 => (ldI h (a1.1, a1.2 + 1) .i64).bind fun x1 => some x1
theorem ok_occur_Picker_Rows {g : Gd} {h : AHeap} {p0 : Option (Nat × Nat)} {r0 : Int} (hm : M_occur_Picker_Rows h p0 = some r0) : Runs cfg g h 15 [.ptr p0] (.int .i64 r0) h := by
  refine runs2E (by kernel_rfl) (by kernel_rfl) (body_ofE (n := 7) (rs := [.tmp 2]) (by kernel_rfl) ?_)
  unfold M_occur_Picker_Rows at hm
  refine start (n := 7) [(0, .ptr p0)] (by kernel_rfl) (by kernel_rfl) ?_
  intro fr H
  refine aw_seq (by kernel_rfl) ?_
  refine aw_reg (id := 0) (n := 1) [(0, [])] (by kernel_rfl) (by kernel_rfl) ?_
  refine at_seg [(0, [])] [(0, .ptr p0)] H (noU_all rfl) (fun fr => by kernel_rfl) ?_
  intro fr H
  refine at_nil ?_
  show AW cfg 15 (⟨h.size, []⟩ : Gd) (right (bodyC cfg.P 15)) fr h _
  refine aw_seq (by kernel_rfl) ?_
  refine aw_reg (id := 1) (n := 5) [(0, []), (1, []), (2, []), (3, []), (4, [])] (by kernel_rfl) (by kernel_rfl) ?_
  refine at_seg [(0, [])] [(3, .ptr p0)] H (noU_all rfl) (fun fr => by kernel_rfl) ?_
  intro fr H
  obtain ⟨a1, hx, hm⟩ := bind_some hm
  refine at_step (v := .ptr (some a1)) (h1 := h) [(4, .ptr (some (a1.1, a1.2)))] H (fun fr => by kernel_rfl) (fun fr => .of (s_nc (by kernel_rfl) hx)) ?_
  intro fr t H
  refine at_seg [(2, [])] [(5, .ptr (some (a1.1, a1.2 + 1)))] H (noU_all rfl) (fun fr => by kernel_rfl) ?_
  intro fr H
  obtain ⟨x1, hx, hm⟩ := bind_some hm
  refine at_step (v := .int .i64 x1) (h1 := h) [(6, .int .i64 x1)] H (fun fr => by kernel_rfl) (fun fr => .of (s_ld (by kernel_rfl) (ldI_eq hx))) ?_
  intro fr t H
  refine at_seg [(4, [])] [(2, .int .i64 x1)] H (noU_all rfl) (fun fr => by kernel_rfl) ?_
  intro fr H
  refine at_nil ?_
  show AW cfg 15 (⟨h.size, []⟩ : Gd) (right (right (bodyC cfg.P 15))) fr h _
  refine aw_ret (by kernel_rfl) ?_
  have e1 := Option.some.inj hm
  subst e1
  exact (doneE_of .ret H (fun fr => by kernel_rfl) (.inl rfl) : doneE cfg.P _ _ _ fr _)
end Go.Abs.L
