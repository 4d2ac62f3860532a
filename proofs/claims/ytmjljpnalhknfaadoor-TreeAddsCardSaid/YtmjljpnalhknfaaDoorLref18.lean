/-
  Models of functions of package ref18, and that the abstract run tells them. Written by lift.py.
-/
import Derived.Test.YtmjljpnalhknfaaDoorLCfg
namespace Go.Abs.L
open Go.Abs
set_option linter.unusedVariables false
/-! ### boulter/boulterref18.May -/
noncomputable def M_boulterref18_May (h : AHeap) (p0 : List AVal) (p1 : Int) : Option (Bool) :=
 need (p0.all AVal.one) <| (some (h.push (.cells none 2 p0))).bind fun h1 => (ldI h1 (h.size, 0) .i64).bind fun x1 => (iteB (decide (x1 < (0 : Int))) (some true) ((ldI h1 (h.size, 0) .i64).bind fun x3 => some (decide (x3 > (7 : Int)))) : Option (Bool)).bind fun x2 => iteB x2 (some false) ((ldI h1 (h.size, 0) .i64).bind fun x4 => (iteB (decide (x4 ≥ (2 : Int))) ((ldI h1 (h.size, 0) .i64).bind fun x6 => some (decide (x6 ≤ (5 : Int)))) (some false) : Option (Bool)).bind fun x5 => (ldI h1 (h.size, 0) .i64).bind fun x7 => (iteB (x7 == (2 : Int)) (some true) ((ldI h1 (h.size, 0) .i64).bind fun x9 => some (x9 == (3 : Int))) : Option (Bool)).bind fun x8 => (iteB x5 ((ldI h1 (h.size, 1) .i64).bind fun x11 => (iteB (decide (x11 < (0 : Int))) (some true) ((ldI h1 (h.size, 1) .i64).bind fun x13 => some (decide (x13 ≥ p1))) : Option (Bool)).bind fun x12 => some x12) (some false) : Option (Bool)).bind fun x10 => (iteB x10 (some true) ((iteB (!x5) ((ldI h1 (h.size, 1) .i64).bind fun x16 => some (x16 != (0 : Int))) (some false) : Option (Bool)).bind fun x15 => some x15) : Option (Bool)).bind fun x14 => (iteB x14 (some true) ((iteB x8 ((ldI h1 (h.size, 2) .i64).bind fun x19 => (iteB (decide (x19 < (0 : Int))) (some true) ((ldI h1 (h.size, 2) .i64).bind fun x21 => some (decide (x21 ≥ p1))) : Option (Bool)).bind fun x20 => some x20) (some false) : Option (Bool)).bind fun x18 => some x18) : Option (Bool)).bind fun x17 => (iteB x17 (some true) ((iteB (!x8) ((ldI h1 (h.size, 2) .i64).bind fun x24 => some (x24 != (0 : Int))) (some false) : Option (Bool)).bind fun x23 => some x23) : Option (Bool)).bind fun x22 => iteB x22 (some false) ((ldI h1 (h.size, 0) .i64).bind fun x25 => (iteB (x25 != (1 : Int)) ((ldS h1 (h.size, 6)).bind fun x27 => some (!(x27 == ([] : List UInt8)))) (some false) : Option (Bool)).bind fun x26 => iteB x26 (some false) (((ldI h1 (h.size, 0) .i64).bind fun x29 => iteB (x29 == (4 : Int)) ((ldI h1 (h.size, 3) .i64).bind fun x30 => (iteB (decide (x30 < (0 : Int))) (some true) ((ldI h1 (h.size, 3) .i64).bind fun x32 => some (decide (x32 > (255 : Int)))) : Option (Bool)).bind fun x31 => (iteB x31 (some true) ((ldI h1 (h.size, 4) .i64).bind fun x34 => some (decide (x34 < (-1 : Int)))) : Option (Bool)).bind fun x33 => (iteB x33 (some true) ((ldI h1 (h.size, 4) .i64).bind fun x36 => some (decide (x36 > (255 : Int)))) : Option (Bool)).bind fun x35 => (iteB x35 (some true) ((ldI h1 (h.size, 4) .i64).bind fun x38 => (iteB (decide (x38 ≥ (0 : Int))) ((ldI h1 (h.size, 4) .i64).bind fun x40 => (ldI h1 (h.size, 3) .i64).bind fun x41 => some (decide (x40 < x41))) (some false) : Option (Bool)).bind fun x39 => some x39) : Option (Bool)).bind fun x37 => iteB x37 (some (.inr false)) (some (.inl ()))) ((ldI h1 (h.size, 3) .i64).bind fun x42 => (iteB (x42 != (0 : Int)) (some true) ((ldI h1 (h.size, 4) .i64).bind fun x44 => some (x44 != (0 : Int))) : Option (Bool)).bind fun x43 => iteB x43 (some (.inr false)) (some (.inl ()))) : Option ((Unit) ⊕ (Bool))).bind fun o1 => (match o1 with | .inl _ => (ldI h1 (h.size, 0) .i64).bind fun x45 => iteB (x45 == (5 : Int)) ((ldI h1 (h.size, 5) .i64).bind fun x46 => (iteB (decide (x46 ≥ (1 : Int))) ((ldI h1 (h.size, 5) .i64).bind fun x48 => some (decide (x48 ≤ (1024 : Int)))) (some false) : Option (Bool)).bind fun x47 => some x47) ((ldI h1 (h.size, 5) .i64).bind fun x49 => some (x49 == (0 : Int))) | .inr x28 => some x28))))
theorem ok_boulterref18_May {g : Gd} {h : AHeap} {p0 : List AVal} {p1 : Int} {r0 : Bool} (hm : M_boulterref18_May h p0 p1 = some r0) : Runs cfg g h 9 [.agg p0, .int .i64 p1] (.bool r0) h := by
  refine runs2E (by kernel_rfl) (by kernel_rfl) (body_ofE (n := 138) (rs := [.tmp 4]) (by kernel_rfl) ?_)
  unfold M_boulterref18_May at hm
  refine start (n := 138) [(0, .agg p0), (1, .int .i64 p1)] (by kernel_rfl) (by kernel_rfl) ?_
  intro fr H
  refine aw_seq (by kernel_rfl) ?_
  refine aw_reg (id := 0) (n := 2) [(0, []), (1, [])] (by kernel_rfl) (by kernel_rfl) ?_
  obtain ⟨hb, hm⟩ := need_some hm
  obtain ⟨h1, hx, hm⟩ := bind_some hm
  refine at_step (v := .ptr (some (h.size, 0))) (h1 := h1) [(1, .int .i64 p1), (2, .ptr (some (h.size, 0)))] H (fun fr => by kernel_rfl) (fun fr => .of (s_boxG (by kernel_rfl) hb hx)) ?_
  intro fr t H
  refine at_seg [(1, [])] [(1, .int .i64 p1), (2, .ptr (some (h.size, 0)))] H (noU_all rfl) (fun fr => by kernel_rfl) ?_
  intro fr H
  refine at_nil ?_
  show AW cfg 9 (⟨h.size, []⟩ : Gd) (right (bodyC cfg.P 9)) fr h1 _
  refine aw_seq (by kernel_rfl) ?_
  refine aw_seq (by kernel_rfl) ?_
  refine aw_reg (id := 1) (n := 8) [(0, []), (1, []), (2, []), (3, []), (4, []), (5, []), (6, []), (7, [])] (by kernel_rfl) (by kernel_rfl) ?_
  refine at_seg [(0, [])] [(1, .int .i64 p1), (2, .ptr (some (h.size, 0))), (7, .ptr (some (h.size, 0)))] H (noU_all rfl) (fun fr => by kernel_rfl) ?_
  intro fr H
  obtain ⟨x1, hx, hm⟩ := bind_some hm
  refine at_step (v := .int .i64 x1) (h1 := h1) [(1, .int .i64 p1), (2, .ptr (some (h.size, 0))), (8, .int .i64 x1)] H (fun fr => by kernel_rfl) (fun fr => .of (s_ld (by kernel_rfl) (ldI_eq hx))) ?_
  intro fr t H
  refine at_seg [(2, []), (3, [])] [(1, .int .i64 p1), (2, .ptr (some (h.size, 0))), (10, .bool (decide (x1 < (0 : Int))))] H (noU_all rfl) (fun fr => by kernel_rfl) ?_
  intro fr H
  obtain ⟨x2, ho, hm⟩ := bind_some hm
  refine at_cut [(4, []), (5, []), (6, []), (7, [])] (fun fr' h' => h1 = h' ∧ Has fr' 138 [(1, .int .i64 p1), (2, .ptr (some (h.size, 0))), (14, .bool x2)]) ?_ ?_
  · rcases iteB_some ho with ⟨hb, hm⟩ | ⟨hb, hm⟩
    · replace H := H.know 10 hb (by kernel_rfl)
      refine at_seg [(4, []), (5, []), (6, []), (7, [])] [(1, .int .i64 p1), (2, .ptr (some (h.size, 0))), (14, .bool true)] H (noU_all rfl) (fun fr => by kernel_rfl) ?_
      intro fr H
      have e1 := Option.some.inj hm
      subst e1
      exact at_nil ⟨rfl, H.less _ (fun fr => by kernel_rfl)⟩
    · replace H := H.know 10 hb (by kernel_rfl)
      refine at_seg [(4, [])] [(1, .int .i64 p1), (2, .ptr (some (h.size, 0))), (10, .bool false), (11, .ptr (some (h.size, 0)))] H (noU_all rfl) (fun fr => by kernel_rfl) ?_
      intro fr H
      obtain ⟨x3, hx, hm⟩ := bind_some hm
      refine at_step (v := .int .i64 x3) (h1 := h1) [(1, .int .i64 p1), (2, .ptr (some (h.size, 0))), (10, .bool false), (12, .int .i64 x3)] H (fun fr => by kernel_rfl) (fun fr => .of (s_ld (by kernel_rfl) (ldI_eq hx))) ?_
      intro fr t H
      refine at_seg [(6, []), (7, [])] [(1, .int .i64 p1), (2, .ptr (some (h.size, 0))), (14, .bool (decide (x3 > (7 : Int))))] H (noU_all rfl) (fun fr => by kernel_rfl) ?_
      intro fr H
      have e1 := Option.some.inj hm
      subst e1
      exact at_nil ⟨rfl, H.less _ (fun fr => by kernel_rfl)⟩
  · intro t fr h' hK
    obtain ⟨e, H⟩ := hK
    subst e
    refine at_nil ?_
    show AW cfg 9 (⟨h.size, []⟩ : Gd) (right (left (right (bodyC cfg.P 9)))) fr h1 _
    rcases iteB_some hm with ⟨hb, hm⟩ | ⟨hb, hm⟩
    · replace H := H.know 14 hb (by kernel_rfl)
      refine aw_true (x := .tmp 14) (by kernel_rfl) H (fun fr => by kernel_rfl) ?_
      refine aw_seq (by kernel_rfl) ?_
      refine aw_reg (id := 2) (n := 1) [(0, [])] (by kernel_rfl) (by kernel_rfl) ?_
      refine at_seg [(0, [])] [(4, .bool false)] H (noU_all rfl) (fun fr => by kernel_rfl) ?_
      intro fr H
      refine at_nil ?_
      show AW cfg 9 (⟨h.size, []⟩ : Gd) (right (left (right (left (right (bodyC cfg.P 9)))))) fr h1 _
      refine aw_ret (by kernel_rfl) ?_
      have e1 := Option.some.inj hm
      subst e1
      exact (doneE_of .ret H (fun fr => by kernel_rfl) (.inl rfl) : doneE cfg.P _ _ _ fr _)
    · replace H := H.know 14 hb (by kernel_rfl)
      refine aw_false (x := .tmp 14) (by kernel_rfl) H (fun fr => by kernel_rfl) ?_
      refine aw_skip (by kernel_rfl) ?_
      show AW cfg 9 (⟨h.size, []⟩ : Gd) (right (right (bodyC cfg.P 9))) fr h1 _
      refine aw_seq (by kernel_rfl) ?_
      refine aw_reg (id := 3) (n := 9) [(0, []), (1, []), (2, []), (3, []), (4, []), (5, []), (6, []), (7, []), (8, [])] (by kernel_rfl) (by kernel_rfl) ?_
      refine at_seg [(0, [])] [(1, .int .i64 p1), (2, .ptr (some (h.size, 0))), (15, .ptr (some (h.size, 0)))] H (noU_all rfl) (fun fr => by kernel_rfl) ?_
      intro fr H
      obtain ⟨x4, hx, hm⟩ := bind_some hm
      refine at_step (v := .int .i64 x4) (h1 := h1) [(1, .int .i64 p1), (2, .ptr (some (h.size, 0))), (16, .int .i64 x4)] H (fun fr => by kernel_rfl) (fun fr => .of (s_ld (by kernel_rfl) (ldI_eq hx))) ?_
      intro fr t H
      refine at_seg [(2, []), (3, [])] [(1, .int .i64 p1), (2, .ptr (some (h.size, 0))), (18, .bool (decide (x4 ≥ (2 : Int))))] H (noU_all rfl) (fun fr => by kernel_rfl) ?_
      intro fr H
      obtain ⟨x5, ho, hm⟩ := bind_some hm
      refine at_cut [(4, []), (5, []), (6, []), (7, [])] (fun fr' h' => h1 = h' ∧ Has fr' 138 [(1, .int .i64 p1), (2, .ptr (some (h.size, 0))), (22, .bool x5)]) ?_ ?_
      · rcases iteB_some ho with ⟨hb, hm⟩ | ⟨hb, hm⟩
        · replace H := H.know 18 hb (by kernel_rfl)
          refine at_seg [(4, [])] [(1, .int .i64 p1), (2, .ptr (some (h.size, 0))), (18, .bool true), (19, .ptr (some (h.size, 0)))] H (noU_all rfl) (fun fr => by kernel_rfl) ?_
          intro fr H
          obtain ⟨x6, hx, hm⟩ := bind_some hm
          refine at_step (v := .int .i64 x6) (h1 := h1) [(1, .int .i64 p1), (2, .ptr (some (h.size, 0))), (18, .bool true), (20, .int .i64 x6)] H (fun fr => by kernel_rfl) (fun fr => .of (s_ld (by kernel_rfl) (ldI_eq hx))) ?_
          intro fr t H
          refine at_seg [(6, []), (7, [])] [(1, .int .i64 p1), (2, .ptr (some (h.size, 0))), (22, .bool (decide (x6 ≤ (5 : Int))))] H (noU_all rfl) (fun fr => by kernel_rfl) ?_
          intro fr H
          have e1 := Option.some.inj hm
          subst e1
          exact at_nil ⟨rfl, H.less _ (fun fr => by kernel_rfl)⟩
        · replace H := H.know 18 hb (by kernel_rfl)
          refine at_seg [(4, []), (5, []), (6, []), (7, [])] [(1, .int .i64 p1), (2, .ptr (some (h.size, 0))), (22, .bool false)] H (noU_all rfl) (fun fr => by kernel_rfl) ?_
          intro fr H
          have e1 := Option.some.inj hm
          subst e1
          exact at_nil ⟨rfl, H.less _ (fun fr => by kernel_rfl)⟩
      · intro t fr h' hK
        obtain ⟨e, H⟩ := hK
        subst e
        refine at_seg [(8, [])] [(1, .int .i64 p1), (2, .ptr (some (h.size, 0))), (5, .bool x5)] H (noU_all rfl) (fun fr => by kernel_rfl) ?_
        intro fr H
        refine at_nil ?_
        show AW cfg 9 (⟨h.size, []⟩ : Gd) (right (right (right (bodyC cfg.P 9)))) fr h1 _
        refine aw_seq (by kernel_rfl) ?_
        refine aw_reg (id := 4) (n := 9) [(0, []), (1, []), (2, []), (3, []), (4, []), (5, []), (6, []), (7, []), (8, [])] (by kernel_rfl) (by kernel_rfl) ?_
        refine at_seg [(0, [])] [(1, .int .i64 p1), (2, .ptr (some (h.size, 0))), (5, .bool x5), (23, .ptr (some (h.size, 0)))] H (noU_all rfl) (fun fr => by kernel_rfl) ?_
        intro fr H
        obtain ⟨x7, hx, hm⟩ := bind_some hm
        refine at_step (v := .int .i64 x7) (h1 := h1) [(1, .int .i64 p1), (2, .ptr (some (h.size, 0))), (5, .bool x5), (24, .int .i64 x7)] H (fun fr => by kernel_rfl) (fun fr => .of (s_ld (by kernel_rfl) (ldI_eq hx))) ?_
        intro fr t H
        refine at_seg [(2, []), (3, [])] [(1, .int .i64 p1), (2, .ptr (some (h.size, 0))), (5, .bool x5), (26, .bool (x7 == (2 : Int)))] H (noU_all rfl) (fun fr => by kernel_rfl) ?_
        intro fr H
        obtain ⟨x8, ho, hm⟩ := bind_some hm
        refine at_cut [(4, []), (5, []), (6, []), (7, [])] (fun fr' h' => h1 = h' ∧ Has fr' 138 [(1, .int .i64 p1), (2, .ptr (some (h.size, 0))), (5, .bool x5), (30, .bool x8)]) ?_ ?_
        · rcases iteB_some ho with ⟨hb, hm⟩ | ⟨hb, hm⟩
          · replace H := H.know 26 hb (by kernel_rfl)
            refine at_seg [(4, []), (5, []), (6, []), (7, [])] [(1, .int .i64 p1), (2, .ptr (some (h.size, 0))), (5, .bool x5), (30, .bool true)] H (noU_all rfl) (fun fr => by kernel_rfl) ?_
            intro fr H
            have e1 := Option.some.inj hm
            subst e1
            exact at_nil ⟨rfl, H.less _ (fun fr => by kernel_rfl)⟩
          · replace H := H.know 26 hb (by kernel_rfl)
            refine at_seg [(4, [])] [(1, .int .i64 p1), (2, .ptr (some (h.size, 0))), (5, .bool x5), (26, .bool false), (27, .ptr (some (h.size, 0)))] H (noU_all rfl) (fun fr => by kernel_rfl) ?_
            intro fr H
            obtain ⟨x9, hx, hm⟩ := bind_some hm
            refine at_step (v := .int .i64 x9) (h1 := h1) [(1, .int .i64 p1), (2, .ptr (some (h.size, 0))), (5, .bool x5), (26, .bool false), (28, .int .i64 x9)] H (fun fr => by kernel_rfl) (fun fr => .of (s_ld (by kernel_rfl) (ldI_eq hx))) ?_
            intro fr t H
            refine at_seg [(6, []), (7, [])] [(1, .int .i64 p1), (2, .ptr (some (h.size, 0))), (5, .bool x5), (30, .bool (x9 == (3 : Int)))] H (noU_all rfl) (fun fr => by kernel_rfl) ?_
            intro fr H
            have e1 := Option.some.inj hm
            subst e1
            exact at_nil ⟨rfl, H.less _ (fun fr => by kernel_rfl)⟩
        · intro t fr h' hK
          obtain ⟨e, H⟩ := hK
          subst e
          refine at_seg [(8, [])] [(1, .int .i64 p1), (2, .ptr (some (h.size, 0))), (5, .bool x5), (6, .bool x8)] H (noU_all rfl) (fun fr => by kernel_rfl) ?_
          intro fr H
          refine at_nil ?_
          show AW cfg 9 (⟨h.size, []⟩ : Gd) (right (right (right (right (bodyC cfg.P 9))))) fr h1 _
          refine aw_seq (by kernel_rfl) ?_
          refine aw_seq (by kernel_rfl) ?_
          refine aw_reg (id := 5) (n := 44) [(0, []), (1, []), (2, []), (3, []), (4, []), (5, []), (6, []), (7, []), (8, []), (9, []), (10, []), (11, []), (12, []), (13, []), (14, []), (15, []), (16, []), (17, []), (18, []), (19, []), (20, []), (21, []), (22, []), (23, []), (24, []), (25, []), (26, []), (27, []), (28, []), (29, []), (30, []), (31, []), (32, []), (33, []), (34, []), (35, []), (36, []), (37, []), (38, []), (39, []), (40, []), (41, []), (42, []), (43, [])] (by kernel_rfl) (by kernel_rfl) ?_
          refine at_seg [(0, []), (1, [])] [(1, .int .i64 p1), (2, .ptr (some (h.size, 0))), (5, .bool x5), (6, .bool x8), (32, .bool x5)] H (noU_all rfl) (fun fr => by kernel_rfl) ?_
          intro fr H
          obtain ⟨x10, ho, hm⟩ := bind_some hm
          refine at_cut [(2, []), (3, []), (4, []), (5, []), (6, []), (7, []), (8, []), (9, []), (10, []), (11, [])] (fun fr' h' => h1 = h' ∧ Has fr' 138 [(1, .int .i64 p1), (2, .ptr (some (h.size, 0))), (5, .bool x5), (6, .bool x8), (42, .bool x10)]) ?_ ?_
          · rcases iteB_some ho with ⟨hb, hm⟩ | ⟨hb, hm⟩
            · replace H := H.know 32 hb (by kernel_rfl)
              refine at_seg [(2, [])] [(1, .int .i64 p1), (2, .ptr (some (h.size, 0))), (5, .bool x5), (6, .bool x8), (32, .bool true), (33, .ptr (some (h.size, 1)))] H (noU_all rfl) (fun fr => by kernel_rfl) ?_
              intro fr H
              obtain ⟨x11, hx, hm⟩ := bind_some hm
              refine at_step (v := .int .i64 x11) (h1 := h1) [(1, .int .i64 p1), (2, .ptr (some (h.size, 0))), (5, .bool x5), (6, .bool x8), (32, .bool true), (34, .int .i64 x11)] H (fun fr => by kernel_rfl) (fun fr => .of (s_ld (by kernel_rfl) (ldI_eq hx))) ?_
              intro fr t H
              refine at_seg [(4, []), (5, [])] [(1, .int .i64 p1), (2, .ptr (some (h.size, 0))), (5, .bool x5), (6, .bool x8), (32, .bool true), (36, .bool (decide (x11 < (0 : Int))))] H (noU_all rfl) (fun fr => by kernel_rfl) ?_
              intro fr H
              obtain ⟨x12, ho, hm⟩ := bind_some hm
              refine at_cut [(6, []), (7, []), (8, []), (9, []), (10, [])] (fun fr' h' => h1 = h' ∧ Has fr' 138 [(1, .int .i64 p1), (2, .ptr (some (h.size, 0))), (5, .bool x5), (6, .bool x8), (32, .bool true), (41, .bool x12)]) ?_ ?_
              · rcases iteB_some ho with ⟨hb, hm⟩ | ⟨hb, hm⟩
                · replace H := H.know 36 hb (by kernel_rfl)
                  refine at_seg [(6, []), (7, []), (8, []), (9, []), (10, [])] [(1, .int .i64 p1), (2, .ptr (some (h.size, 0))), (5, .bool x5), (6, .bool x8), (32, .bool true), (41, .bool true)] H (noU_all rfl) (fun fr => by kernel_rfl) ?_
                  intro fr H
                  have e1 := Option.some.inj hm
                  subst e1
                  exact at_nil ⟨rfl, H.less _ (fun fr => by kernel_rfl)⟩
                · replace H := H.know 36 hb (by kernel_rfl)
                  refine at_seg [(6, [])] [(1, .int .i64 p1), (2, .ptr (some (h.size, 0))), (5, .bool x5), (6, .bool x8), (32, .bool true), (36, .bool false), (37, .ptr (some (h.size, 1)))] H (noU_all rfl) (fun fr => by kernel_rfl) ?_
                  intro fr H
                  obtain ⟨x13, hx, hm⟩ := bind_some hm
                  refine at_step (v := .int .i64 x13) (h1 := h1) [(1, .int .i64 p1), (2, .ptr (some (h.size, 0))), (5, .bool x5), (6, .bool x8), (32, .bool true), (36, .bool false), (38, .int .i64 x13)] H (fun fr => by kernel_rfl) (fun fr => .of (s_ld (by kernel_rfl) (ldI_eq hx))) ?_
                  intro fr t H
                  refine at_seg [(8, []), (9, []), (10, [])] [(1, .int .i64 p1), (2, .ptr (some (h.size, 0))), (5, .bool x5), (6, .bool x8), (32, .bool true), (41, .bool (decide (x13 ≥ p1)))] H (noU_all rfl) (fun fr => by kernel_rfl) ?_
                  intro fr H
                  have e1 := Option.some.inj hm
                  subst e1
                  exact at_nil ⟨rfl, H.less _ (fun fr => by kernel_rfl)⟩
              · intro t fr h' hK
                obtain ⟨e, H⟩ := hK
                subst e
                refine at_seg [(11, [])] [(1, .int .i64 p1), (2, .ptr (some (h.size, 0))), (5, .bool x5), (6, .bool x8), (42, .bool x12)] H (noU_all rfl) (fun fr => by kernel_rfl) ?_
                intro fr H
                have e1 := Option.some.inj hm
                subst e1
                exact at_nil ⟨rfl, H.less _ (fun fr => by kernel_rfl)⟩
            · replace H := H.know 32 hb (by kernel_rfl)
              refine at_seg [(2, []), (3, []), (4, []), (5, []), (6, []), (7, []), (8, []), (9, []), (10, []), (11, [])] [(1, .int .i64 p1), (2, .ptr (some (h.size, 0))), (5, .bool x5), (6, .bool x8), (42, .bool false)] H (noU_all rfl) (fun fr => by kernel_rfl) ?_
              intro fr H
              have e1 := Option.some.inj hm
              subst e1
              exact at_nil ⟨rfl, H.less _ (fun fr => by kernel_rfl)⟩
          · intro t fr h' hK
            obtain ⟨e, H⟩ := hK
            subst e
            refine at_seg [(12, [])] [(1, .int .i64 p1), (2, .ptr (some (h.size, 0))), (5, .bool x5), (6, .bool x8), (43, .bool x10)] H (noU_all rfl) (fun fr => by kernel_rfl) ?_
            intro fr H
            obtain ⟨x14, ho, hm⟩ := bind_some hm
            refine at_cut [(13, []), (14, []), (15, []), (16, []), (17, []), (18, []), (19, []), (20, [])] (fun fr' h' => h1 = h' ∧ Has fr' 138 [(1, .int .i64 p1), (2, .ptr (some (h.size, 0))), (6, .bool x8), (51, .bool x14)]) ?_ ?_
            · rcases iteB_some ho with ⟨hb, hm⟩ | ⟨hb, hm⟩
              · replace H := H.know 43 hb (by kernel_rfl)
                refine at_seg [(13, []), (14, []), (15, []), (16, []), (17, []), (18, []), (19, []), (20, [])] [(1, .int .i64 p1), (2, .ptr (some (h.size, 0))), (6, .bool x8), (51, .bool true)] H (noU_all rfl) (fun fr => by kernel_rfl) ?_
                intro fr H
                have e1 := Option.some.inj hm
                subst e1
                exact at_nil ⟨rfl, H.less _ (fun fr => by kernel_rfl)⟩
              · replace H := H.know 43 hb (by kernel_rfl)
                refine at_seg [(13, []), (14, []), (15, [])] [(1, .int .i64 p1), (2, .ptr (some (h.size, 0))), (6, .bool x8), (43, .bool false), (46, .bool (!x5))] H (noU_all rfl) (fun fr => by kernel_rfl) ?_
                intro fr H
                obtain ⟨x15, ho, hm⟩ := bind_some hm
                refine at_cut [(16, []), (17, []), (18, []), (19, [])] (fun fr' h' => h1 = h' ∧ Has fr' 138 [(1, .int .i64 p1), (2, .ptr (some (h.size, 0))), (6, .bool x8), (43, .bool false), (50, .bool x15)]) ?_ ?_
                · rcases iteB_some ho with ⟨hb, hm⟩ | ⟨hb, hm⟩
                  · replace H := H.know 46 hb (by kernel_rfl)
                    refine at_seg [(16, [])] [(1, .int .i64 p1), (2, .ptr (some (h.size, 0))), (6, .bool x8), (43, .bool false), (46, .bool true), (47, .ptr (some (h.size, 1)))] H (noU_all rfl) (fun fr => by kernel_rfl) ?_
                    intro fr H
                    obtain ⟨x16, hx, hm⟩ := bind_some hm
                    refine at_step (v := .int .i64 x16) (h1 := h1) [(1, .int .i64 p1), (2, .ptr (some (h.size, 0))), (6, .bool x8), (43, .bool false), (46, .bool true), (48, .int .i64 x16)] H (fun fr => by kernel_rfl) (fun fr => .of (s_ld (by kernel_rfl) (ldI_eq hx))) ?_
                    intro fr t H
                    refine at_seg [(18, []), (19, [])] [(1, .int .i64 p1), (2, .ptr (some (h.size, 0))), (6, .bool x8), (43, .bool false), (50, .bool (x16 != (0 : Int)))] H (noU_all rfl) (fun fr => by kernel_rfl) ?_
                    intro fr H
                    have e1 := Option.some.inj hm
                    subst e1
                    exact at_nil ⟨rfl, H.less _ (fun fr => by kernel_rfl)⟩
                  · replace H := H.know 46 hb (by kernel_rfl)
                    refine at_seg [(16, []), (17, []), (18, []), (19, [])] [(1, .int .i64 p1), (2, .ptr (some (h.size, 0))), (6, .bool x8), (43, .bool false), (50, .bool false)] H (noU_all rfl) (fun fr => by kernel_rfl) ?_
                    intro fr H
                    have e1 := Option.some.inj hm
                    subst e1
                    exact at_nil ⟨rfl, H.less _ (fun fr => by kernel_rfl)⟩
                · intro t fr h' hK
                  obtain ⟨e, H⟩ := hK
                  subst e
                  refine at_seg [(20, [])] [(1, .int .i64 p1), (2, .ptr (some (h.size, 0))), (6, .bool x8), (51, .bool x15)] H (noU_all rfl) (fun fr => by kernel_rfl) ?_
                  intro fr H
                  have e1 := Option.some.inj hm
                  subst e1
                  exact at_nil ⟨rfl, H.less _ (fun fr => by kernel_rfl)⟩
            · intro t fr h' hK
              obtain ⟨e, H⟩ := hK
              subst e
              refine at_seg [(21, [])] [(1, .int .i64 p1), (2, .ptr (some (h.size, 0))), (6, .bool x8), (52, .bool x14)] H (noU_all rfl) (fun fr => by kernel_rfl) ?_
              intro fr H
              obtain ⟨x17, ho, hm⟩ := bind_some hm
              refine at_cut [(22, []), (23, []), (24, []), (25, []), (26, []), (27, []), (28, []), (29, []), (30, []), (31, []), (32, []), (33, []), (34, [])] (fun fr' h' => h1 = h' ∧ Has fr' 138 [(2, .ptr (some (h.size, 0))), (6, .bool x8), (65, .bool x17)]) ?_ ?_
              · rcases iteB_some ho with ⟨hb, hm⟩ | ⟨hb, hm⟩
                · replace H := H.know 52 hb (by kernel_rfl)
                  refine at_seg [(22, []), (23, []), (24, []), (25, []), (26, []), (27, []), (28, []), (29, []), (30, []), (31, []), (32, []), (33, []), (34, [])] [(2, .ptr (some (h.size, 0))), (6, .bool x8), (65, .bool true)] H (noU_all rfl) (fun fr => by kernel_rfl) ?_
                  intro fr H
                  have e1 := Option.some.inj hm
                  subst e1
                  exact at_nil ⟨rfl, H.less _ (fun fr => by kernel_rfl)⟩
                · replace H := H.know 52 hb (by kernel_rfl)
                  refine at_seg [(22, []), (23, [])] [(1, .int .i64 p1), (2, .ptr (some (h.size, 0))), (6, .bool x8), (52, .bool false), (54, .bool x8)] H (noU_all rfl) (fun fr => by kernel_rfl) ?_
                  intro fr H
                  obtain ⟨x18, ho, hm⟩ := bind_some hm
                  refine at_cut [(24, []), (25, []), (26, []), (27, []), (28, []), (29, []), (30, []), (31, []), (32, []), (33, [])] (fun fr' h' => h1 = h' ∧ Has fr' 138 [(2, .ptr (some (h.size, 0))), (6, .bool x8), (52, .bool false), (64, .bool x18)]) ?_ ?_
                  · rcases iteB_some ho with ⟨hb, hm⟩ | ⟨hb, hm⟩
                    · replace H := H.know 54 hb (by kernel_rfl)
                      refine at_seg [(24, [])] [(1, .int .i64 p1), (2, .ptr (some (h.size, 0))), (6, .bool x8), (52, .bool false), (54, .bool true), (55, .ptr (some (h.size, 2)))] H (noU_all rfl) (fun fr => by kernel_rfl) ?_
                      intro fr H
                      obtain ⟨x19, hx, hm⟩ := bind_some hm
                      refine at_step (v := .int .i64 x19) (h1 := h1) [(1, .int .i64 p1), (2, .ptr (some (h.size, 0))), (6, .bool x8), (52, .bool false), (54, .bool true), (56, .int .i64 x19)] H (fun fr => by kernel_rfl) (fun fr => .of (s_ld (by kernel_rfl) (ldI_eq hx))) ?_
                      intro fr t H
                      refine at_seg [(26, []), (27, [])] [(1, .int .i64 p1), (2, .ptr (some (h.size, 0))), (6, .bool x8), (52, .bool false), (54, .bool true), (58, .bool (decide (x19 < (0 : Int))))] H (noU_all rfl) (fun fr => by kernel_rfl) ?_
                      intro fr H
                      obtain ⟨x20, ho, hm⟩ := bind_some hm
                      refine at_cut [(28, []), (29, []), (30, []), (31, []), (32, [])] (fun fr' h' => h1 = h' ∧ Has fr' 138 [(2, .ptr (some (h.size, 0))), (6, .bool x8), (52, .bool false), (54, .bool true), (63, .bool x20)]) ?_ ?_
                      · rcases iteB_some ho with ⟨hb, hm⟩ | ⟨hb, hm⟩
                        · replace H := H.know 58 hb (by kernel_rfl)
                          refine at_seg [(28, []), (29, []), (30, []), (31, []), (32, [])] [(2, .ptr (some (h.size, 0))), (6, .bool x8), (52, .bool false), (54, .bool true), (63, .bool true)] H (noU_all rfl) (fun fr => by kernel_rfl) ?_
                          intro fr H
                          have e1 := Option.some.inj hm
                          subst e1
                          exact at_nil ⟨rfl, H.less _ (fun fr => by kernel_rfl)⟩
                        · replace H := H.know 58 hb (by kernel_rfl)
                          refine at_seg [(28, [])] [(1, .int .i64 p1), (2, .ptr (some (h.size, 0))), (6, .bool x8), (52, .bool false), (54, .bool true), (58, .bool false), (59, .ptr (some (h.size, 2)))] H (noU_all rfl) (fun fr => by kernel_rfl) ?_
                          intro fr H
                          obtain ⟨x21, hx, hm⟩ := bind_some hm
                          refine at_step (v := .int .i64 x21) (h1 := h1) [(1, .int .i64 p1), (2, .ptr (some (h.size, 0))), (6, .bool x8), (52, .bool false), (54, .bool true), (58, .bool false), (60, .int .i64 x21)] H (fun fr => by kernel_rfl) (fun fr => .of (s_ld (by kernel_rfl) (ldI_eq hx))) ?_
                          intro fr t H
                          refine at_seg [(30, []), (31, []), (32, [])] [(2, .ptr (some (h.size, 0))), (6, .bool x8), (52, .bool false), (54, .bool true), (63, .bool (decide (x21 ≥ p1)))] H (noU_all rfl) (fun fr => by kernel_rfl) ?_
                          intro fr H
                          have e1 := Option.some.inj hm
                          subst e1
                          exact at_nil ⟨rfl, H.less _ (fun fr => by kernel_rfl)⟩
                      · intro t fr h' hK
                        obtain ⟨e, H⟩ := hK
                        subst e
                        refine at_seg [(33, [])] [(2, .ptr (some (h.size, 0))), (6, .bool x8), (52, .bool false), (64, .bool x20)] H (noU_all rfl) (fun fr => by kernel_rfl) ?_
                        intro fr H
                        have e1 := Option.some.inj hm
                        subst e1
                        exact at_nil ⟨rfl, H.less _ (fun fr => by kernel_rfl)⟩
                    · replace H := H.know 54 hb (by kernel_rfl)
                      refine at_seg [(24, []), (25, []), (26, []), (27, []), (28, []), (29, []), (30, []), (31, []), (32, []), (33, [])] [(2, .ptr (some (h.size, 0))), (6, .bool x8), (52, .bool false), (64, .bool false)] H (noU_all rfl) (fun fr => by kernel_rfl) ?_
                      intro fr H
                      have e1 := Option.some.inj hm
                      subst e1
                      exact at_nil ⟨rfl, H.less _ (fun fr => by kernel_rfl)⟩
                  · intro t fr h' hK
                    obtain ⟨e, H⟩ := hK
                    subst e
                    refine at_seg [(34, [])] [(2, .ptr (some (h.size, 0))), (6, .bool x8), (65, .bool x18)] H (noU_all rfl) (fun fr => by kernel_rfl) ?_
                    intro fr H
                    have e1 := Option.some.inj hm
                    subst e1
                    exact at_nil ⟨rfl, H.less _ (fun fr => by kernel_rfl)⟩
              · intro t fr h' hK
                obtain ⟨e, H⟩ := hK
                subst e
                refine at_seg [(35, [])] [(2, .ptr (some (h.size, 0))), (6, .bool x8), (66, .bool x17)] H (noU_all rfl) (fun fr => by kernel_rfl) ?_
                intro fr H
                obtain ⟨x22, ho, hm⟩ := bind_some hm
                refine at_cut [(36, []), (37, []), (38, []), (39, []), (40, []), (41, []), (42, []), (43, [])] (fun fr' h' => h1 = h' ∧ Has fr' 138 [(2, .ptr (some (h.size, 0))), (74, .bool x22)]) ?_ ?_
                · rcases iteB_some ho with ⟨hb, hm⟩ | ⟨hb, hm⟩
                  · replace H := H.know 66 hb (by kernel_rfl)
                    refine at_seg [(36, []), (37, []), (38, []), (39, []), (40, []), (41, []), (42, []), (43, [])] [(2, .ptr (some (h.size, 0))), (74, .bool true)] H (noU_all rfl) (fun fr => by kernel_rfl) ?_
                    intro fr H
                    have e1 := Option.some.inj hm
                    subst e1
                    exact at_nil ⟨rfl, H.less _ (fun fr => by kernel_rfl)⟩
                  · replace H := H.know 66 hb (by kernel_rfl)
                    refine at_seg [(36, []), (37, []), (38, [])] [(2, .ptr (some (h.size, 0))), (66, .bool false), (69, .bool (!x8))] H (noU_all rfl) (fun fr => by kernel_rfl) ?_
                    intro fr H
                    obtain ⟨x23, ho, hm⟩ := bind_some hm
                    refine at_cut [(39, []), (40, []), (41, []), (42, [])] (fun fr' h' => h1 = h' ∧ Has fr' 138 [(2, .ptr (some (h.size, 0))), (66, .bool false), (73, .bool x23)]) ?_ ?_
                    · rcases iteB_some ho with ⟨hb, hm⟩ | ⟨hb, hm⟩
                      · replace H := H.know 69 hb (by kernel_rfl)
                        refine at_seg [(39, [])] [(2, .ptr (some (h.size, 0))), (66, .bool false), (69, .bool true), (70, .ptr (some (h.size, 2)))] H (noU_all rfl) (fun fr => by kernel_rfl) ?_
                        intro fr H
                        obtain ⟨x24, hx, hm⟩ := bind_some hm
                        refine at_step (v := .int .i64 x24) (h1 := h1) [(2, .ptr (some (h.size, 0))), (66, .bool false), (69, .bool true), (71, .int .i64 x24)] H (fun fr => by kernel_rfl) (fun fr => .of (s_ld (by kernel_rfl) (ldI_eq hx))) ?_
                        intro fr t H
                        refine at_seg [(41, []), (42, [])] [(2, .ptr (some (h.size, 0))), (66, .bool false), (73, .bool (x24 != (0 : Int)))] H (noU_all rfl) (fun fr => by kernel_rfl) ?_
                        intro fr H
                        have e1 := Option.some.inj hm
                        subst e1
                        exact at_nil ⟨rfl, H.less _ (fun fr => by kernel_rfl)⟩
                      · replace H := H.know 69 hb (by kernel_rfl)
                        refine at_seg [(39, []), (40, []), (41, []), (42, [])] [(2, .ptr (some (h.size, 0))), (66, .bool false), (73, .bool false)] H (noU_all rfl) (fun fr => by kernel_rfl) ?_
                        intro fr H
                        have e1 := Option.some.inj hm
                        subst e1
                        exact at_nil ⟨rfl, H.less _ (fun fr => by kernel_rfl)⟩
                    · intro t fr h' hK
                      obtain ⟨e, H⟩ := hK
                      subst e
                      refine at_seg [(43, [])] [(2, .ptr (some (h.size, 0))), (74, .bool x23)] H (noU_all rfl) (fun fr => by kernel_rfl) ?_
                      intro fr H
                      have e1 := Option.some.inj hm
                      subst e1
                      exact at_nil ⟨rfl, H.less _ (fun fr => by kernel_rfl)⟩
                · intro t fr h' hK
                  obtain ⟨e, H⟩ := hK
                  subst e
                  refine at_nil ?_
                  show AW cfg 9 (⟨h.size, []⟩ : Gd) (right (left (right (right (right (right (bodyC cfg.P 9))))))) fr h1 _
                  rcases iteB_some hm with ⟨hb, hm⟩ | ⟨hb, hm⟩
                  · replace H := H.know 74 hb (by kernel_rfl)
                    refine aw_true (x := .tmp 74) (by kernel_rfl) H (fun fr => by kernel_rfl) ?_
                    refine aw_seq (by kernel_rfl) ?_
                    refine aw_reg (id := 6) (n := 1) [(0, [])] (by kernel_rfl) (by kernel_rfl) ?_
                    refine at_seg [(0, [])] [(4, .bool false)] H (noU_all rfl) (fun fr => by kernel_rfl) ?_
                    intro fr H
                    refine at_nil ?_
                    show AW cfg 9 (⟨h.size, []⟩ : Gd) (right (left (right (left (right (right (right (right (bodyC cfg.P 9))))))))) fr h1 _
                    refine aw_ret (by kernel_rfl) ?_
                    have e1 := Option.some.inj hm
                    subst e1
                    exact (doneE_of .ret H (fun fr => by kernel_rfl) (.inl rfl) : doneE cfg.P _ _ _ fr _)
                  · replace H := H.know 74 hb (by kernel_rfl)
                    refine aw_false (x := .tmp 74) (by kernel_rfl) H (fun fr => by kernel_rfl) ?_
                    refine aw_skip (by kernel_rfl) ?_
                    show AW cfg 9 (⟨h.size, []⟩ : Gd) (right (right (right (right (right (bodyC cfg.P 9)))))) fr h1 _
                    refine aw_seq (by kernel_rfl) ?_
                    refine aw_seq (by kernel_rfl) ?_
                    refine aw_reg (id := 7) (n := 8) [(0, []), (1, []), (2, []), (3, []), (4, []), (5, []), (6, []), (7, [])] (by kernel_rfl) (by kernel_rfl) ?_
                    refine at_seg [(0, [])] [(2, .ptr (some (h.size, 0))), (75, .ptr (some (h.size, 0)))] H (noU_all rfl) (fun fr => by kernel_rfl) ?_
                    intro fr H
                    obtain ⟨x25, hx, hm⟩ := bind_some hm
                    refine at_step (v := .int .i64 x25) (h1 := h1) [(2, .ptr (some (h.size, 0))), (76, .int .i64 x25)] H (fun fr => by kernel_rfl) (fun fr => .of (s_ld (by kernel_rfl) (ldI_eq hx))) ?_
                    intro fr t H
                    refine at_seg [(2, []), (3, [])] [(2, .ptr (some (h.size, 0))), (78, .bool (x25 != (1 : Int)))] H (noU_all rfl) (fun fr => by kernel_rfl) ?_
                    intro fr H
                    obtain ⟨x26, ho, hm⟩ := bind_some hm
                    refine at_cut [(4, []), (5, []), (6, []), (7, [])] (fun fr' h' => h1 = h' ∧ Has fr' 138 [(2, .ptr (some (h.size, 0))), (82, .bool x26)]) ?_ ?_
                    · rcases iteB_some ho with ⟨hb, hm⟩ | ⟨hb, hm⟩
                      · replace H := H.know 78 hb (by kernel_rfl)
                        refine at_seg [(4, [])] [(2, .ptr (some (h.size, 0))), (78, .bool true), (79, .ptr (some (h.size, 6)))] H (noU_all rfl) (fun fr => by kernel_rfl) ?_
                        intro fr H
                        obtain ⟨x27, hx, hm⟩ := bind_some hm
                        refine at_step (v := .str x27) (h1 := h1) [(2, .ptr (some (h.size, 0))), (78, .bool true), (80, .str x27)] H (fun fr => by kernel_rfl) (fun fr => .of (s_ld (by kernel_rfl) (ldS_eq hx))) ?_
                        intro fr t H
                        refine at_seg [(6, []), (7, [])] [(2, .ptr (some (h.size, 0))), (82, .bool (!(x27 == ([] : List UInt8))))] H (noU_all rfl) (fun fr => by kernel_rfl) ?_
                        intro fr H
                        have e1 := Option.some.inj hm
                        subst e1
                        exact at_nil ⟨rfl, H.less _ (fun fr => by kernel_rfl)⟩
                      · replace H := H.know 78 hb (by kernel_rfl)
                        refine at_seg [(4, []), (5, []), (6, []), (7, [])] [(2, .ptr (some (h.size, 0))), (82, .bool false)] H (noU_all rfl) (fun fr => by kernel_rfl) ?_
                        intro fr H
                        have e1 := Option.some.inj hm
                        subst e1
                        exact at_nil ⟨rfl, H.less _ (fun fr => by kernel_rfl)⟩
                    · intro t fr h' hK
                      obtain ⟨e, H⟩ := hK
                      subst e
                      refine at_nil ?_
                      show AW cfg 9 (⟨h.size, []⟩ : Gd) (right (left (right (right (right (right (right (bodyC cfg.P 9)))))))) fr h1 _
                      rcases iteB_some hm with ⟨hb, hm⟩ | ⟨hb, hm⟩
                      · replace H := H.know 82 hb (by kernel_rfl)
                        refine aw_true (x := .tmp 82) (by kernel_rfl) H (fun fr => by kernel_rfl) ?_
                        refine aw_seq (by kernel_rfl) ?_
                        refine aw_reg (id := 8) (n := 1) [(0, [])] (by kernel_rfl) (by kernel_rfl) ?_
                        refine at_seg [(0, [])] [(4, .bool false)] H (noU_all rfl) (fun fr => by kernel_rfl) ?_
                        intro fr H
                        refine at_nil ?_
                        show AW cfg 9 (⟨h.size, []⟩ : Gd) (right (left (right (left (right (right (right (right (right (bodyC cfg.P 9)))))))))) fr h1 _
                        refine aw_ret (by kernel_rfl) ?_
                        have e1 := Option.some.inj hm
                        subst e1
                        exact (doneE_of .ret H (fun fr => by kernel_rfl) (.inl rfl) : doneE cfg.P _ _ _ fr _)
                      · replace H := H.know 82 hb (by kernel_rfl)
                        refine aw_false (x := .tmp 82) (by kernel_rfl) H (fun fr => by kernel_rfl) ?_
                        refine aw_skip (by kernel_rfl) ?_
                        show AW cfg 9 (⟨h.size, []⟩ : Gd) (right (right (right (right (right (right (bodyC cfg.P 9))))))) fr h1 _
                        refine aw_seq (by kernel_rfl) ?_
                        obtain ⟨o1, ho, hm⟩ := bind_some hm
                        refine aw_mono (Q' := fun e fr' h' => (e = .normal ∧ .inl () = o1 ∧ h1 = h' ∧ Has fr' 138 [(2, .ptr (some (h.size, 0)))]) ∨ (∃ (x28 : Bool), e = .ret ∧ .inr x28 = o1 ∧ h1 = h' ∧ Has fr' 138 [(4, .bool x28)]) ∨ False) ?_ ?_
                        · replace hm := ho
                          clear ho
                          refine aw_seq (by kernel_rfl) ?_
                          refine aw_reg (id := 9) (n := 3) [(0, []), (1, []), (2, [])] (by kernel_rfl) (by kernel_rfl) ?_
                          refine at_seg [(0, [])] [(2, .ptr (some (h.size, 0))), (83, .ptr (some (h.size, 0)))] H (noU_all rfl) (fun fr => by kernel_rfl) ?_
                          intro fr H
                          obtain ⟨x29, hx, hm⟩ := bind_some hm
                          refine at_step (v := .int .i64 x29) (h1 := h1) [(2, .ptr (some (h.size, 0))), (84, .int .i64 x29)] H (fun fr => by kernel_rfl) (fun fr => .of (s_ld (by kernel_rfl) (ldI_eq hx))) ?_
                          intro fr t H
                          refine at_seg [(2, [])] [(2, .ptr (some (h.size, 0))), (85, .bool (x29 == (4 : Int)))] H (noU_all rfl) (fun fr => by kernel_rfl) ?_
                          intro fr H
                          refine at_nil ?_
                          show AW cfg 9 (⟨h.size, []⟩ : Gd) (right (left (right (right (right (right (right (right (bodyC cfg.P 9))))))))) fr h1 _
                          rcases iteB_some hm with ⟨hb, hm⟩ | ⟨hb, hm⟩
                          · replace H := H.know 85 hb (by kernel_rfl)
                            refine aw_true (x := .tmp 85) (by kernel_rfl) H (fun fr => by kernel_rfl) ?_
                            refine aw_seq (by kernel_rfl) ?_
                            refine aw_reg (id := 10) (n := 30) [(0, []), (1, []), (2, []), (3, []), (4, []), (5, []), (6, []), (7, []), (8, []), (9, []), (10, []), (11, []), (12, []), (13, []), (14, []), (15, []), (16, []), (17, []), (18, []), (19, []), (20, []), (21, []), (22, []), (23, []), (24, []), (25, []), (26, []), (27, []), (28, []), (29, [])] (by kernel_rfl) (by kernel_rfl) ?_
                            refine at_seg [(0, [])] [(2, .ptr (some (h.size, 0))), (86, .ptr (some (h.size, 3)))] H (noU_all rfl) (fun fr => by kernel_rfl) ?_
                            intro fr H
                            obtain ⟨x30, hx, hm⟩ := bind_some hm
                            refine at_step (v := .int .i64 x30) (h1 := h1) [(2, .ptr (some (h.size, 0))), (87, .int .i64 x30)] H (fun fr => by kernel_rfl) (fun fr => .of (s_ld (by kernel_rfl) (ldI_eq hx))) ?_
                            intro fr t H
                            refine at_seg [(2, []), (3, [])] [(2, .ptr (some (h.size, 0))), (89, .bool (decide (x30 < (0 : Int))))] H (noU_all rfl) (fun fr => by kernel_rfl) ?_
                            intro fr H
                            obtain ⟨x31, ho, hm⟩ := bind_some hm
                            refine at_cut [(4, []), (5, []), (6, []), (7, [])] (fun fr' h' => h1 = h' ∧ Has fr' 138 [(2, .ptr (some (h.size, 0))), (93, .bool x31)]) ?_ ?_
                            · rcases iteB_some ho with ⟨hb, hm⟩ | ⟨hb, hm⟩
                              · replace H := H.know 89 hb (by kernel_rfl)
                                refine at_seg [(4, []), (5, []), (6, []), (7, [])] [(2, .ptr (some (h.size, 0))), (93, .bool true)] H (noU_all rfl) (fun fr => by kernel_rfl) ?_
                                intro fr H
                                have e1 := Option.some.inj hm
                                subst e1
                                exact at_nil ⟨rfl, H.less _ (fun fr => by kernel_rfl)⟩
                              · replace H := H.know 89 hb (by kernel_rfl)
                                refine at_seg [(4, [])] [(2, .ptr (some (h.size, 0))), (89, .bool false), (90, .ptr (some (h.size, 3)))] H (noU_all rfl) (fun fr => by kernel_rfl) ?_
                                intro fr H
                                obtain ⟨x32, hx, hm⟩ := bind_some hm
                                refine at_step (v := .int .i64 x32) (h1 := h1) [(2, .ptr (some (h.size, 0))), (89, .bool false), (91, .int .i64 x32)] H (fun fr => by kernel_rfl) (fun fr => .of (s_ld (by kernel_rfl) (ldI_eq hx))) ?_
                                intro fr t H
                                refine at_seg [(6, []), (7, [])] [(2, .ptr (some (h.size, 0))), (93, .bool (decide (x32 > (255 : Int))))] H (noU_all rfl) (fun fr => by kernel_rfl) ?_
                                intro fr H
                                have e1 := Option.some.inj hm
                                subst e1
                                exact at_nil ⟨rfl, H.less _ (fun fr => by kernel_rfl)⟩
                            · intro t fr h' hK
                              obtain ⟨e, H⟩ := hK
                              subst e
                              refine at_seg [(8, [])] [(2, .ptr (some (h.size, 0))), (94, .bool x31)] H (noU_all rfl) (fun fr => by kernel_rfl) ?_
                              intro fr H
                              obtain ⟨x33, ho, hm⟩ := bind_some hm
                              refine at_cut [(9, []), (10, []), (11, []), (12, [])] (fun fr' h' => h1 = h' ∧ Has fr' 138 [(2, .ptr (some (h.size, 0))), (98, .bool x33)]) ?_ ?_
                              · rcases iteB_some ho with ⟨hb, hm⟩ | ⟨hb, hm⟩
                                · replace H := H.know 94 hb (by kernel_rfl)
                                  refine at_seg [(9, []), (10, []), (11, []), (12, [])] [(2, .ptr (some (h.size, 0))), (98, .bool true)] H (noU_all rfl) (fun fr => by kernel_rfl) ?_
                                  intro fr H
                                  have e1 := Option.some.inj hm
                                  subst e1
                                  exact at_nil ⟨rfl, H.less _ (fun fr => by kernel_rfl)⟩
                                · replace H := H.know 94 hb (by kernel_rfl)
                                  refine at_seg [(9, [])] [(2, .ptr (some (h.size, 0))), (94, .bool false), (95, .ptr (some (h.size, 4)))] H (noU_all rfl) (fun fr => by kernel_rfl) ?_
                                  intro fr H
                                  obtain ⟨x34, hx, hm⟩ := bind_some hm
                                  refine at_step (v := .int .i64 x34) (h1 := h1) [(2, .ptr (some (h.size, 0))), (94, .bool false), (96, .int .i64 x34)] H (fun fr => by kernel_rfl) (fun fr => .of (s_ld (by kernel_rfl) (ldI_eq hx))) ?_
                                  intro fr t H
                                  refine at_seg [(11, []), (12, [])] [(2, .ptr (some (h.size, 0))), (98, .bool (decide (x34 < (-1 : Int))))] H (noU_all rfl) (fun fr => by kernel_rfl) ?_
                                  intro fr H
                                  have e1 := Option.some.inj hm
                                  subst e1
                                  exact at_nil ⟨rfl, H.less _ (fun fr => by kernel_rfl)⟩
                              · intro t fr h' hK
                                obtain ⟨e, H⟩ := hK
                                subst e
                                refine at_seg [(13, [])] [(2, .ptr (some (h.size, 0))), (99, .bool x33)] H (noU_all rfl) (fun fr => by kernel_rfl) ?_
                                intro fr H
                                obtain ⟨x35, ho, hm⟩ := bind_some hm
                                refine at_cut [(14, []), (15, []), (16, []), (17, [])] (fun fr' h' => h1 = h' ∧ Has fr' 138 [(2, .ptr (some (h.size, 0))), (103, .bool x35)]) ?_ ?_
                                · rcases iteB_some ho with ⟨hb, hm⟩ | ⟨hb, hm⟩
                                  · replace H := H.know 99 hb (by kernel_rfl)
                                    refine at_seg [(14, []), (15, []), (16, []), (17, [])] [(2, .ptr (some (h.size, 0))), (103, .bool true)] H (noU_all rfl) (fun fr => by kernel_rfl) ?_
                                    intro fr H
                                    have e1 := Option.some.inj hm
                                    subst e1
                                    exact at_nil ⟨rfl, H.less _ (fun fr => by kernel_rfl)⟩
                                  · replace H := H.know 99 hb (by kernel_rfl)
                                    refine at_seg [(14, [])] [(2, .ptr (some (h.size, 0))), (99, .bool false), (100, .ptr (some (h.size, 4)))] H (noU_all rfl) (fun fr => by kernel_rfl) ?_
                                    intro fr H
                                    obtain ⟨x36, hx, hm⟩ := bind_some hm
                                    refine at_step (v := .int .i64 x36) (h1 := h1) [(2, .ptr (some (h.size, 0))), (99, .bool false), (101, .int .i64 x36)] H (fun fr => by kernel_rfl) (fun fr => .of (s_ld (by kernel_rfl) (ldI_eq hx))) ?_
                                    intro fr t H
                                    refine at_seg [(16, []), (17, [])] [(2, .ptr (some (h.size, 0))), (103, .bool (decide (x36 > (255 : Int))))] H (noU_all rfl) (fun fr => by kernel_rfl) ?_
                                    intro fr H
                                    have e1 := Option.some.inj hm
                                    subst e1
                                    exact at_nil ⟨rfl, H.less _ (fun fr => by kernel_rfl)⟩
                                · intro t fr h' hK
                                  obtain ⟨e, H⟩ := hK
                                  subst e
                                  refine at_seg [(18, [])] [(2, .ptr (some (h.size, 0))), (104, .bool x35)] H (noU_all rfl) (fun fr => by kernel_rfl) ?_
                                  intro fr H
                                  obtain ⟨x37, ho, hm⟩ := bind_some hm
                                  refine at_cut [(19, []), (20, []), (21, []), (22, []), (23, []), (24, []), (25, []), (26, []), (27, []), (28, []), (29, [])] (fun fr' h' => h1 = h' ∧ Has fr' 138 [(2, .ptr (some (h.size, 0))), (115, .bool x37)]) ?_ ?_
                                  · rcases iteB_some ho with ⟨hb, hm⟩ | ⟨hb, hm⟩
                                    · replace H := H.know 104 hb (by kernel_rfl)
                                      refine at_seg [(19, []), (20, []), (21, []), (22, []), (23, []), (24, []), (25, []), (26, []), (27, []), (28, []), (29, [])] [(2, .ptr (some (h.size, 0))), (115, .bool true)] H (noU_all rfl) (fun fr => by kernel_rfl) ?_
                                      intro fr H
                                      have e1 := Option.some.inj hm
                                      subst e1
                                      exact at_nil ⟨rfl, H.less _ (fun fr => by kernel_rfl)⟩
                                    · replace H := H.know 104 hb (by kernel_rfl)
                                      refine at_seg [(19, [])] [(2, .ptr (some (h.size, 0))), (104, .bool false), (105, .ptr (some (h.size, 4)))] H (noU_all rfl) (fun fr => by kernel_rfl) ?_
                                      intro fr H
                                      obtain ⟨x38, hx, hm⟩ := bind_some hm
                                      refine at_step (v := .int .i64 x38) (h1 := h1) [(2, .ptr (some (h.size, 0))), (104, .bool false), (106, .int .i64 x38)] H (fun fr => by kernel_rfl) (fun fr => .of (s_ld (by kernel_rfl) (ldI_eq hx))) ?_
                                      intro fr t H
                                      refine at_seg [(21, []), (22, [])] [(2, .ptr (some (h.size, 0))), (104, .bool false), (108, .bool (decide (x38 ≥ (0 : Int))))] H (noU_all rfl) (fun fr => by kernel_rfl) ?_
                                      intro fr H
                                      obtain ⟨x39, ho, hm⟩ := bind_some hm
                                      refine at_cut [(23, []), (24, []), (25, []), (26, []), (27, []), (28, [])] (fun fr' h' => h1 = h' ∧ Has fr' 138 [(2, .ptr (some (h.size, 0))), (104, .bool false), (114, .bool x39)]) ?_ ?_
                                      · rcases iteB_some ho with ⟨hb, hm⟩ | ⟨hb, hm⟩
                                        · replace H := H.know 108 hb (by kernel_rfl)
                                          refine at_seg [(23, [])] [(2, .ptr (some (h.size, 0))), (104, .bool false), (108, .bool true), (109, .ptr (some (h.size, 4)))] H (noU_all rfl) (fun fr => by kernel_rfl) ?_
                                          intro fr H
                                          obtain ⟨x40, hx, hm⟩ := bind_some hm
                                          refine at_step (v := .int .i64 x40) (h1 := h1) [(2, .ptr (some (h.size, 0))), (104, .bool false), (108, .bool true), (110, .int .i64 x40)] H (fun fr => by kernel_rfl) (fun fr => .of (s_ld (by kernel_rfl) (ldI_eq hx))) ?_
                                          intro fr t H
                                          refine at_seg [(25, [])] [(2, .ptr (some (h.size, 0))), (104, .bool false), (108, .bool true), (110, .int .i64 x40), (111, .ptr (some (h.size, 3)))] H (noU_all rfl) (fun fr => by kernel_rfl) ?_
                                          intro fr H
                                          obtain ⟨x41, hx, hm⟩ := bind_some hm
                                          refine at_step (v := .int .i64 x41) (h1 := h1) [(2, .ptr (some (h.size, 0))), (104, .bool false), (108, .bool true), (110, .int .i64 x40), (112, .int .i64 x41)] H (fun fr => by kernel_rfl) (fun fr => .of (s_ld (by kernel_rfl) (ldI_eq hx))) ?_
                                          intro fr t H
                                          refine at_seg [(27, []), (28, [])] [(2, .ptr (some (h.size, 0))), (104, .bool false), (114, .bool (decide (x40 < x41)))] H (noU_all rfl) (fun fr => by kernel_rfl) ?_
                                          intro fr H
                                          have e1 := Option.some.inj hm
                                          subst e1
                                          exact at_nil ⟨rfl, H.less _ (fun fr => by kernel_rfl)⟩
                                        · replace H := H.know 108 hb (by kernel_rfl)
                                          refine at_seg [(23, []), (24, []), (25, []), (26, []), (27, []), (28, [])] [(2, .ptr (some (h.size, 0))), (104, .bool false), (114, .bool false)] H (noU_all rfl) (fun fr => by kernel_rfl) ?_
                                          intro fr H
                                          have e1 := Option.some.inj hm
                                          subst e1
                                          exact at_nil ⟨rfl, H.less _ (fun fr => by kernel_rfl)⟩
                                      · intro t fr h' hK
                                        obtain ⟨e, H⟩ := hK
                                        subst e
                                        refine at_seg [(29, [])] [(2, .ptr (some (h.size, 0))), (115, .bool x39)] H (noU_all rfl) (fun fr => by kernel_rfl) ?_
                                        intro fr H
                                        have e1 := Option.some.inj hm
                                        subst e1
                                        exact at_nil ⟨rfl, H.less _ (fun fr => by kernel_rfl)⟩
                                  · intro t fr h' hK
                                    obtain ⟨e, H⟩ := hK
                                    subst e
                                    refine at_nil ?_
                                    show AW cfg 9 (⟨h.size, []⟩ : Gd) (right (left (right (left (right (right (right (right (right (right (bodyC cfg.P 9))))))))))) fr h1 _
                                    rcases iteB_some hm with ⟨hb, hm⟩ | ⟨hb, hm⟩
                                    · replace H := H.know 115 hb (by kernel_rfl)
                                      refine aw_true (x := .tmp 115) (by kernel_rfl) H (fun fr => by kernel_rfl) ?_
                                      refine aw_seq (by kernel_rfl) ?_
                                      refine aw_reg (id := 11) (n := 1) [(0, [])] (by kernel_rfl) (by kernel_rfl) ?_
                                      refine at_seg [(0, [])] [(4, .bool false)] H (noU_all rfl) (fun fr => by kernel_rfl) ?_
                                      intro fr H
                                      refine at_nil ?_
                                      show AW cfg 9 (⟨h.size, []⟩ : Gd) (right (left (right (left (right (left (right (right (right (right (right (right (bodyC cfg.P 9))))))))))))) fr h1 _
                                      refine aw_ret (by kernel_rfl) ?_
                                      exact Or.inr (Or.inl ⟨false, rfl, Option.some.inj hm, rfl, H.less _ (fun fr => by kernel_rfl)⟩)
                                    · replace H := H.know 115 hb (by kernel_rfl)
                                      refine aw_false (x := .tmp 115) (by kernel_rfl) H (fun fr => by kernel_rfl) ?_
                                      refine aw_skip (by kernel_rfl) ?_
                                      exact Or.inl ⟨rfl, Option.some.inj hm, rfl, H.less _ (fun fr => by kernel_rfl)⟩
                          · replace H := H.know 85 hb (by kernel_rfl)
                            refine aw_false (x := .tmp 85) (by kernel_rfl) H (fun fr => by kernel_rfl) ?_
                            refine aw_seq (by kernel_rfl) ?_
                            refine aw_reg (id := 12) (n := 8) [(0, []), (1, []), (2, []), (3, []), (4, []), (5, []), (6, []), (7, [])] (by kernel_rfl) (by kernel_rfl) ?_
                            refine at_seg [(0, [])] [(2, .ptr (some (h.size, 0))), (116, .ptr (some (h.size, 3)))] H (noU_all rfl) (fun fr => by kernel_rfl) ?_
                            intro fr H
                            obtain ⟨x42, hx, hm⟩ := bind_some hm
                            refine at_step (v := .int .i64 x42) (h1 := h1) [(2, .ptr (some (h.size, 0))), (117, .int .i64 x42)] H (fun fr => by kernel_rfl) (fun fr => .of (s_ld (by kernel_rfl) (ldI_eq hx))) ?_
                            intro fr t H
                            refine at_seg [(2, []), (3, [])] [(2, .ptr (some (h.size, 0))), (119, .bool (x42 != (0 : Int)))] H (noU_all rfl) (fun fr => by kernel_rfl) ?_
                            intro fr H
                            obtain ⟨x43, ho, hm⟩ := bind_some hm
                            refine at_cut [(4, []), (5, []), (6, []), (7, [])] (fun fr' h' => h1 = h' ∧ Has fr' 138 [(2, .ptr (some (h.size, 0))), (123, .bool x43)]) ?_ ?_
                            · rcases iteB_some ho with ⟨hb, hm⟩ | ⟨hb, hm⟩
                              · replace H := H.know 119 hb (by kernel_rfl)
                                refine at_seg [(4, []), (5, []), (6, []), (7, [])] [(2, .ptr (some (h.size, 0))), (123, .bool true)] H (noU_all rfl) (fun fr => by kernel_rfl) ?_
                                intro fr H
                                have e1 := Option.some.inj hm
                                subst e1
                                exact at_nil ⟨rfl, H.less _ (fun fr => by kernel_rfl)⟩
                              · replace H := H.know 119 hb (by kernel_rfl)
                                refine at_seg [(4, [])] [(2, .ptr (some (h.size, 0))), (119, .bool false), (120, .ptr (some (h.size, 4)))] H (noU_all rfl) (fun fr => by kernel_rfl) ?_
                                intro fr H
                                obtain ⟨x44, hx, hm⟩ := bind_some hm
                                refine at_step (v := .int .i64 x44) (h1 := h1) [(2, .ptr (some (h.size, 0))), (119, .bool false), (121, .int .i64 x44)] H (fun fr => by kernel_rfl) (fun fr => .of (s_ld (by kernel_rfl) (ldI_eq hx))) ?_
                                intro fr t H
                                refine at_seg [(6, []), (7, [])] [(2, .ptr (some (h.size, 0))), (123, .bool (x44 != (0 : Int)))] H (noU_all rfl) (fun fr => by kernel_rfl) ?_
                                intro fr H
                                have e1 := Option.some.inj hm
                                subst e1
                                exact at_nil ⟨rfl, H.less _ (fun fr => by kernel_rfl)⟩
                            · intro t fr h' hK
                              obtain ⟨e, H⟩ := hK
                              subst e
                              refine at_nil ?_
                              show AW cfg 9 (⟨h.size, []⟩ : Gd) (right (right (right (left (right (right (right (right (right (right (bodyC cfg.P 9))))))))))) fr h1 _
                              rcases iteB_some hm with ⟨hb, hm⟩ | ⟨hb, hm⟩
                              · replace H := H.know 123 hb (by kernel_rfl)
                                refine aw_true (x := .tmp 123) (by kernel_rfl) H (fun fr => by kernel_rfl) ?_
                                refine aw_seq (by kernel_rfl) ?_
                                refine aw_reg (id := 13) (n := 1) [(0, [])] (by kernel_rfl) (by kernel_rfl) ?_
                                refine at_seg [(0, [])] [(4, .bool false)] H (noU_all rfl) (fun fr => by kernel_rfl) ?_
                                intro fr H
                                refine at_nil ?_
                                show AW cfg 9 (⟨h.size, []⟩ : Gd) (right (left (right (right (right (left (right (right (right (right (right (right (bodyC cfg.P 9))))))))))))) fr h1 _
                                refine aw_ret (by kernel_rfl) ?_
                                exact Or.inr (Or.inl ⟨false, rfl, Option.some.inj hm, rfl, H.less _ (fun fr => by kernel_rfl)⟩)
                              · replace H := H.know 123 hb (by kernel_rfl)
                                refine aw_false (x := .tmp 123) (by kernel_rfl) H (fun fr => by kernel_rfl) ?_
                                refine aw_skip (by kernel_rfl) ?_
                                exact Or.inl ⟨rfl, Option.some.inj hm, rfl, H.less _ (fun fr => by kernel_rfl)⟩
                        · clear ho
                          intro e fr hz hQ
                          rcases hQ with ⟨rfl, rfl, rfl, H⟩ | ⟨x28, rfl, rfl, rfl, H⟩ | hF
                          · skip
                            show AW cfg 9 (⟨h.size, []⟩ : Gd) (right (right (right (right (right (right (right (bodyC cfg.P 9)))))))) fr h1 _
                            refine aw_seq (by kernel_rfl) ?_
                            refine aw_seq (by kernel_rfl) ?_
                            refine aw_reg (id := 14) (n := 3) [(0, []), (1, []), (2, [])] (by kernel_rfl) (by kernel_rfl) ?_
                            refine at_seg [(0, [])] [(2, .ptr (some (h.size, 0))), (124, .ptr (some (h.size, 0)))] H (noU_all rfl) (fun fr => by kernel_rfl) ?_
                            intro fr H
                            obtain ⟨x45, hx, hm⟩ := bind_some hm
                            refine at_step (v := .int .i64 x45) (h1 := h1) [(2, .ptr (some (h.size, 0))), (125, .int .i64 x45)] H (fun fr => by kernel_rfl) (fun fr => .of (s_ld (by kernel_rfl) (ldI_eq hx))) ?_
                            intro fr t H
                            refine at_seg [(2, [])] [(2, .ptr (some (h.size, 0))), (126, .bool (x45 == (5 : Int)))] H (noU_all rfl) (fun fr => by kernel_rfl) ?_
                            intro fr H
                            refine at_nil ?_
                            show AW cfg 9 (⟨h.size, []⟩ : Gd) (right (left (right (right (right (right (right (right (right (bodyC cfg.P 9)))))))))) fr h1 _
                            rcases iteB_some hm with ⟨hb, hm⟩ | ⟨hb, hm⟩
                            · replace H := H.know 126 hb (by kernel_rfl)
                              refine aw_true (x := .tmp 126) (by kernel_rfl) H (fun fr => by kernel_rfl) ?_
                              refine aw_seq (by kernel_rfl) ?_
                              refine aw_reg (id := 15) (n := 9) [(0, []), (1, []), (2, []), (3, []), (4, []), (5, []), (6, []), (7, []), (8, [])] (by kernel_rfl) (by kernel_rfl) ?_
                              refine at_seg [(0, [])] [(2, .ptr (some (h.size, 0))), (127, .ptr (some (h.size, 5)))] H (noU_all rfl) (fun fr => by kernel_rfl) ?_
                              intro fr H
                              obtain ⟨x46, hx, hm⟩ := bind_some hm
                              refine at_step (v := .int .i64 x46) (h1 := h1) [(2, .ptr (some (h.size, 0))), (128, .int .i64 x46)] H (fun fr => by kernel_rfl) (fun fr => .of (s_ld (by kernel_rfl) (ldI_eq hx))) ?_
                              intro fr t H
                              refine at_seg [(2, []), (3, [])] [(2, .ptr (some (h.size, 0))), (130, .bool (decide (x46 ≥ (1 : Int))))] H (noU_all rfl) (fun fr => by kernel_rfl) ?_
                              intro fr H
                              obtain ⟨x47, ho, hm⟩ := bind_some hm
                              refine at_cut [(4, []), (5, []), (6, []), (7, [])] (fun fr' h' => h1 = h' ∧ Has fr' 138 [(134, .bool x47)]) ?_ ?_
                              · rcases iteB_some ho with ⟨hb, hm⟩ | ⟨hb, hm⟩
                                · replace H := H.know 130 hb (by kernel_rfl)
                                  refine at_seg [(4, [])] [(130, .bool true), (131, .ptr (some (h.size, 5)))] H (noU_all rfl) (fun fr => by kernel_rfl) ?_
                                  intro fr H
                                  obtain ⟨x48, hx, hm⟩ := bind_some hm
                                  refine at_step (v := .int .i64 x48) (h1 := h1) [(130, .bool true), (132, .int .i64 x48)] H (fun fr => by kernel_rfl) (fun fr => .of (s_ld (by kernel_rfl) (ldI_eq hx))) ?_
                                  intro fr t H
                                  refine at_seg [(6, []), (7, [])] [(134, .bool (decide (x48 ≤ (1024 : Int))))] H (noU_all rfl) (fun fr => by kernel_rfl) ?_
                                  intro fr H
                                  have e1 := Option.some.inj hm
                                  subst e1
                                  exact at_nil ⟨rfl, H.less _ (fun fr => by kernel_rfl)⟩
                                · replace H := H.know 130 hb (by kernel_rfl)
                                  refine at_seg [(4, []), (5, []), (6, []), (7, [])] [(134, .bool false)] H (noU_all rfl) (fun fr => by kernel_rfl) ?_
                                  intro fr H
                                  have e1 := Option.some.inj hm
                                  subst e1
                                  exact at_nil ⟨rfl, H.less _ (fun fr => by kernel_rfl)⟩
                              · intro t fr h' hK
                                obtain ⟨e, H⟩ := hK
                                subst e
                                refine at_seg [(8, [])] [(4, .bool x47)] H (noU_all rfl) (fun fr => by kernel_rfl) ?_
                                intro fr H
                                refine at_nil ?_
                                show AW cfg 9 (⟨h.size, []⟩ : Gd) (right (left (right (left (right (right (right (right (right (right (right (bodyC cfg.P 9)))))))))))) fr h1 _
                                refine aw_ret (by kernel_rfl) ?_
                                have e1 := Option.some.inj hm
                                subst e1
                                exact (doneE_of .ret H (fun fr => by kernel_rfl) (.inl rfl) : doneE cfg.P _ _ _ fr _)
                            · replace H := H.know 126 hb (by kernel_rfl)
                              refine aw_false (x := .tmp 126) (by kernel_rfl) H (fun fr => by kernel_rfl) ?_
                              refine aw_skip (by kernel_rfl) ?_
                              show AW cfg 9 (⟨h.size, []⟩ : Gd) (right (right (right (right (right (right (right (right (bodyC cfg.P 9))))))))) fr h1 _
                              refine aw_seq (by kernel_rfl) ?_
                              refine aw_reg (id := 16) (n := 4) [(0, []), (1, []), (2, []), (3, [])] (by kernel_rfl) (by kernel_rfl) ?_
                              refine at_seg [(0, [])] [(135, .ptr (some (h.size, 5)))] H (noU_all rfl) (fun fr => by kernel_rfl) ?_
                              intro fr H
                              obtain ⟨x49, hx, hm⟩ := bind_some hm
                              refine at_step (v := .int .i64 x49) (h1 := h1) [(136, .int .i64 x49)] H (fun fr => by kernel_rfl) (fun fr => .of (s_ld (by kernel_rfl) (ldI_eq hx))) ?_
                              intro fr t H
                              refine at_seg [(2, []), (3, [])] [(4, .bool (x49 == (0 : Int)))] H (noU_all rfl) (fun fr => by kernel_rfl) ?_
                              intro fr H
                              refine at_nil ?_
                              show AW cfg 9 (⟨h.size, []⟩ : Gd) (right (right (right (right (right (right (right (right (right (bodyC cfg.P 9)))))))))) fr h1 _
                              refine aw_ret (by kernel_rfl) ?_
                              have e1 := Option.some.inj hm
                              subst e1
                              exact (doneE_of .ret H (fun fr => by kernel_rfl) (.inl rfl) : doneE cfg.P _ _ _ fr _)
                          · skip
                            have e1 := Option.some.inj hm
                            subst e1
                            exact (doneE_of .ret H (fun fr => by kernel_rfl) (.inl rfl) : doneE cfg.P _ _ _ fr _)
                          · exact hF.elim
end Go.Abs.L
