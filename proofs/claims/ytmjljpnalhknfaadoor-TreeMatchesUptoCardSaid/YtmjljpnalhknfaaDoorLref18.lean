/-
  Models of functions of package ref18, and that the abstract run tells them. Written by lift.py.
-/
import Derived.Test.YtmjljpnalhknfaaDoorLCfg
namespace Go.Abs.L
open Go.Abs
set_option linter.unusedVariables false
/-! ### boulter/boulterref18.May -/
noncomputable def M_boulterref18_May (h : AHeap) (p0 : List AVal) (p1 : Int) : Option (Bool) :=
 need (p0.all AVal.one) <| (some (h.push (.cells none 2 p0))).bind fun h1 => (ldI h1 (h.size, 0) .i64).bind fun x1 => (iteB (decide (x1 < (0 : Int))) (some true) ((ldI h1 (h.size, 0) .i64).bind fun x3 => some (decide (x3 > (7 : Int)))) : Option (Bool)).bind fun x2 => iteB x2 (some false) ((ldI h1 (h.size, 0) .i64).bind fun x4 => (iteB (decide (x4 ≥ (2 : Int))) ((ldI h1 (h.size, 0) .i64).bind fun x6 => some (decide (x6 ≤ (5 : Int)))) (some false) : Option (Bool)).bind fun x5 => (ldI h1 (h.size, 0) .i64).bind fun x7 => (iteB (x7 == (2 : Int)) (some true) ((ldI h1 (h.size, 0) .i64).bind fun x9 => some (x9 == (3 : Int))) : Option (Bool)).bind fun x8 => (iteB x5 ((ldI h1 (h.size, 1) .i64).bind fun x11 => (iteB (decide (x11 < (0 : Int))) (some true) ((ldI h1 (h.size, 1) .i64).bind fun x13 => some (decide (x13 ≥ p1))) : Option (Bool)).bind fun x12 => some x12) (some false) : Option (Bool)).bind fun x10 => (iteB x10 (some true) ((iteB (!x5) ((ldI h1 (h.size, 1) .i64).bind fun x16 => some (x16 != (0 : Int))) (some false) : Option (Bool)).bind fun x15 => some x15) : Option (Bool)).bind fun x14 => (iteB x14 (some true) ((iteB x8 ((ldI h1 (h.size, 2) .i64).bind fun x19 => (iteB (decide (x19 < (0 : Int))) (some true) ((ldI h1 (h.size, 2) .i64).bind fun x21 => some (decide (x21 ≥ p1))) : Option (Bool)).bind fun x20 => some x20) (some false) : Option (Bool)).bind fun x18 => some x18) : Option (Bool)).bind fun x17 => (iteB x17 (some true) ((iteB (!x8) ((ldI h1 (h.size, 2) .i64).bind fun x24 => some (x24 != (0 : Int))) (some false) : Option (Bool)).bind fun x23 => some x23) : Option (Bool)).bind fun x22 => iteB x22 (some false) ((ldI h1 (h.size, 0) .i64).bind fun x25 => (iteB (x25 != (1 : Int)) ((ldS h1 (h.size, 6)).bind fun x27 => some (!(x27 == ([] : List UInt8)))) (some false) : Option (Bool)).bind fun x26 => iteB x26 (some false) (((ldI h1 (h.size, 0) .i64).bind fun x29 => iteB (x29 == (4 : Int)) ((ldI h1 (h.size, 3) .i64).bind fun x30 => (iteB (decide (x30 < (0 : Int))) (some true) ((ldI h1 (h.size, 3) .i64).bind fun x32 => some (decide (x32 > (255 : Int)))) : Option (Bool)).bind fun x31 => (iteB x31 (some true) ((ldI h1 (h.size, 4) .i64).bind fun x34 => some (decide (x34 < (-1 : Int)))) : Option (Bool)).bind fun x33 => (iteB x33 (some true) ((ldI h1 (h.size, 4) .i64).bind fun x36 => some (decide (x36 > (255 : Int)))) : Option (Bool)).bind fun x35 => (iteB x35 (some true) ((ldI h1 (h.size, 4) .i64).bind fun x38 => (iteB (decide (x38 ≥ (0 : Int))) ((ldI h1 (h.size, 4) .i64).bind fun x40 => (ldI h1 (h.size, 3) .i64).bind fun x41 => some (decide (x40 < x41))) (some false) : Option (Bool)).bind fun x39 => some x39) : Option (Bool)).bind fun x37 => iteB x37 (some (.inr false)) (some (.inl ()))) ((ldI h1 (h.size, 3) .i64).bind fun x42 => (iteB (x42 != (0 : Int)) (some true) ((ldI h1 (h.size, 4) .i64).bind fun x44 => some (x44 != (0 : Int))) : Option (Bool)).bind fun x43 => iteB x43 (some (.inr false)) (some (.inl ()))) : Option ((Unit) ⊕ (Bool))).bind fun o1 => (match o1 with | .inl _ => (ldI h1 (h.size, 0) .i64).bind fun x45 => iteB (x45 == (5 : Int)) ((ldI h1 (h.size, 5) .i64).bind fun x46 => (iteB (decide (x46 ≥ (1 : Int))) ((ldI h1 (h.size, 5) .i64).bind fun x48 => some (decide (x48 ≤ (1024 : Int)))) (some false) : Option (Bool)).bind fun x47 => some x47) ((ldI h1 (h.size, 5) .i64).bind fun x49 => some (x49 == (0 : Int))) | .inr x28 => some x28))))
theorem ok_boulterref18_May {g : Gd} {h : AHeap} {p0 : List AVal} {p1 : Int} {r0 : Bool} (hm : M_boulterref18_May h p0 p1 = some r0) : Runs cfg g h 9 [.agg p0, .int .i64 p1] (.bool r0) h := by
  refine runs2E (by kernel_rfl) (by kernel_rfl) (body_ofE (n := 138) (rs := [.tmp 4]) (by kernel_rfl) ?_)
  unfold M_boulterref18_May at hm
  refine start (n := 138) [(0, .agg p0), (1, .int .i64 p1)] (by kernel_rfl) (by kernel_rfl) ?_
  intro fr H
  refine aw_seq (by kernel_rfl) ?_
  refine aw_reg (id := 0) (n := 2) [(0, []), (1, [])] (by kernel_rfl) (by kernel_rfl) ?_
  obtain ⟨hb, hm⟩ := need_some hm
  obtain ⟨h1, hx, hm⟩ := bind_some hm
  refine at_step (v := .ptr (some (h.size, 0))) (h1 := h1) [(1, .int .i64 p1), (2, .ptr (some (h.size, 0)))] H (fun fr => by kernel_rfl) (fun fr => .of (s_boxG (by kernel_rfl) hb hx)) ?_
  intro fr t H
  refine at_seg [(1, [])] [(1, .int .i64 p1), (2, .ptr (some (h.size, 0)))] H (noU_all rfl) (fun fr => by kernel_rfl) ?_
  intro fr H
  refine at_nil ?_
  show AW cfg 9 (⟨h.size, []⟩ : Gd) (right (bodyC cfg.P 9)) fr h1 _
  refine aw_seq (by kernel_rfl) ?_
  refine aw_seq (by kernel_rfl) ?_
  refine aw_reg (id := 1) (n := 8) [(0, []), (1, []), (2, []), (3, []), (4, []), (5, []), (6, []), (7, [])] (by kernel_rfl) (by kernel_rfl) ?_
  refine at_seg [(0, [])] [(1, .int .i64 p1), (2, .ptr (some (h.size, 0))), (7, .ptr (some (h.size, 0)))] H (noU_all rfl) (fun fr => by kernel_rfl) ?_
  intro fr H
  obtain ⟨x1, hx, hm⟩ := bind_some hm
  refine at_step (v := .int .i64 x1) (h1 := h1) [(1, .int .i64 p1), (2, .ptr (some (h.size, 0))), (8, .int .i64 x1)] H (fun fr => by kernel_rfl) (fun fr => .of (s_ld (by kernel_rfl) (ldI_eq hx))) ?_
  intro fr t H
  refine at_seg [(2, []), (3, [])] [(1, .int .i64 p1), (2, .ptr (some (h.size, 0))), (10, .bool (decide (x1 < (0 : Int))))] H (noU_all rfl) (fun fr => by kernel_rfl) ?_
  intro fr H
  obtain ⟨x2, ho, hm⟩ := bind_some hm
  refine at_cut [(4, []), (5, []), (6, []), (7, [])] (fun fr' h' => h1 = h' ∧ Has fr' 138 [(1, .int .i64 p1), (2, .ptr (some (h.size, 0))), (14, .bool x2)]) ?_ ?_
  · rcases iteB_some ho with ⟨hb, hm⟩ | ⟨hb, hm⟩
    · replace H := H.know 10 hb (by kernel_rfl)
      refine at_seg [(4, []), (5, []), (6, []), (7, [])] [(1, .int .i64 p1), (2, .ptr (some (h.size, 0))), (14, .bool true)] H (noU_all rfl) (fun fr => by kernel_rfl) ?_
      intro fr H
      have e1 := Option.some.inj hm
      subst e1
      exact at_nil ⟨rfl, H.less _ (fun fr => by kernel_rfl)⟩
    · replace H := H.know 10 hb (by kernel_rfl)
      refine at_seg [(4, [])] [(1, .int .i64 p1), (2, .ptr (some (h.size, 0))), (10, .bool false), (11, .ptr (some (h.size, 0)))] H (noU_all rfl) (fun fr => by kernel_rfl) ?_
      intro fr H
      obtain ⟨x3, hx, hm⟩ := bind_some hm
      refine at_step (v := .int .i64 x3) (h1 := h1) [(1, .int .i64 p1), (2, .ptr (some (h.size, 0))), (10, .bool false), (12, .int .i64 x3)] H (fun fr => by kernel_rfl) (fun fr => .of (s_ld (by kernel_rfl) (ldI_eq hx))) ?_
      intro fr t H
      refine at_seg [(6, []), (7, [])] [(1, .int .i64 p1), (2, .ptr (some (h.size, 0))), (14, .bool (decide (x3 > (7 : Int))))] H (noU_all rfl) (fun fr => by kernel_rfl) ?_
      intro fr H
      have e1 := Option.some.inj hm
      subst e1
      exact at_nil ⟨rfl, H.less _ (fun fr => by kernel_rfl)⟩
  · intro t fr h' hK
    obtain ⟨e, H⟩ := hK
    subst e
    refine at_nil ?_
    show AW cfg 9 (⟨h.size, []⟩ : Gd) (right (left (right (bodyC cfg.P 9)))) fr h1 _
    rcases iteB_some hm with ⟨hb, hm⟩ | ⟨hb, hm⟩
    · replace H := H.know 14 hb (by kernel_rfl)
      refine aw_true (x := .tmp 14) (by kernel_rfl) H (fun fr => by kernel_rfl) ?_
      refine aw_seq (by kernel_rfl) ?_
      refine aw_reg (id := 2) (n := 1) [(0, [])] (by kernel_rfl) (by kernel_rfl) ?_
      refine at_seg [(0, [])] [(4, .bool false)] H (noU_all rfl) (fun fr => by kernel_rfl) ?_
      intro fr H
      refine at_nil ?_
      show AW cfg 9 (⟨h.size, []⟩ : Gd) (right (left (right (left (right (bodyC cfg.P 9)))))) fr h1 _
      refine aw_ret (by kernel_rfl) ?_
      have e1 := Option.some.inj hm
      subst e1
      exact (doneE_of .ret H (fun fr => by kernel_rfl) (.inl rfl) : doneE cfg.P _ _ _ fr _)
    · replace H := H.know 14 hb (by kernel_rfl)
      refine aw_false (x := .tmp 14) (by kernel_rfl) H (fun fr => by kernel_rfl) ?_
      refine aw_skip (by kernel_rfl) ?_
      show AW cfg 9 (⟨h.size, []⟩ : Gd) (right (right (bodyC cfg.P 9))) fr h1 _
      refine aw_seq (by kernel_rfl) ?_
      refine aw_reg (id := 3) (n := 9) [(0, []), (1, []), (2, []), (3, []), (4, []), (5, []), (6, []), (7, []), (8, [])] (by kernel_rfl) (by kernel_rfl) ?_
      refine at_seg [(0, [])] [(1, .int .i64 p1), (2, .ptr (some (h.size, 0))), (15, .ptr (some (h.size, 0)))] H (noU_all rfl) (fun fr => by kernel_rfl) ?_
      intro fr H
      obtain ⟨x4, hx, hm⟩ := bind_some hm
      refine at_step (v := .int .i64 x4) (h1 := h1) [(1, .int .i64 p1), (2, .ptr (some (h.size, 0))), (16, .int .i64 x4)] H (fun fr => by kernel_rfl) (fun fr => .of (s_ld (by kernel_rfl) (ldI_eq hx))) ?_
      intro fr t H
      refine at_seg [(2, []), (3, [])] [(1, .int .i64 p1), (2, .ptr (some (h.size, 0))), (18, .bool (decide (x4 ≥ (2 : Int))))] H (noU_all rfl) (fun fr => by kernel_rfl) ?_
      intro fr H
      obtain ⟨x5, ho, hm⟩ := bind_some hm
      refine at_cut [(4, []), (5, []), (6, []), (7, [])] (fun fr' h' => h1 = h' ∧ Has fr' 138 [(1, .int .i64 p1), (2, .ptr (some (h.size, 0))), (22, .bool x5)]) ?_ ?_
      · rcases iteB_some ho with ⟨hb, hm⟩ | ⟨hb, hm⟩
        · replace H := H.know 18 hb (by kernel_rfl)
          refine at_seg [(4, [])] [(1, .int .i64 p1), (2, .ptr (some (h.size, 0))), (18, .bool true), (19, .ptr (some (h.size, 0)))] H (noU_all rfl) (fun fr => by kernel_rfl) ?_
          intro fr H
          obtain ⟨x6, hx, hm⟩ := bind_some hm
          refine at_step (v := .int .i64 x6) (h1 := h1) [(1, .int .i64 p1), (2, .ptr (some (h.size, 0))), (18, .bool true), (20, .int .i64 x6)] H (fun fr => by kernel_rfl) (fun fr => .of (s_ld (by kernel_rfl) (ldI_eq hx))) ?_
          intro fr t H
          refine at_seg [(6, []), (7, [])] [(1, .int .i64 p1), (2, .ptr (some (h.size, 0))), (22, .bool (decide (x6 ≤ (5 : Int))))] H (noU_all rfl) (fun fr => by kernel_rfl) ?_
          intro fr H
          have e1 := Option.some.inj hm
          subst e1
          exact at_nil ⟨rfl, H.less _ (fun fr => by kernel_rfl)⟩
        · replace H := H.know 18 hb (by kernel_rfl)
          refine at_seg [(4, []), (5, []), (6, []), (7, [])] [(1, .int .i64 p1), (2, .ptr (some (h.size, 0))), (22, .bool false)] H (noU_all rfl) (fun fr => by kernel_rfl) ?_
          intro fr H
          have e1 := Option.some.inj hm
          subst e1
          exact at_nil ⟨rfl, H.less _ (fun fr => by kernel_rfl)⟩
      · intro t fr h' hK
        obtain ⟨e, H⟩ := hK
        subst e
        refine at_seg [(8, [])] [(1, .int .i64 p1), (2, .ptr (some (h.size, 0))), (5, .bool x5)] H (noU_all rfl) (fun fr => by kernel_rfl) ?_
        intro fr H
        refine at_nil ?_
        show AW cfg 9 (⟨h.size, []⟩ : Gd) (right (right (right (bodyC cfg.P 9)))) fr h1 _
        refine aw_seq (by kernel_rfl) ?_
        refine aw_reg (id := 4) (n := 9) [(0, []), (1, []), (2, []), (3, []), (4, []), (5, []), (6, []), (7, []), (8, [])] (by kernel_rfl) (by kernel_rfl) ?_
        refine at_seg [(0, [])] [(1, .int .i64 p1), (2, .ptr (some (h.size, 0))), (5, .bool x5), (23, .ptr (some (h.size, 0)))] H (noU_all rfl) (fun fr => by kernel_rfl) ?_
        intro fr H
        obtain ⟨x7, hx, hm⟩ := bind_some hm
        refine at_step (v := .int .i64 x7) (h1 := h1) [(1, .int .i64 p1), (2, .ptr (some (h.size, 0))), (5, .bool x5), (24, .int .i64 x7)] H (fun fr => by kernel_rfl) (fun fr => .of (s_ld (by kernel_rfl) (ldI_eq hx))) ?_
        intro fr t H
        refine at_seg [(2, []), (3, [])] [(1, .int .i64 p1), (2, .ptr (some (h.size, 0))), (5, .bool x5), (26, .bool (x7 == (2 : Int)))] H (noU_all rfl) (fun fr => by kernel_rfl) ?_
        intro fr H
        obtain ⟨x8, ho, hm⟩ := bind_some hm
        refine at_cut [(4, []), (5, []), (6, []), (7, [])] (fun fr' h' => h1 = h' ∧ Has fr' 138 [(1, .int .i64 p1), (2, .ptr (some (h.size, 0))), (5, .bool x5), (30, .bool x8)]) ?_ ?_
        · rcases iteB_some ho with ⟨hb, hm⟩ | ⟨hb, hm⟩
          · replace H := H.know 26 hb (by kernel_rfl)
            refine at_seg [(4, []), (5, []), (6, []), (7, [])] [(1, .int .i64 p1), (2, .ptr (some (h.size, 0))), (5, .bool x5), (30, .bool true)] H (noU_all rfl) (fun fr => by kernel_rfl) ?_
            intro fr H
            have e1 := Option.some.inj hm
            subst e1
            exact at_nil ⟨rfl, H.less _ (fun fr => by kernel_rfl)⟩
          · replace H := H.know 26 hb (by kernel_rfl)
            refine at_seg [(4, [])] [(1, .int .i64 p1), (2, .ptr (some (h.size, 0))), (5, .bool x5), (26, .bool false), (27, .ptr (some (h.size, 0)))] H (noU_all rfl) (fun fr => by kernel_rfl) ?_
            intro fr H
            obtain ⟨x9, hx, hm⟩ := bind_some hm
            refine at_step (v := .int .i64 x9) (h1 := h1) [(1, .int .i64 p1), (2, .ptr (some (h.size, 0))), (5, .bool x5), (26, .bool false), (28, .int .i64 x9)] H (fun fr => by kernel_rfl) (fun fr => .of (s_ld (by kernel_rfl) (ldI_eq hx))) ?_
            intro fr t H
            refine at_seg [(6, []), (7, [])] [(1, .int .i64 p1), (2, .ptr (some (h.size, 0))), (5, .bool x5), (30, .bool (x9 == (3 : Int)))] H (noU_all rfl) (fun fr => by kernel_rfl) ?_
            intro fr H
            have e1 := Option.some.inj hm
            subst e1
            exact at_nil ⟨rfl, H.less _ (fun fr => by kernel_rfl)⟩
        · intro t fr h' hK
          obtain ⟨e, H⟩ := hK
          subst e
          refine at_seg [(8, [])] [(1, .int .i64 p1), (2, .ptr (some (h.size, 0))), (5, .bool x5), (6, .bool x8)] H (noU_all rfl) (fun fr => by kernel_rfl) ?_
          intro fr H
          refine at_nil ?_
          show AW cfg 9 (⟨h.size, []⟩ : Gd) (right (right (right (right (bodyC cfg.P 9))))) fr h1 _
          refine aw_seq (by kernel_rfl) ?_
          refine aw_seq (by kernel_rfl) ?_
          refine aw_reg (id := 5) (n := 44) [(0, []), (1, []), (2, []), (3, []), (4, []), (5, []), (6, []), (7, []), (8, []), (9, []), (10, []), (11, []), (12, []), (13, []), (14, []), (15, []), (16, []), (17, []), (18, []), (19, []), (20, []), (21, []), (22, []), (23, []), (24, []), (25, []), (26, []), (27, []), (28, []), (29, []), (30, []), (31, []), (32, []), (33, []), (34, []), (35, []), (36, []), (37, []), (38, []), (39, []), (40, []), (41, []), (42, []), (43, [])] (by kernel_rfl) (by kernel_rfl) ?_
          refine at_seg [(0, []), (1, [])] [(1, .int .i64 p1), (2, .ptr (some (h.size, 0))), (5, .bool x5), (6, .bool x8), (32, .bool x5)] H (noU_all rfl) (fun fr => by kernel_rfl) ?_
          intro fr H
          obtain ⟨x10, ho, hm⟩ := bind_some hm
          refine at_cut [(2, []), (3, []), (4, []), (5, []), (6, []), (7, []), (8, []), (9, []), (10, []), (11, [])] (fun fr' h' => h1 = h' ∧ Has fr' 138 [(1, .int .i64 p1), (2, .ptr (some (h.size, 0))), (5, .bool x5), (6, .bool x8), (42, .bool x10)]) ?_ ?_
          · rcases iteB_some ho with ⟨hb, hm⟩ | ⟨hb, hm⟩
            · replace H := H.know 32 hb (by kernel_rfl)
              refine at_seg [(2, [])] [(1, .int .i64 p1), (2, .ptr (some (h.size, 0))), (5, .bool x5), (6, .bool x8), (32, .bool true), (33, .ptr (some (h.size, 1)))] H (noU_all rfl) (fun fr => by kernel_rfl) ?_
              intro fr H
              obtain ⟨x11, hx, hm⟩ := bind_some hm
              refine at_step (v := .int .i64 x11) (h1 := h1) [(1, .int .i64 p1), (2, .ptr (some (h.size, 0))), (5, .bool x5), (6, .bool x8), (32, .bool true), (34, .int .i64 x11)] H (fun fr => by kernel_rfl) (fun fr => .of (s_ld (by kernel_rfl) (ldI_eq hx))) ?_
              intro fr t H
              refine at_seg [(4, []), (5, [])] [(1, .int .i64 p1), (2, .ptr (some (h.size, 0))), (5, .bool x5), (6, .bool x8), (32, .bool true), (36, .bool (decide (x11 < (0 : Int))))] H (noU_all rfl) (fun fr => by kernel_rfl) ?_
              intro fr H
              obtain ⟨x12, ho, hm⟩ := bind_some hm
              refine at_cut [(6, []), (7, []), (8, []), (9, []), (10, [])] (fun fr' h' => h1 = h' ∧ Has fr' 138 [(1, .int .i64 p1), (2, .ptr (some (h.size, 0))), (5, .bool x5), (6, .bool x8), (32, .bool true), (41, .bool x12)]) ?_ ?_
              · rcases iteB_some ho with ⟨hb, hm⟩ | ⟨hb, hm⟩
                · replace H := H.know 36 hb (by kernel_rfl)
                  refine at_seg [(6, []), (7, []), (8, []), (9, []), (10, [])] [(1, .int .i64 p1), (2, .ptr (some (h.size, 0))), (5, .bool x5), (6, .bool x8), (32, .bool true), (41, .bool true)] H (noU_all rfl) (fun fr => by kernel_rfl) ?_
                  intro fr H
                  have e1 := Option.some.inj hm
                  subst e1
                  exact at_nil ⟨rfl, H.less _ (fun fr => by kernel_rfl)⟩
                · replace H := H.know 36 hb (by kernel_rfl)
                  refine at_seg [(6, [])] [(1, .int .i64 p1), (2, .ptr (some (h.size, 0))), (5, .bool x5), (6, .bool x8), (32, .bool true), (36, .bool false), (37, .ptr (some (h.size, 1)))] H (noU_all rfl) (fun fr => by kernel_rfl) ?_
                  intro fr H
                  obtain ⟨x13, hx, hm⟩ := bind_some hm
                  refine at_step (v := .int .i64 x13) (h1 := h1) [(1, .int .i64 p1), (2, .ptr (some (h.size, 0))), (5, .bool x5), (6, .bool x8), (32, .bool true), (36, .bool false), (38, .int .i64 x13)] H (fun fr => by kernel_rfl) (fun fr => .of (s_ld (by kernel_rfl) (ldI_eq hx))) ?_
                  intro fr t H
                  refine at_seg [(8, []), (9, []), (10, [])] [(1, .int .i64 p1), (2, .ptr (some (h.size, 0))), (5, .bool x5), (6, .bool x8), (32, .bool true), (41, .bool (decide (x13 ≥ p1)))] H (noU_all rfl) (fun fr => by kernel_rfl) ?_
                  intro fr H
                  have e1 := Option.some.inj hm
                  subst e1
                  exact at_nil ⟨rfl, H.less _ (fun fr => by kernel_rfl)⟩
              · intro t fr h' hK
                obtain ⟨e, H⟩ := hK
                subst e
                refine at_seg [(11, [])] [(1, .int .i64 p1), (2, .ptr (some (h.size, 0))), (5, .bool x5), (6, .bool x8), (42, .bool x12)] H (noU_all rfl) (fun fr => by kernel_rfl) ?_
                intro fr H
                have e1 := Option.some.inj hm
                subst e1
                exact at_nil ⟨rfl, H.less _ (fun fr => by kernel_rfl)⟩
            · replace H := H.know 32 hb (by kernel_rfl)
              refine at_seg [(2, []), (3, []), (4, []), (5, []), (6, []), (7, []), (8, []), (9, []), (10, []), (11, [])] [(1, .int .i64 p1), (2, .ptr (some (h.size, 0))), (5, .bool x5), (6, .bool x8), (42, .bool false)] H (noU_all rfl) (fun fr => by kernel_rfl) ?_
              intro fr H
              have e1 := Option.some.inj hm
              subst e1
              exact at_nil ⟨rfl, H.less _ (fun fr => by kernel_rfl)⟩
          · intro t fr h' hK
            obtain ⟨e, H⟩ := hK
            subst e
            refine at_seg [(12, [])] [(1, .int .i64 p1), (2, .ptr (some (h.size, 0))), (5, .bool x5), (6, .bool x8), (43, .bool x10)] H (noU_all rfl) (fun fr => by kernel_rfl) ?_
            intro fr H
            obtain ⟨x14, ho, hm⟩ := bind_some hm
            refine at_cut [(13, []), (14, []), (15, []), (16, []), (17, []), (18, []), (19, []), (20, [])] (fun fr' h' => h1 = h' ∧ Has fr' 138 [(1, .int .i64 p1), (2, .ptr (some (h.size, 0))), (6, .bool x8), (51, .bool x14)]) ?_ ?_
            · rcases iteB_some ho with ⟨hb, hm⟩ | ⟨hb, hm⟩
              · replace H := H.know 43 hb (by kernel_rfl)
                refine at_seg [(13, []), (14, []), (15, []), (16, []), (17, []), (18, []), (19, []), (20, [])] [(1, .int .i64 p1), (2, .ptr (some (h.size, 0))), (6, .bool x8), (51, .bool true)] H (noU_all rfl) (fun fr => by kernel_rfl) ?_
                intro fr H
                have e1 := Option.some.inj hm
                subst e1
                exact at_nil ⟨rfl, H.less _ (fun fr => by kernel_rfl)⟩
              · replace H := H.know 43 hb (by kernel_rfl)
                refine at_seg [(13, []), (14, []), (15, [])] [(1, .int .i64 p1), (2, .ptr (some (h.size, 0))), (6, .bool x8), (43, .bool false), (46, .bool (!x5))] H (noU_all rfl) (fun fr => by kernel_rfl) ?_
                intro fr H
                obtain ⟨x15, ho, hm⟩ := bind_some hm
                refine at_cut [(16, []), (17, []), (18, []), (19, [])] (fun fr' h' => h1 = h' ∧ Has fr' 138 [(1, .int .i64 p1), (2, .ptr (some (h.size, 0))), (6, .bool x8), (43, .bool false), (50, .bool x15)]) ?_ ?_
                · rcases iteB_some ho with ⟨hb, hm⟩ | ⟨hb, hm⟩
                  · replace H := H.know 46 hb (by kernel_rfl)
                    refine at_seg [(16, [])] [(1, .int .i64 p1), (2, .ptr (some (h.size, 0))), (6, .bool x8), (43, .bool false), (46, .bool true), (47, .ptr (some (h.size, 1)))] H (noU_all rfl) (fun fr => by kernel_rfl) ?_
                    intro fr H
                    obtain ⟨x16, hx, hm⟩ := bind_some hm
                    refine at_step (v := .int .i64 x16) (h1 := h1) [(1, .int .i64 p1), (2, .ptr (some (h.size, 0))), (6, .bool x8), (43, .bool false), (46, .bool true), (48, .int .i64 x16)] H (fun fr => by kernel_rfl) (fun fr => .of (s_ld (by kernel_rfl) (ldI_eq hx))) ?_
                    intro fr t H
                    refine at_seg [(18, []), (19, [])] [(1, .int .i64 p1), (2, .ptr (some (h.size, 0))), (6, .bool x8), (43, .bool false), (50, .bool (x16 != (0 : Int)))] H (noU_all rfl) (fun fr => by kernel_rfl) ?_
                    intro fr H
                    have e1 := Option.some.inj hm
                    subst e1
                    exact at_nil ⟨rfl, H.less _ (fun fr => by kernel_rfl)⟩
                  · replace H := H.know 46 hb (by kernel_rfl)
                    refine at_seg [(16, []), (17, []), (18, []), (19, [])] [(1, .int .i64 p1), (2, .ptr (some (h.size, 0))), (6, .bool x8), (43, .bool false), (50, .bool false)] H (noU_all rfl) (fun fr => by kernel_rfl) ?_
                    intro fr H
                    have e1 := Option.some.inj hm
                    subst e1
                    exact at_nil ⟨rfl, H.less _ (fun fr => by kernel_rfl)⟩
                · intro t fr h' hK
                  obtain ⟨e, H⟩ := hK
                  subst e
                  refine at_seg [(20, [])] [(1, .int .i64 p1), (2, .ptr (some (h.size, 0))), (6, .bool x8), (51, .bool x15)] H (noU_all rfl) (fun fr => by kernel_rfl) ?_
                  intro fr H
                  have e1 := Option.some.inj hm
                  subst e1
                  exact at_nil ⟨rfl, H.less _ (fun fr => by kernel_rfl)⟩
            · intro t fr h' hK
              obtain ⟨e, H⟩ := hK
              subst e
              refine at_seg [(21, [])] [(1, .int .i64 p1), (2, .ptr (some (h.size, 0))), (6, .bool x8), (52, .bool x14)] H (noU_all rfl) (fun fr => by kernel_rfl) ?_
              intro fr H
              obtain ⟨x17, ho, hm⟩ := bind_some hm
              refine at_cut [(22, []), (23, []), (24, []), (25, []), (26, []), (27, []), (28, []), (29, []), (30, []), (31, []), (32, []), (33, []), (34, [])] (fun fr' h' => h1 = h' ∧ Has fr' 138 [(2, .ptr (some (h.size, 0))), (6, .bool x8), (65, .bool x17)]) ?_ ?_
              · rcases iteB_some ho with ⟨hb, hm⟩ | ⟨hb, hm⟩
                · replace H := H.know 52 hb (by kernel_rfl)
                  refine at_seg [(22, []), (23, []), (24, []), (25, []), (26, []), (27, []), (28, []), (29, []), (30, []), (31, []), (32, []), (33, []), (34, [])] [(2, .ptr (some (h.size, 0))), (6, .bool x8), (65, .bool true)] H (noU_all rfl) (fun fr => by kernel_rfl) ?_
                  intro fr H
                  have e1 := Option.some.inj hm
                  subst e1
                  exact at_nil ⟨rfl, H.less _ (fun fr => by kernel_rfl)⟩
                · replace H := H.know 52 hb (by kernel_rfl)
                  refine at_seg [(22, []), (23, [])] [(1, .int .i64 p1), (2, .ptr (some (h.size, 0))), (6, .bool x8), (52, .bool false), (54, .bool x8)] H (noU_all rfl) (fun fr => by kernel_rfl) ?_
                  intro fr H
                  obtain ⟨x18, ho, hm⟩ := bind_some hm
                  refine at_cut [(24, []), (25, []), (26, []), (27, []), (28, []), (29, []), (30, []), (31, []), (32, []), (33, [])] (fun fr' h' => h1 = h' ∧ Has fr' 138 [(2, .ptr (some (h.size, 0))), (6, .bool x8), (52, .bool false), (64, .bool x18)]) ?_ ?_
                  · rcases iteB_some ho with ⟨hb, hm⟩ | ⟨hb, hm⟩
                    · replace H := H.know 54 hb (by kernel_rfl)
                      refine at_seg [(24, [])] [(1, .int .i64 p1), (2, .ptr (some (h.size, 0))), (6, .bool x8), (52, .bool false), (54, .bool true), (55, .ptr (some (h.size, 2)))] H (noU_all rfl) (fun fr => by kernel_rfl) ?_
                      intro fr H
                      obtain ⟨x19, hx, hm⟩ := bind_some hm
                      refine at_step (v := .int .i64 x19) (h1 := h1) [(1, .int .i64 p1), (2, .ptr (some (h.size, 0))), (6, .bool x8), (52, .bool false), (54, .bool true), (56, .int .i64 x19)] H (fun fr => by kernel_rfl) (fun fr => .of (s_ld (by kernel_rfl) (ldI_eq hx))) ?_
                      intro fr t H
                      refine at_seg [(26, []), (27, [])] [(1, .int .i64 p1), (2, .ptr (some (h.size, 0))), (6, .bool x8), (52, .bool false), (54, .bool true), (58, .bool (decide (x19 < (0 : Int))))] H (noU_all rfl) (fun fr => by kernel_rfl) ?_
                      intro fr H
                      obtain ⟨x20, ho, hm⟩ := bind_some hm
                      refine at_cut [(28, []), (29, []), (30, []), (31, []), (32, [])] (fun fr' h' => h1 = h' ∧ Has fr' 138 [(2, .ptr (some (h.size, 0))), (6, .bool x8), (52, .bool false), (54, .bool true), (63, .bool x20)]) ?_ ?_
                      · rcases iteB_some ho with ⟨hb, hm⟩ | ⟨hb, hm⟩
                        · replace H := H.know 58 hb (by kernel_rfl)
                          refine at_seg [(28, []), (29, []), (30, []), (31, []), (32, [])] [(2, .ptr (some (h.size, 0))), (6, .bool x8), (52, .bool false), (54, .bool true), (63, .bool true)] H (noU_all rfl) (fun fr => by kernel_rfl) ?_
                          intro fr H
                          have e1 := Option.some.inj hm
                          subst e1
                          exact at_nil ⟨rfl, H.less _ (fun fr => by kernel_rfl)⟩
                        · replace H := H.know 58 hb (by kernel_rfl)
                          refine at_seg [(28, [])] [(1, .int .i64 p1), (2, .ptr (some (h.size, 0))), (6, .bool x8), (52, .bool false), (54, .bool true), (58, .bool false), (59, .ptr (some (h.size, 2)))] H (noU_all rfl) (fun fr => by kernel_rfl) ?_
                          intro fr H
                          obtain ⟨x21, hx, hm⟩ := bind_some hm
                          refine at_step (v := .int .i64 x21) (h1 := h1) [(1, .int .i64 p1), (2, .ptr (some (h.size, 0))), (6, .bool x8), (52, .bool false), (54, .bool true), (58, .bool false), (60, .int .i64 x21)] H (fun fr => by kernel_rfl) (fun fr => .of (s_ld (by kernel_rfl) (ldI_eq hx))) ?_
                          intro fr t H
                          refine at_seg [(30, []), (31, []), (32, [])] [(2, .ptr (some (h.size, 0))), (6, .bool x8), (52, .bool false), (54, .bool true), (63, .bool (decide (x21 ≥ p1)))] H (noU_all rfl) (fun fr => by kernel_rfl) ?_
                          intro fr H
                          have e1 := Option.some.inj hm
                          subst e1
                          exact at_nil ⟨rfl, H.less _ (fun fr => by kernel_rfl)⟩
                      · intro t fr h' hK
                        obtain ⟨e, H⟩ := hK
                        subst e
                        refine at_seg [(33, [])] [(2, .ptr (some (h.size, 0))), (6, .bool x8), (52, .bool false), (64, .bool x20)] H (noU_all rfl) (fun fr => by kernel_rfl) ?_
                        intro fr H
                        have e1 := Option.some.inj hm
                        subst e1
                        exact at_nil ⟨rfl, H.less _ (fun fr => by kernel_rfl)⟩
                    · replace H := H.know 54 hb (by kernel_rfl)
                      refine at_seg [(24, []), (25, []), (26, []), (27, []), (28, []), (29, []), (30, []), (31, []), (32, []), (33, [])] [(2, .ptr (some (h.size, 0))), (6, .bool x8), (52, .bool false), (64, .bool false)] H (noU_all rfl) (fun fr => by kernel_rfl) ?_
                      intro fr H
                      have e1 := Option.some.inj hm
                      subst e1
                      exact at_nil ⟨rfl, H.less _ (fun fr => by kernel_rfl)⟩
                  · intro t fr h' hK
                    obtain ⟨e, H⟩ := hK
                    subst e
                    refine at_seg [(34, [])] [(2, .ptr (some (h.size, 0))), (6, .bool x8), (65, .bool x18)] H (noU_all rfl) (fun fr => by kernel_rfl) ?_
                    intro fr H
                    have e1 := Option.some.inj hm
                    subst e1
                    exact at_nil ⟨rfl, H.less _ (fun fr => by kernel_rfl)⟩
              · intro t fr h' hK
                obtain ⟨e, H⟩ := hK
                subst e
                refine at_seg [(35, [])] [(2, .ptr (some (h.size, 0))), (6, .bool x8), (66, .bool x17)] H (noU_all rfl) (fun fr => by kernel_rfl) ?_
                intro fr H
                obtain ⟨x22, ho, hm⟩ := bind_some hm
                refine at_cut [(36, []), (37, []), (38, []), (39, []), (40, []), (41, []), (42, []), (43, [])] (fun fr' h' => h1 = h' ∧ Has fr' 138 [(2, .ptr (some (h.size, 0))), (74, .bool x22)]) ?_ ?_
                · rcases iteB_some ho with ⟨hb, hm⟩ | ⟨hb, hm⟩
                  · replace H := H.know 66 hb (by kernel_rfl)
                    refine at_seg [(36, []), (37, []), (38, []), (39, []), (40, []), (41, []), (42, []), (43, [])] [(2, .ptr (some (h.size, 0))), (74, .bool true)] H (noU_all rfl) (fun fr => by kernel_rfl) ?_
                    intro fr H
                    have e1 := Option.some.inj hm
                    subst e1
                    exact at_nil ⟨rfl, H.less _ (fun fr => by kernel_rfl)⟩
                  · replace H := H.know 66 hb (by kernel_rfl)
                    refine at_seg [(36, []), (37, []), (38, [])] [(2, .ptr (some (h.size, 0))), (66, .bool false), (69, .bool (!x8))] H (noU_all rfl) (fun fr => by kernel_rfl) ?_
                    intro fr H
                    obtain ⟨x23, ho, hm⟩ := bind_some hm
                    refine at_cut [(39, []), (40, []), (41, []), (42, [])] (fun fr' h' => h1 = h' ∧ Has fr' 138 [(2, .ptr (some (h.size, 0))), (66, .bool false), (73, .bool x23)]) ?_ ?_
                    · rcases iteB_some ho with ⟨hb, hm⟩ | ⟨hb, hm⟩
                      · replace H := H.know 69 hb (by kernel_rfl)
                        refine at_seg [(39, [])] [(2, .ptr (some (h.size, 0))), (66, .bool false), (69, .bool true), (70, .ptr (some (h.size, 2)))] H (noU_all rfl) (fun fr => by kernel_rfl) ?_
                        intro fr H
                        obtain ⟨x24, hx, hm⟩ := bind_some hm
                        refine at_step (v := .int .i64 x24) (h1 := h1) [(2, .ptr (some (h.size, 0))), (66, .bool false), (69, .bool true), (71, .int .i64 x24)] H (fun fr => by kernel_rfl) (fun fr => .of (s_ld (by kernel_rfl) (ldI_eq hx))) ?_
                        intro fr t H
                        refine at_seg [(41, []), (42, [])] [(2, .ptr (some (h.size, 0))), (66, .bool false), (73, .bool (x24 != (0 : Int)))] H (noU_all rfl) (fun fr => by kernel_rfl) ?_
                        intro fr H
                        have e1 := Option.some.inj hm
                        subst e1
                        exact at_nil ⟨rfl, H.less _ (fun fr => by kernel_rfl)⟩
                      · replace H := H.know 69 hb (by kernel_rfl)
                        refine at_seg [(39, []), (40, []), (41, []), (42, [])] [(2, .ptr (some (h.size, 0))), (66, .bool false), (73, .bool false)] H (noU_all rfl) (fun fr => by kernel_rfl) ?_
                        intro fr H
                        have e1 := Option.some.inj hm
                        subst e1
                        exact at_nil ⟨rfl, H.less _ (fun fr => by kernel_rfl)⟩
                    · intro t fr h' hK
                      obtain ⟨e, H⟩ := hK
                      subst e
                      refine at_seg [(43, [])] [(2, .ptr (some (h.size, 0))), (74, .bool x23)] H (noU_all rfl) (fun fr => by kernel_rfl) ?_
                      intro fr H
                      have e1 := Option.some.inj hm
                      subst e1
                      exact at_nil ⟨rfl, H.less _ (fun fr => by kernel_rfl)⟩
                · intro t fr h' hK
                  obtain ⟨e, H⟩ := hK
                  subst e
                  refine at_nil ?_
                  show AW cfg 9 (⟨h.size, []⟩ : Gd) (right (left (right (right (right (right (bodyC cfg.P 9))))))) fr h1 _
                  rcases iteB_some hm with ⟨hb, hm⟩ | ⟨hb, hm⟩
                  · replace H := H.know 74 hb (by kernel_rfl)
                    refine aw_true (x := .tmp 74) (by kernel_rfl) H (fun fr => by kernel_rfl) ?_
                    refine aw_seq (by kernel_rfl) ?_
                    refine aw_reg (id := 6) (n := 1) [(0, [])] (by kernel_rfl) (by kernel_rfl) ?_
                    refine at_seg [(0, [])] [(4, .bool false)] H (noU_all rfl) (fun fr => by kernel_rfl) ?_
                    intro fr H
                    refine at_nil ?_
                    show AW cfg 9 (⟨h.size, []⟩ : Gd) (right (left (right (left (right (right (right (right (bodyC cfg.P 9))))))))) fr h1 _
                    refine aw_ret (by kernel_rfl) ?_
                    have e1 := Option.some.inj hm
                    subst e1
                    exact (doneE_of .ret H (fun fr => by kernel_rfl) (.inl rfl) : doneE cfg.P _ _ _ fr _)
                  · replace H := H.know 74 hb (by kernel_rfl)
                    refine aw_false (x := .tmp 74) (by kernel_rfl) H (fun fr => by kernel_rfl) ?_
                    refine aw_skip (by kernel_rfl) ?_
                    show AW cfg 9 (⟨h.size, []⟩ : Gd) (right (right (right (right (right (bodyC cfg.P 9)))))) fr h1 _
                    refine aw_seq (by kernel_rfl) ?_
                    refine aw_seq (by kernel_rfl) ?_
                    refine aw_reg (id := 7) (n := 8) [(0, []), (1, []), (2, []), (3, []), (4, []), (5, []), (6, []), (7, [])] (by kernel_rfl) (by kernel_rfl) ?_
                    refine at_seg [(0, [])] [(2, .ptr (some (h.size, 0))), (75, .ptr (some (h.size, 0)))] H (noU_all rfl) (fun fr => by kernel_rfl) ?_
                    intro fr H
                    obtain ⟨x25, hx, hm⟩ := bind_some hm
                    refine at_step (v := .int .i64 x25) (h1 := h1) [(2, .ptr (some (h.size, 0))), (76, .int .i64 x25)] H (fun fr => by kernel_rfl) (fun fr => .of (s_ld (by kernel_rfl) (ldI_eq hx))) ?_
                    intro fr t H
                    refine at_seg [(2, []), (3, [])] [(2, .ptr (some (h.size, 0))), (78, .bool (x25 != (1 : Int)))] H (noU_all rfl) (fun fr => by kernel_rfl) ?_
                    intro fr H
                    obtain ⟨x26, ho, hm⟩ := bind_some hm
                    refine at_cut [(4, []), (5, []), (6, []), (7, [])] (fun fr' h' => h1 = h' ∧ Has fr' 138 [(2, .ptr (some (h.size, 0))), (82, .bool x26)]) ?_ ?_
                    · rcases iteB_some ho with ⟨hb, hm⟩ | ⟨hb, hm⟩
                      · replace H := H.know 78 hb (by kernel_rfl)
                        refine at_seg [(4, [])] [(2, .ptr (some (h.size, 0))), (78, .bool true), (79, .ptr (some (h.size, 6)))] H (noU_all rfl) (fun fr => by kernel_rfl) ?_
                        intro fr H
                        obtain ⟨x27, hx, hm⟩ := bind_some hm
                        refine at_step (v := .str x27) (h1 := h1) [(2, .ptr (some (h.size, 0))), (78, .bool true), (80, .str x27)] H (fun fr => by kernel_rfl) (fun fr => .of (s_ld (by kernel_rfl) (ldS_eq hx))) ?_
                        intro fr t H
                        refine at_seg [(6, []), (7, [])] [(2, .ptr (some (h.size, 0))), (82, .bool (!(x27 == ([] : List UInt8))))] H (noU_all rfl) (fun fr => by kernel_rfl) ?_
                        intro fr H
                        have e1 := Option.some.inj hm
                        subst e1
                        exact at_nil ⟨rfl, H.less _ (fun fr => by kernel_rfl)⟩
                      · replace H := H.know 78 hb (by kernel_rfl)
                        refine at_seg [(4, []), (5, []), (6, []), (7, [])] [(2, .ptr (some (h.size, 0))), (82, .bool false)] H (noU_all rfl) (fun fr => by kernel_rfl) ?_
                        intro fr H
                        have e1 := Option.some.inj hm
                        subst e1
                        exact at_nil ⟨rfl, H.less _ (fun fr => by kernel_rfl)⟩
                    · intro t fr h' hK
                      obtain ⟨e, H⟩ := hK
                      subst e
                      refine at_nil ?_
                      show AW cfg 9 (⟨h.size, []⟩ : Gd) (right (left (right (right (right (right (right (bodyC cfg.P 9)))))))) fr h1 _
                      rcases iteB_some hm with ⟨hb, hm⟩ | ⟨hb, hm⟩
                      · replace H := H.know 82 hb (by kernel_rfl)
                        refine aw_true (x := .tmp 82) (by kernel_rfl) H (fun fr => by kernel_rfl) ?_
                        refine aw_seq (by kernel_rfl) ?_
                        refine aw_reg (id := 8) (n := 1) [(0, [])] (by kernel_rfl) (by kernel_rfl) ?_
                        refine at_seg [(0, [])] [(4, .bool false)] H (noU_all rfl) (fun fr => by kernel_rfl) ?_
                        intro fr H
                        refine at_nil ?_
                        show AW cfg 9 (⟨h.size, []⟩ : Gd) (right (left (right (left (right (right (right (right (right (bodyC cfg.P 9)))))))))) fr h1 _
                        refine aw_ret (by kernel_rfl) ?_
                        have e1 := Option.some.inj hm
                        subst e1
                        exact (doneE_of .ret H (fun fr => by kernel_rfl) (.inl rfl) : doneE cfg.P _ _ _ fr _)
                      · replace H := H.know 82 hb (by kernel_rfl)
                        refine aw_false (x := .tmp 82) (by kernel_rfl) H (fun fr => by kernel_rfl) ?_
                        refine aw_skip (by kernel_rfl) ?_
                        show AW cfg 9 (⟨h.size, []⟩ : Gd) (right (right (right (right (right (right (bodyC cfg.P 9))))))) fr h1 _
                        refine aw_seq (by kernel_rfl) ?_
                        obtain ⟨o1, ho, hm⟩ := bind_some hm
                        refine aw_mono (Q' := fun e fr' h' => (e = .normal ∧ .inl () = o1 ∧ h1 = h' ∧ Has fr' 138 [(2, .ptr (some (h.size, 0)))]) ∨ (∃ (x28 : Bool), e = .ret ∧ .inr x28 = o1 ∧ h1 = h' ∧ Has fr' 138 [(4, .bool x28)]) ∨ False) ?_ ?_
                        · replace hm := ho
                          clear ho
                          refine aw_seq (by kernel_rfl) ?_
                          refine aw_reg (id := 9) (n := 3) [(0, []), (1, []), (2, [])] (by kernel_rfl) (by kernel_rfl) ?_
                          refine at_seg [(0, [])] [(2, .ptr (some (h.size, 0))), (83, .ptr (some (h.size, 0)))] H (noU_all rfl) (fun fr => by kernel_rfl) ?_
                          intro fr H
                          obtain ⟨x29, hx, hm⟩ := bind_some hm
                          refine at_step (v := .int .i64 x29) (h1 := h1) [(2, .ptr (some (h.size, 0))), (84, .int .i64 x29)] H (fun fr => by kernel_rfl) (fun fr => .of (s_ld (by kernel_rfl) (ldI_eq hx))) ?_
                          intro fr t H
                          refine at_seg [(2, [])] [(2, .ptr (some (h.size, 0))), (85, .bool (x29 == (4 : Int)))] H (noU_all rfl) (fun fr => by kernel_rfl) ?_
                          intro fr H
                          refine at_nil ?_
                          show AW cfg 9 (⟨h.size, []⟩ : Gd) (right (left (right (right (right (right (right (right (bodyC cfg.P 9))))))))) fr h1 _
                          rcases iteB_some hm with ⟨hb, hm⟩ | ⟨hb, hm⟩
                          · replace H := H.know 85 hb (by kernel_rfl)
                            refine aw_true (x := .tmp 85) (by kernel_rfl) H (fun fr => by kernel_rfl) ?_
                            refine aw_seq (by kernel_rfl) ?_
                            refine aw_reg (id := 10) (n := 30) [(0, []), (1, []), (2, []), (3, []), (4, []), (5, []), (6, []), (7, []), (8, []), (9, []), (10, []), (11, []), (12, []), (13, []), (14, []), (15, []), (16, []), (17, []), (18, []), (19, []), (20, []), (21, []), (22, []), (23, []), (24, []), (25, []), (26, []), (27, []), (28, []), (29, [])] (by kernel_rfl) (by kernel_rfl) ?_
                            refine at_seg [(0, [])] [(2, .ptr (some (h.size, 0))), (86, .ptr (some (h.size, 3)))] H (noU_all rfl) (fun fr => by kernel_rfl) ?_
                            intro fr H
                            obtain ⟨x30, hx, hm⟩ := bind_some hm
                            refine at_step (v := .int .i64 x30) (h1 := h1) [(2, .ptr (some (h.size, 0))), (87, .int .i64 x30)] H (fun fr => by kernel_rfl) (fun fr => .of (s_ld (by kernel_rfl) (ldI_eq hx))) ?_
                            intro fr t H
                            refine at_seg [(2, []), (3, [])] [(2, .ptr (some (h.size, 0))), (89, .bool (decide (x30 < (0 : Int))))] H (noU_all rfl) (fun fr => by kernel_rfl) ?_
                            intro fr H
                            obtain ⟨x31, ho, hm⟩ := bind_some hm
                            refine at_cut [(4, []), (5, []), (6, []), (7, [])] (fun fr' h' => h1 = h' ∧ Has fr' 138 [(2, .ptr (some (h.size, 0))), (93, .bool x31)]) ?_ ?_
                            · rcases iteB_some ho with ⟨hb, hm⟩ | ⟨hb, hm⟩
                              · replace H := H.know 89 hb (by kernel_rfl)
                                refine at_seg [(4, []), (5, []), (6, []), (7, [])] [(2, .ptr (some (h.size, 0))), (93, .bool true)] H (noU_all rfl) (fun fr => by kernel_rfl) ?_
                                intro fr H
                                have e1 := Option.some.inj hm
                                subst e1
                                exact at_nil ⟨rfl, H.less _ (fun fr => by kernel_rfl)⟩
                              · replace H := H.know 89 hb (by kernel_rfl)
                                refine at_seg [(4, [])] [(2, .ptr (some (h.size, 0))), (89, .bool false), (90, .ptr (some (h.size, 3)))] H (noU_all rfl) (fun fr => by kernel_rfl) ?_
                                intro fr H
                                obtain ⟨x32, hx, hm⟩ := bind_some hm
                                refine at_step (v := .int .i64 x32) (h1 := h1) [(2, .ptr (some (h.size, 0))), (89, .bool false), (91, .int .i64 x32)] H (fun fr => by kernel_rfl) (fun fr => .of (s_ld (by kernel_rfl) (ldI_eq hx))) ?_
                                intro fr t H
                                refine at_seg [(6, []), (7, [])] [(2, .ptr (some (h.size, 0))), (93, .bool (decide (x32 > (255 : Int))))] H (noU_all rfl) (fun fr => by kernel_rfl) ?_
                                intro fr H
                                have e1 := Option.some.inj hm
                                subst e1
                                exact at_nil ⟨rfl, H.less _ (fun fr => by kernel_rfl)⟩
                            · intro t fr h' hK
                              obtain ⟨e, H⟩ := hK
                              subst e
                              refine at_seg [(8, [])] [(2, .ptr (some (h.size, 0))), (94, .bool x31)] H (noU_all rfl) (fun fr => by kernel_rfl) ?_
                              intro fr H
                              obtain ⟨x33, ho, hm⟩ := bind_some hm
                              refine at_cut [(9, []), (10, []), (11, []), (12, [])] (fun fr' h' => h1 = h' ∧ Has fr' 138 [(2, .ptr (some (h.size, 0))), (98, .bool x33)]) ?_ ?_
                              · rcases iteB_some ho with ⟨hb, hm⟩ | ⟨hb, hm⟩
                                · replace H := H.know 94 hb (by kernel_rfl)
                                  refine at_seg [(9, []), (10, []), (11, []), (12, [])] [(2, .ptr (some (h.size, 0))), (98, .bool true)] H (noU_all rfl) (fun fr => by kernel_rfl) ?_
                                  intro fr H
                                  have e1 := Option.some.inj hm
                                  subst e1
                                  exact at_nil ⟨rfl, H.less _ (fun fr => by kernel_rfl)⟩
                                · replace H := H.know 94 hb (by kernel_rfl)
                                  refine at_seg [(9, [])] [(2, .ptr (some (h.size, 0))), (94, .bool false), (95, .ptr (some (h.size, 4)))] H (noU_all rfl) (fun fr => by kernel_rfl) ?_
                                  intro fr H
                                  obtain ⟨x34, hx, hm⟩ := bind_some hm
                                  refine at_step (v := .int .i64 x34) (h1 := h1) [(2, .ptr (some (h.size, 0))), (94, .bool false), (96, .int .i64 x34)] H (fun fr => by kernel_rfl) (fun fr => .of (s_ld (by kernel_rfl) (ldI_eq hx))) ?_
                                  intro fr t H
                                  refine at_seg [(11, []), (12, [])] [(2, .ptr (some (h.size, 0))), (98, .bool (decide (x34 < (-1 : Int))))] H (noU_all rfl) (fun fr => by kernel_rfl) ?_
                                  intro fr H
                                  have e1 := Option.some.inj hm
                                  subst e1
                                  exact at_nil ⟨rfl, H.less _ (fun fr => by kernel_rfl)⟩
                              · intro t fr h' hK
                                obtain ⟨e, H⟩ := hK
                                subst e
                                refine at_seg [(13, [])] [(2, .ptr (some (h.size, 0))), (99, .bool x33)] H (noU_all rfl) (fun fr => by kernel_rfl) ?_
                                intro fr H
                                obtain ⟨x35, ho, hm⟩ := bind_some hm
                                refine at_cut [(14, []), (15, []), (16, []), (17, [])] (fun fr' h' => h1 = h' ∧ Has fr' 138 [(2, .ptr (some (h.size, 0))), (103, .bool x35)]) ?_ ?_
                                · rcases iteB_some ho with ⟨hb, hm⟩ | ⟨hb, hm⟩
                                  · replace H := H.know 99 hb (by kernel_rfl)
                                    refine at_seg [(14, []), (15, []), (16, []), (17, [])] [(2, .ptr (some (h.size, 0))), (103, .bool true)] H (noU_all rfl) (fun fr => by kernel_rfl) ?_
                                    intro fr H
                                    have e1 := Option.some.inj hm
                                    subst e1
                                    exact at_nil ⟨rfl, H.less _ (fun fr => by kernel_rfl)⟩
                                  · replace H := H.know 99 hb (by kernel_rfl)
                                    refine at_seg [(14, [])] [(2, .ptr (some (h.size, 0))), (99, .bool false), (100, .ptr (some (h.size, 4)))] H (noU_all rfl) (fun fr => by kernel_rfl) ?_
                                    intro fr H
                                    obtain ⟨x36, hx, hm⟩ := bind_some hm
                                    refine at_step (v := .int .i64 x36) (h1 := h1) [(2, .ptr (some (h.size, 0))), (99, .bool false), (101, .int .i64 x36)] H (fun fr => by kernel_rfl) (fun fr => .of (s_ld (by kernel_rfl) (ldI_eq hx))) ?_
                                    intro fr t H
                                    refine at_seg [(16, []), (17, [])] [(2, .ptr (some (h.size, 0))), (103, .bool (decide (x36 > (255 : Int))))] H (noU_all rfl) (fun fr => by kernel_rfl) ?_
                                    intro fr H
                                    have e1 := Option.some.inj hm
                                    subst e1
                                    exact at_nil ⟨rfl, H.less _ (fun fr => by kernel_rfl)⟩
                                · intro t fr h' hK
                                  obtain ⟨e, H⟩ := hK
                                  subst e
                                  refine at_seg [(18, [])] [(2, .ptr (some (h.size, 0))), (104, .bool x35)] H (noU_all rfl) (fun fr => by kernel_rfl) ?_
                                  intro fr H
                                  obtain ⟨x37, ho, hm⟩ := bind_some hm
                                  refine at_cut [(19, []), (20, []), (21, []), (22, []), (23, []), (24, []), (25, []), (26, []), (27, []), (28, []), (29, [])] (fun fr' h' => h1 = h' ∧ Has fr' 138 [(2, .ptr (some (h.size, 0))), (115, .bool x37)]) ?_ ?_
                                  · rcases iteB_some ho with ⟨hb, hm⟩ | ⟨hb, hm⟩
                                    · replace H := H.know 104 hb (by kernel_rfl)
                                      refine at_seg [(19, []), (20, []), (21, []), (22, []), (23, []), (24, []), (25, []), (26, []), (27, []), (28, []), (29, [])] [(2, .ptr (some (h.size, 0))), (115, .bool true)] H (noU_all rfl) (fun fr => by kernel_rfl) ?_
                                      intro fr H
                                      have e1 := Option.some.inj hm
                                      subst e1
                                      exact at_nil ⟨rfl, H.less _ (fun fr => by kernel_rfl)⟩
                                    · replace H := H.know 104 hb (by kernel_rfl)
                                      refine at_seg [(19, [])] [(2, .ptr (some (h.size, 0))), (104, .bool false), (105, .ptr (some (h.size, 4)))] H (noU_all rfl) (fun fr => by kernel_rfl) ?_
                                      intro fr H
                                      obtain ⟨x38, hx, hm⟩ := bind_some hm
                                      refine at_step (v := .int .i64 x38) (h1 := h1) [(2, .ptr (some (h.size, 0))), (104, .bool false), (106, .int .i64 x38)] H (fun fr => by kernel_rfl) (fun fr => .of (s_ld (by kernel_rfl) (ldI_eq hx))) ?_
                                      intro fr t H
                                      refine at_seg [(21, []), (22, [])] [(2, .ptr (some (h.size, 0))), (104, .bool false), (108, .bool (decide (x38 ≥ (0 : Int))))] H (noU_all rfl) (fun fr => by kernel_rfl) ?_
                                      intro fr H
                                      obtain ⟨x39, ho, hm⟩ := bind_some hm
                                      refine at_cut [(23, []), (24, []), (25, []), (26, []), (27, []), (28, [])] (fun fr' h' => h1 = h' ∧ Has fr' 138 [(2, .ptr (some (h.size, 0))), (104, .bool false), (114, .bool x39)]) ?_ ?_
                                      · rcases iteB_some ho with ⟨hb, hm⟩ | ⟨hb, hm⟩
                                        · replace H := H.know 108 hb (by kernel_rfl)
                                          refine at_seg [(23, [])] [(2, .ptr (some (h.size, 0))), (104, .bool false), (108, .bool true), (109, .ptr (some (h.size, 4)))] H (noU_all rfl) (fun fr => by kernel_rfl) ?_
                                          intro fr H
                                          obtain ⟨x40, hx, hm⟩ := bind_some hm
                                          refine at_step (v := .int .i64 x40) (h1 := h1) [(2, .ptr (some (h.size, 0))), (104, .bool false), (108, .bool true), (110, .int .i64 x40)] H (fun fr => by kernel_rfl) (fun fr => .of (s_ld (by kernel_rfl) (ldI_eq hx))) ?_
                                          intro fr t H
                                          refine at_seg [(25, [])] [(2, .ptr (some (h.size, 0))), (104, .bool false), (108, .bool true), (110, .int .i64 x40), (111, .ptr (some (h.size, 3)))] H (noU_all rfl) (fun fr => by kernel_rfl) ?_
                                          intro fr H
                                          obtain ⟨x41, hx, hm⟩ := bind_some hm
                                          refine at_step (v := .int .i64 x41) (h1 := h1) [(2, .ptr (some (h.size, 0))), (104, .bool false), (108, .bool true), (110, .int .i64 x40), (112, .int .i64 x41)] H (fun fr => by kernel_rfl) (fun fr => .of (s_ld (by kernel_rfl) (ldI_eq hx))) ?_
                                          intro fr t H
                                          refine at_seg [(27, []), (28, [])] [(2, .ptr (some (h.size, 0))), (104, .bool false), (114, .bool (decide (x40 < x41)))] H (noU_all rfl) (fun fr => by kernel_rfl) ?_
                                          intro fr H
                                          have e1 := Option.some.inj hm
                                          subst e1
                                          exact at_nil ⟨rfl, H.less _ (fun fr => by kernel_rfl)⟩
                                        · replace H := H.know 108 hb (by kernel_rfl)
                                          refine at_seg [(23, []), (24, []), (25, []), (26, []), (27, []), (28, [])] [(2, .ptr (some (h.size, 0))), (104, .bool false), (114, .bool false)] H (noU_all rfl) (fun fr => by kernel_rfl) ?_
                                          intro fr H
                                          have e1 := Option.some.inj hm
                                          subst e1
                                          exact at_nil ⟨rfl, H.less _ (fun fr => by kernel_rfl)⟩
                                      · intro t fr h' hK
                                        obtain ⟨e, H⟩ := hK
                                        subst e
                                        refine at_seg [(29, [])] [(2, .ptr (some (h.size, 0))), (115, .bool x39)] H (noU_all rfl) (fun fr => by kernel_rfl) ?_
                                        intro fr H
                                        have e1 := Option.some.inj hm
                                        subst e1
                                        exact at_nil ⟨rfl, H.less _ (fun fr => by kernel_rfl)⟩
                                  · intro t fr h' hK
                                    obtain ⟨e, H⟩ := hK
                                    subst e
                                    refine at_nil ?_
                                    show AW cfg 9 (⟨h.size, []⟩ : Gd) (right (left (right (left (right (right (right (right (right (right (bodyC cfg.P 9))))))))))) fr h1 _
                                    rcases iteB_some hm with ⟨hb, hm⟩ | ⟨hb, hm⟩
                                    · replace H := H.know 115 hb (by kernel_rfl)
                                      refine aw_true (x := .tmp 115) (by kernel_rfl) H (fun fr => by kernel_rfl) ?_
                                      refine aw_seq (by kernel_rfl) ?_
                                      refine aw_reg (id := 11) (n := 1) [(0, [])] (by kernel_rfl) (by kernel_rfl) ?_
                                      refine at_seg [(0, [])] [(4, .bool false)] H (noU_all rfl) (fun fr => by kernel_rfl) ?_
                                      intro fr H
                                      refine at_nil ?_
                                      show AW cfg 9 (⟨h.size, []⟩ : Gd) (right (left (right (left (right (left (right (right (right (right (right (right (bodyC cfg.P 9))))))))))))) fr h1 _
                                      refine aw_ret (by kernel_rfl) ?_
                                      exact Or.inr (Or.inl ⟨false, rfl, Option.some.inj hm, rfl, H.less _ (fun fr => by kernel_rfl)⟩)
                                    · replace H := H.know 115 hb (by kernel_rfl)
                                      refine aw_false (x := .tmp 115) (by kernel_rfl) H (fun fr => by kernel_rfl) ?_
                                      refine aw_skip (by kernel_rfl) ?_
                                      exact Or.inl ⟨rfl, Option.some.inj hm, rfl, H.less _ (fun fr => by kernel_rfl)⟩
                          · replace H := H.know 85 hb (by kernel_rfl)
                            refine aw_false (x := .tmp 85) (by kernel_rfl) H (fun fr => by kernel_rfl) ?_
                            refine aw_seq (by kernel_rfl) ?_
                            refine aw_reg (id := 12) (n := 8) [(0, []), (1, []), (2, []), (3, []), (4, []), (5, []), (6, []), (7, [])] (by kernel_rfl) (by kernel_rfl) ?_
                            refine at_seg [(0, [])] [(2, .ptr (some (h.size, 0))), (116, .ptr (some (h.size, 3)))] H (noU_all rfl) (fun fr => by kernel_rfl) ?_
                            intro fr H
                            obtain ⟨x42, hx, hm⟩ := bind_some hm
                            refine at_step (v := .int .i64 x42) (h1 := h1) [(2, .ptr (some (h.size, 0))), (117, .int .i64 x42)] H (fun fr => by kernel_rfl) (fun fr => .of (s_ld (by kernel_rfl) (ldI_eq hx))) ?_
                            intro fr t H
                            refine at_seg [(2, []), (3, [])] [(2, .ptr (some (h.size, 0))), (119, .bool (x42 != (0 : Int)))] H (noU_all rfl) (fun fr => by kernel_rfl) ?_
                            intro fr H
                            obtain ⟨x43, ho, hm⟩ := bind_some hm
                            refine at_cut [(4, []), (5, []), (6, []), (7, [])] (fun fr' h' => h1 = h' ∧ Has fr' 138 [(2, .ptr (some (h.size, 0))), (123, .bool x43)]) ?_ ?_
                            · rcases iteB_some ho with ⟨hb, hm⟩ | ⟨hb, hm⟩
                              · replace H := H.know 119 hb (by kernel_rfl)
                                refine at_seg [(4, []), (5, []), (6, []), (7, [])] [(2, .ptr (some (h.size, 0))), (123, .bool true)] H (noU_all rfl) (fun fr => by kernel_rfl) ?_
                                intro fr H
                                have e1 := Option.some.inj hm
                                subst e1
                                exact at_nil ⟨rfl, H.less _ (fun fr => by kernel_rfl)⟩
                              · replace H := H.know 119 hb (by kernel_rfl)
                                refine at_seg [(4, [])] [(2, .ptr (some (h.size, 0))), (119, .bool false), (120, .ptr (some (h.size, 4)))] H (noU_all rfl) (fun fr => by kernel_rfl) ?_
                                intro fr H
                                obtain ⟨x44, hx, hm⟩ := bind_some hm
                                refine at_step (v := .int .i64 x44) (h1 := h1) [(2, .ptr (some (h.size, 0))), (119, .bool false), (121, .int .i64 x44)] H (fun fr => by kernel_rfl) (fun fr => .of (s_ld (by kernel_rfl) (ldI_eq hx))) ?_
                                intro fr t H
                                refine at_seg [(6, []), (7, [])] [(2, .ptr (some (h.size, 0))), (123, .bool (x44 != (0 : Int)))] H (noU_all rfl) (fun fr => by kernel_rfl) ?_
                                intro fr H
                                have e1 := Option.some.inj hm
                                subst e1
                                exact at_nil ⟨rfl, H.less _ (fun fr => by kernel_rfl)⟩
                            · intro t fr h' hK
                              obtain ⟨e, H⟩ := hK
                              subst e
                              refine at_nil ?_
                              show AW cfg 9 (⟨h.size, []⟩ : Gd) (right (right (right (left (right (right (right (right (right (right (bodyC cfg.P 9))))))))))) fr h1 _
                              rcases iteB_some hm with ⟨hb, hm⟩ | ⟨hb, hm⟩
                              · replace H := H.know 123 hb (by kernel_rfl)
                                refine aw_true (x := .tmp 123) (by kernel_rfl) H (fun fr => by kernel_rfl) ?_
                                refine aw_seq (by kernel_rfl) ?_
                                refine aw_reg (id := 13) (n := 1) [(0, [])] (by kernel_rfl) (by kernel_rfl) ?_
                                refine at_seg [(0, [])] [(4, .bool false)] H (noU_all rfl) (fun fr => by kernel_rfl) ?_
                                intro fr H
                                refine at_nil ?_
                                show AW cfg 9 (⟨h.size, []⟩ : Gd) (right (left (right (right (right (left (right (right (right (right (right (right (bodyC cfg.P 9))))))))))))) fr h1 _
                                refine aw_ret (by kernel_rfl) ?_
                                exact Or.inr (Or.inl ⟨false, rfl, Option.some.inj hm, rfl, H.less _ (fun fr => by kernel_rfl)⟩)
                              · replace H := H.know 123 hb (by kernel_rfl)
                                refine aw_false (x := .tmp 123) (by kernel_rfl) H (fun fr => by kernel_rfl) ?_
                                refine aw_skip (by kernel_rfl) ?_
                                exact Or.inl ⟨rfl, Option.some.inj hm, rfl, H.less _ (fun fr => by kernel_rfl)⟩
                        · clear ho
                          intro e fr hz hQ
                          rcases hQ with ⟨rfl, rfl, rfl, H⟩ | ⟨x28, rfl, rfl, rfl, H⟩ | hF
                          · skip
                            show AW cfg 9 (⟨h.size, []⟩ : Gd) (right (right (right (right (right (right (right (bodyC cfg.P 9)))))))) fr h1 _
                            refine aw_seq (by kernel_rfl) ?_
                            refine aw_seq (by kernel_rfl) ?_
                            refine aw_reg (id := 14) (n := 3) [(0, []), (1, []), (2, [])] (by kernel_rfl) (by kernel_rfl) ?_
                            refine at_seg [(0, [])] [(2, .ptr (some (h.size, 0))), (124, .ptr (some (h.size, 0)))] H (noU_all rfl) (fun fr => by kernel_rfl) ?_
                            intro fr H
                            obtain ⟨x45, hx, hm⟩ := bind_some hm
                            refine at_step (v := .int .i64 x45) (h1 := h1) [(2, .ptr (some (h.size, 0))), (125, .int .i64 x45)] H (fun fr => by kernel_rfl) (fun fr => .of (s_ld (by kernel_rfl) (ldI_eq hx))) ?_
                            intro fr t H
                            refine at_seg [(2, [])] [(2, .ptr (some (h.size, 0))), (126, .bool (x45 == (5 : Int)))] H (noU_all rfl) (fun fr => by kernel_rfl) ?_
                            intro fr H
                            refine at_nil ?_
                            show AW cfg 9 (⟨h.size, []⟩ : Gd) (right (left (right (right (right (right (right (right (right (bodyC cfg.P 9)))))))))) fr h1 _
                            rcases iteB_some hm with ⟨hb, hm⟩ | ⟨hb, hm⟩
                            · replace H := H.know 126 hb (by kernel_rfl)
                              refine aw_true (x := .tmp 126) (by kernel_rfl) H (fun fr => by kernel_rfl) ?_
                              refine aw_seq (by kernel_rfl) ?_
                              refine aw_reg (id := 15) (n := 9) [(0, []), (1, []), (2, []), (3, []), (4, []), (5, []), (6, []), (7, []), (8, [])] (by kernel_rfl) (by kernel_rfl) ?_
                              refine at_seg [(0, [])] [(2, .ptr (some (h.size, 0))), (127, .ptr (some (h.size, 5)))] H (noU_all rfl) (fun fr => by kernel_rfl) ?_
                              intro fr H
                              obtain ⟨x46, hx, hm⟩ := bind_some hm
                              refine at_step (v := .int .i64 x46) (h1 := h1) [(2, .ptr (some (h.size, 0))), (128, .int .i64 x46)] H (fun fr => by kernel_rfl) (fun fr => .of (s_ld (by kernel_rfl) (ldI_eq hx))) ?_
                              intro fr t H
                              refine at_seg [(2, []), (3, [])] [(2, .ptr (some (h.size, 0))), (130, .bool (decide (x46 ≥ (1 : Int))))] H (noU_all rfl) (fun fr => by kernel_rfl) ?_
                              intro fr H
                              obtain ⟨x47, ho, hm⟩ := bind_some hm
                              refine at_cut [(4, []), (5, []), (6, []), (7, [])] (fun fr' h' => h1 = h' ∧ Has fr' 138 [(134, .bool x47)]) ?_ ?_
                              · rcases iteB_some ho with ⟨hb, hm⟩ | ⟨hb, hm⟩
                                · replace H := H.know 130 hb (by kernel_rfl)
                                  refine at_seg [(4, [])] [(130, .bool true), (131, .ptr (some (h.size, 5)))] H (noU_all rfl) (fun fr => by kernel_rfl) ?_
                                  intro fr H
                                  obtain ⟨x48, hx, hm⟩ := bind_some hm
                                  refine at_step (v := .int .i64 x48) (h1 := h1) [(130, .bool true), (132, .int .i64 x48)] H (fun fr => by kernel_rfl) (fun fr => .of (s_ld (by kernel_rfl) (ldI_eq hx))) ?_
                                  intro fr t H
                                  refine at_seg [(6, []), (7, [])] [(134, .bool (decide (x48 ≤ (1024 : Int))))] H (noU_all rfl) (fun fr => by kernel_rfl) ?_
                                  intro fr H
                                  have e1 := Option.some.inj hm
                                  subst e1
                                  exact at_nil ⟨rfl, H.less _ (fun fr => by kernel_rfl)⟩
                                · replace H := H.know 130 hb (by kernel_rfl)
                                  refine at_seg [(4, []), (5, []), (6, []), (7, [])] [(134, .bool false)] H (noU_all rfl) (fun fr => by kernel_rfl) ?_
                                  intro fr H
                                  have e1 := Option.some.inj hm
                                  subst e1
                                  exact at_nil ⟨rfl, H.less _ (fun fr => by kernel_rfl)⟩
                              · intro t fr h' hK
                                obtain ⟨e, H⟩ := hK
                                subst e
                                refine at_seg [(8, [])] [(4, .bool x47)] H (noU_all rfl) (fun fr => by kernel_rfl) ?_
                                intro fr H
                                refine at_nil ?_
                                show AW cfg 9 (⟨h.size, []⟩ : Gd) (right (left (right (left (right (right (right (right (right (right (right (bodyC cfg.P 9)))))))))))) fr h1 _
                                refine aw_ret (by kernel_rfl) ?_
                                have e1 := Option.some.inj hm
                                subst e1
                                exact (doneE_of .ret H (fun fr => by kernel_rfl) (.inl rfl) : doneE cfg.P _ _ _ fr _)
                            · replace H := H.know 126 hb (by kernel_rfl)
                              refine aw_false (x := .tmp 126) (by kernel_rfl) H (fun fr => by kernel_rfl) ?_
                              refine aw_skip (by kernel_rfl) ?_
                              show AW cfg 9 (⟨h.size, []⟩ : Gd) (right (right (right (right (right (right (right (right (bodyC cfg.P 9))))))))) fr h1 _
                              refine aw_seq (by kernel_rfl) ?_
                              refine aw_reg (id := 16) (n := 4) [(0, []), (1, []), (2, []), (3, [])] (by kernel_rfl) (by kernel_rfl) ?_
                              refine at_seg [(0, [])] [(135, .ptr (some (h.size, 5)))] H (noU_all rfl) (fun fr => by kernel_rfl) ?_
                              intro fr H
                              obtain ⟨x49, hx, hm⟩ := bind_some hm
                              refine at_step (v := .int .i64 x49) (h1 := h1) [(136, .int .i64 x49)] H (fun fr => by kernel_rfl) (fun fr => .of (s_ld (by kernel_rfl) (ldI_eq hx))) ?_
                              intro fr t H
                              refine at_seg [(2, []), (3, [])] [(4, .bool (x49 == (0 : Int)))] H (noU_all rfl) (fun fr => by kernel_rfl) ?_
                              intro fr H
                              refine at_nil ?_
                              show AW cfg 9 (⟨h.size, []⟩ : Gd) (right (right (right (right (right (right (right (right (right (bodyC cfg.P 9)))))))))) fr h1 _
                              refine aw_ret (by kernel_rfl) ?_
                              have e1 := Option.some.inj hm
                              subst e1
                              exact (doneE_of .ret H (fun fr => by kernel_rfl) (.inl rfl) : doneE cfg.P _ _ _ fr _)
                          · skip
                            have e1 := Option.some.inj hm
                            subst e1
                            exact (doneE_of .ret H (fun fr => by kernel_rfl) (.inl rfl) : doneE cfg.P _ _ _ fr _)
                          · exact hF.elim
/-! ### boulter/boulterref18.Small -/
noncomputable def M_boulterref18_Small_L0 (h : AHeap) (s : Sl × Int × Int × AHeap) : Option ((Sl × Int × Int × AHeap) ⊕ ((AHeap) ⊕ (Bool × AHeap))) :=
  match s with
  | (x6, x7, x8, h3) => (ldL h3 (h.size, 0)).bind fun x9 => iteB (decide (x8 < ((x9.n : Nat) : Int))) ((ldL h3 (h.size, 0)).bind fun x10 => (ixL x10 7 x8).bind fun a1 => (ldA h3 (a1.1, a1.2) 7).bind fun x11 => (some (h3.push (.cells none 2 [.int .i64 (0 : Int), .int .i64 (0 : Int), .int .i64 (0 : Int), .int .i64 (0 : Int), .int .i64 (0 : Int), .int .i64 (0 : Int), .str ([] : List UInt8)]))).bind fun h4 => (stG 7 (⟨h.size, []⟩ : Gd) h4 (h3.size, 0) x11).bind fun h5 => ((ldI h5 (h3.size, 0) .i64).bind fun x13 => iteB (x13 == (4 : Int)) (some (IntKind.i64.wrap (x7 + (1 : Int)))) (some x7) : Option ((Int))).bind fun x12 => iteB (decide (x12 > (4 : Int))) (some (.inr (.inr (false, h5)))) ((ldI h5 (h3.size, 3) .i64).bind fun x14 => (iteB (decide (x14 > (4 : Int))) (some true) ((ldI h5 (h3.size, 4) .i64).bind fun x16 => some (decide (x16 > (5 : Int)))) : Option (Bool)).bind fun x15 => iteB x15 (some (.inr (.inr (false, h5)))) (((ldI h5 (h3.size, 1) .i64).bind fun x18 => (iteB (decide (x18 ≥ (0 : Int))) ((ldI h5 (h3.size, 1) .i64).bind fun x20 => some (decide (x20 < x8))) (some false) : Option (Bool)).bind fun x19 => iteB x19 ((ldI h5 (h3.size, 1) .i64).bind fun x21 => (ixL x6 1 x21).bind fun a2 => (ldI h5 (a2.1, a2.2) .i64).bind fun x22 => some (IntKind.i64.wrap ((1 : Int) + x22))) (some (1 : Int)) : Option ((Int))).bind fun x17 => ((ldI h5 (h3.size, 2) .i64).bind fun x24 => (iteB (decide (x24 ≥ (0 : Int))) ((ldI h5 (h3.size, 2) .i64).bind fun x26 => some (decide (x26 < x8))) (some false) : Option (Bool)).bind fun x25 => iteB x25 ((ldI h5 (h3.size, 2) .i64).bind fun x27 => (ixL x6 1 x27).bind fun a3 => (ldI h5 (a3.1, a3.2) .i64).bind fun x28 => some (IntKind.i64.wrap (x17 + x28))) (some x17) : Option ((Int))).bind fun x23 => iteB (decide (x23 > (40 : Int))) (some (.inr (.inr (false, h5)))) ((some (h5.push (.cells (some 3) 2 [.int .i64 x23]))).bind fun h6 => (app 3 1 8 (⟨h.size, []⟩ : Gd) h6 x6 1 (.slice (some (h5.size, 0)) 1)).bind fun (x29, h7) => some (.inl (x29, x12, IntKind.i64.wrap (x8 + (1 : Int)), h7)))))) (some (.inr (.inl h3)))
noncomputable def M_boulterref18_Small (h : AHeap) (p0 : List AVal) : Option (Bool) :=
 need (p0.all AVal.one) <| (some (h.push (.cells none 2 p0))).bind fun h1 => (ldL h1 (h.size, 0)).bind fun x1 => iteB (decide (((x1.n : Nat) : Int) > (12 : Int))) (some false) ((some (h1.push (.cells (some 3) 2 []))).bind fun h2 => (loop (M_boulterref18_Small_L0 h) ((⟨some (h1.size, 0), 0⟩ : Sl), (0 : Int), (0 : Int), h2)).bind fun o1 => (match o1 with | .inl h8 => some true | .inr (x5, h8) => some x5))
theorem ok_boulterref18_Small {g : Gd} {h : AHeap} {p0 : List AVal} {r0 : Bool} (hm : M_boulterref18_Small h p0 = some r0) : Runs cfg g h 12 [.agg p0] (.bool r0) h := by
  refine runs2E (by kernel_rfl) (by kernel_rfl) (body_ofE (n := 78) (rs := [.tmp 2]) (by kernel_rfl) ?_)
  unfold M_boulterref18_Small at hm
  refine start (n := 78) [(0, .agg p0)] (by kernel_rfl) (by kernel_rfl) ?_
  intro fr H
  refine aw_seq (by kernel_rfl) ?_
  refine aw_reg (id := 0) (n := 2) [(0, []), (1, [])] (by kernel_rfl) (by kernel_rfl) ?_
  obtain ⟨hb, hm⟩ := need_some hm
  obtain ⟨h1, hx, hm⟩ := bind_some hm
  refine at_step (v := .ptr (some (h.size, 0))) (h1 := h1) [(1, .ptr (some (h.size, 0)))] H (fun fr => by kernel_rfl) (fun fr => .of (s_boxG (by kernel_rfl) hb hx)) ?_
  intro fr t H
  refine at_seg [(1, [])] [(1, .ptr (some (h.size, 0)))] H (noU_all rfl) (fun fr => by kernel_rfl) ?_
  intro fr H
  refine at_nil ?_
  show AW cfg 12 (⟨h.size, []⟩ : Gd) (right (bodyC cfg.P 12)) fr h1 _
  refine aw_seq (by kernel_rfl) ?_
  refine aw_seq (by kernel_rfl) ?_
  refine aw_reg (id := 1) (n := 4) [(0, []), (1, []), (2, []), (3, [])] (by kernel_rfl) (by kernel_rfl) ?_
  refine at_seg [(0, [])] [(1, .ptr (some (h.size, 0))), (8, .ptr (some (h.size, 0)))] H (noU_all rfl) (fun fr => by kernel_rfl) ?_
  intro fr H
  obtain ⟨x1, hx, hm⟩ := bind_some hm
  refine at_step (v := .slice x1.r x1.n) (h1 := h1) [(1, .ptr (some (h.size, 0))), (9, .slice x1.r x1.n)] H (fun fr => by kernel_rfl) (fun fr => .of (s_ld (by kernel_rfl) (ldL_eq hx))) ?_
  intro fr t H
  refine at_seg [(2, []), (3, [])] [(1, .ptr (some (h.size, 0))), (11, .bool (decide (((x1.n : Nat) : Int) > (12 : Int))))] H (noU_all rfl) (fun fr => by kernel_rfl) ?_
  intro fr H
  refine at_nil ?_
  show AW cfg 12 (⟨h.size, []⟩ : Gd) (right (left (right (bodyC cfg.P 12)))) fr h1 _
  rcases iteB_some hm with ⟨hb, hm⟩ | ⟨hb, hm⟩
  · replace H := H.know 11 hb (by kernel_rfl)
    refine aw_true (x := .tmp 11) (by kernel_rfl) H (fun fr => by kernel_rfl) ?_
    refine aw_seq (by kernel_rfl) ?_
    refine aw_reg (id := 2) (n := 1) [(0, [])] (by kernel_rfl) (by kernel_rfl) ?_
    refine at_seg [(0, [])] [(2, .bool false)] H (noU_all rfl) (fun fr => by kernel_rfl) ?_
    intro fr H
    refine at_nil ?_
    show AW cfg 12 (⟨h.size, []⟩ : Gd) (right (left (right (left (right (bodyC cfg.P 12)))))) fr h1 _
    refine aw_ret (by kernel_rfl) ?_
    have e1 := Option.some.inj hm
    subst e1
    exact (doneE_of .ret H (fun fr => by kernel_rfl) (.inl rfl) : doneE cfg.P _ _ _ fr _)
  · replace H := H.know 11 hb (by kernel_rfl)
    refine aw_false (x := .tmp 11) (by kernel_rfl) H (fun fr => by kernel_rfl) ?_
    refine aw_skip (by kernel_rfl) ?_
    show AW cfg 12 (⟨h.size, []⟩ : Gd) (right (right (bodyC cfg.P 12))) fr h1 _
    refine aw_seq (by kernel_rfl) ?_
    refine aw_reg (id := 3) (n := 2) [(0, []), (1, [])] (by kernel_rfl) (by kernel_rfl) ?_
    obtain ⟨h2, hx, hm⟩ := bind_some hm
    refine at_step (v := .slice (some (h1.size, 0)) 0) (h1 := h2) [(1, .ptr (some (h.size, 0))), (12, .slice (some (h1.size, 0)) 0)] H (fun fr => by kernel_rfl) (fun fr => .of (s_n' (by kernel_rfl) hx)) ?_
    intro fr t H
    refine at_seg [(1, [])] [(1, .ptr (some (h.size, 0))), (3, .slice (some (h1.size, 0)) 0)] H (noU_all rfl) (fun fr => by kernel_rfl) ?_
    intro fr H
    refine at_nil ?_
    show AW cfg 12 (⟨h.size, []⟩ : Gd) (right (right (right (bodyC cfg.P 12)))) fr h2 _
    refine aw_seq (by kernel_rfl) ?_
    refine aw_reg (id := 4) (n := 1) [(0, [])] (by kernel_rfl) (by kernel_rfl) ?_
    refine at_seg [(0, [])] [(1, .ptr (some (h.size, 0))), (3, .slice (some (h1.size, 0)) 0), (4, .int .i64 (0 : Int))] H (noU_all rfl) (fun fr => by kernel_rfl) ?_
    intro fr H
    refine at_nil ?_
    show AW cfg 12 (⟨h.size, []⟩ : Gd) (right (right (right (right (bodyC cfg.P 12))))) fr h2 _
    refine aw_seq (by kernel_rfl) ?_
    refine aw_seq (by kernel_rfl) ?_
    refine aw_reg (id := 5) (n := 1) [(0, [])] (by kernel_rfl) (by kernel_rfl) ?_
    refine at_seg [(0, [])] [(1, .ptr (some (h.size, 0))), (3, .slice (some (h1.size, 0)) 0), (4, .int .i64 (0 : Int)), (5, .int .i64 (0 : Int))] H (noU_all rfl) (fun fr => by kernel_rfl) ?_
    intro fr H
    refine at_nil ?_
    show AW cfg 12 (⟨h.size, []⟩ : Gd) (right (left (right (right (right (right (bodyC cfg.P 12))))))) fr h2 _
    refine aw_block (id := 0) (by kernel_rfl) ?_
    obtain ⟨o1, ho, hm⟩ := bind_some hm
    refine aw_mono (Q' := fun e fr' h' => (e = .exit 0 ∧ .inl h' = o1 ∧ h' = h' ∧ Has fr' 78 []) ∨ (∃ (x5 : Bool), e = .ret ∧ .inr (x5, h') = o1 ∧ h' = h' ∧ Has fr' 78 [(2, .bool x5)]) ∨ False) ?_ ?_
    · refine aw_loop (by kernel_rfl) (fun (s : Sl × Int × Int × AHeap) fr' h' => ∃ (x6 : Sl) (x7 : Int) (x8 : Int), (x6, x7, x8, h') = s ∧ h' = h' ∧ Has fr' 78 [(1, .ptr (some (h.size, 0))), (3, .slice x6.r x6.n), (4, .int .i64 x7), (5, .int .i64 x8)]) ho ⟨(⟨some (h1.size, 0), 0⟩ : Sl), (0 : Int), (0 : Int), rfl, rfl, H.less _ (fun fr => by kernel_rfl)⟩ ?_
      clear ho hm H
      intro s q fr h3 hI hm
      obtain ⟨x6, x7, x8, rfl, _, H⟩ := hI
      unfold M_boulterref18_Small_L0 at hm
      refine aw_seq (by kernel_rfl) ?_
      refine aw_seq (by kernel_rfl) ?_
      refine aw_reg (id := 6) (n := 5) [(0, []), (1, []), (2, []), (3, []), (4, [])] (by kernel_rfl) (by kernel_rfl) ?_
      refine at_seg [(0, []), (1, [])] [(1, .ptr (some (h.size, 0))), (3, .slice x6.r x6.n), (4, .int .i64 x7), (5, .int .i64 x8), (13, .int .i64 x8), (14, .ptr (some (h.size, 0)))] H (noU_all rfl) (fun fr => by kernel_rfl) ?_
      intro fr H
      obtain ⟨x9, hx, hm⟩ := bind_some hm
      refine at_step (v := .slice x9.r x9.n) (h1 := h3) [(1, .ptr (some (h.size, 0))), (3, .slice x6.r x6.n), (4, .int .i64 x7), (5, .int .i64 x8), (13, .int .i64 x8), (15, .slice x9.r x9.n)] H (fun fr => by kernel_rfl) (fun fr => .of (s_ld (by kernel_rfl) (ldL_eq hx))) ?_
      intro fr t H
      refine at_seg [(3, []), (4, [])] [(1, .ptr (some (h.size, 0))), (3, .slice x6.r x6.n), (4, .int .i64 x7), (5, .int .i64 x8), (17, .bool (decide (x8 < ((x9.n : Nat) : Int))))] H (noU_all rfl) (fun fr => by kernel_rfl) ?_
      intro fr H
      refine at_nil ?_
      show AW cfg 12 (⟨h.size, []⟩ : Gd) (right (left (left (left (right (left (right (right (right (right (bodyC cfg.P 12))))))))))) fr h3 _
      rcases iteB_some hm with ⟨hb, hm⟩ | ⟨hb, hm⟩
      · replace H := H.know 17 hb (by kernel_rfl)
        refine aw_true (x := .tmp 17) (by kernel_rfl) H (fun fr => by kernel_rfl) ?_
        refine aw_skip (by kernel_rfl) ?_
        show AW cfg 12 (⟨h.size, []⟩ : Gd) (right (left (left (right (left (right (right (right (right (bodyC cfg.P 12)))))))))) fr h3 _
        refine aw_seq (by kernel_rfl) ?_
        refine aw_block (id := 1) (by kernel_rfl) ?_
        refine aw_seq (by kernel_rfl) ?_
        refine aw_reg (id := 8) (n := 7) [(0, []), (1, []), (2, []), (3, []), (4, []), (5, []), (6, [])] (by kernel_rfl) (by kernel_rfl) ?_
        refine at_seg [(0, [])] [(1, .ptr (some (h.size, 0))), (3, .slice x6.r x6.n), (4, .int .i64 x7), (5, .int .i64 x8), (20, .ptr (some (h.size, 0)))] H (noU_all rfl) (fun fr => by kernel_rfl) ?_
        intro fr H
        obtain ⟨x10, hx, hm⟩ := bind_some hm
        refine at_step (v := .slice x10.r x10.n) (h1 := h3) [(1, .ptr (some (h.size, 0))), (3, .slice x6.r x6.n), (4, .int .i64 x7), (5, .int .i64 x8), (21, .slice x10.r x10.n)] H (fun fr => by kernel_rfl) (fun fr => .of (s_ld (by kernel_rfl) (ldL_eq hx))) ?_
        intro fr t H
        refine at_seg [(2, [])] [(1, .ptr (some (h.size, 0))), (3, .slice x6.r x6.n), (4, .int .i64 x7), (5, .int .i64 x8), (21, .slice x10.r x10.n), (22, .int .i64 x8)] H (noU_all rfl) (fun fr => by kernel_rfl) ?_
        intro fr H
        obtain ⟨a1, hx, hm⟩ := bind_some hm
        refine at_step (v := .ptr (some a1)) (h1 := h3) [(1, .ptr (some (h.size, 0))), (3, .slice x6.r x6.n), (4, .int .i64 x7), (5, .int .i64 x8), (23, .ptr (some (a1.1, a1.2)))] H (fun fr => by kernel_rfl) (fun fr => .of (s_ixL (s := x10) (by kernel_rfl) hx)) ?_
        intro fr t H
        obtain ⟨x11, hx, hm⟩ := bind_some hm
        refine at_step (v := .agg x11) (h1 := h3) [(1, .ptr (some (h.size, 0))), (3, .slice x6.r x6.n), (4, .int .i64 x7), (5, .int .i64 x8), (24, .agg x11)] H (fun fr => by kernel_rfl) (fun fr => .of (s_ldA (by kernel_rfl) hx)) ?_
        intro fr t H
        obtain ⟨h4, hx, hm⟩ := bind_some hm
        refine at_step (v := .ptr (some (h3.size, 0))) (h1 := h4) [(1, .ptr (some (h.size, 0))), (3, .slice x6.r x6.n), (4, .int .i64 x7), (5, .int .i64 x8), (6, .ptr (some (h3.size, 0))), (24, .agg x11)] H (fun fr => by kernel_rfl) (fun fr => .of (s_n' (by kernel_rfl) hx)) ?_
        intro fr t H
        obtain ⟨h5, hx, hm⟩ := bind_some hm
        refine at_step (v := .tuple []) (h1 := h5) [(1, .ptr (some (h.size, 0))), (3, .slice x6.r x6.n), (4, .int .i64 x7), (5, .int .i64 x8), (6, .ptr (some (h3.size, 0)))] H (fun fr => by kernel_rfl) (fun fr => .of (s_stG (by kernel_rfl) hx)) ?_
        intro fr t H
        refine at_nil ?_
        show AW cfg 12 (⟨h.size, []⟩ : Gd) (right (left (left (right (left (left (right (left (right (right (right (right (bodyC cfg.P 12))))))))))))) fr h5 _
        refine aw_seq (by kernel_rfl) ?_
        obtain ⟨o2, ho, hm⟩ := bind_some hm
        refine aw_mono (Q' := fun e fr' h' => (∃ (x12 : Int), e = .normal ∧ x12 = o2 ∧ h5 = h' ∧ Has fr' 78 [(1, .ptr (some (h.size, 0))), (3, .slice x6.r x6.n), (4, .int .i64 x12), (5, .int .i64 x8), (6, .ptr (some (h3.size, 0)))]) ∨ False) ?_ ?_
        · replace hm := ho
          clear ho
          refine aw_seq (by kernel_rfl) ?_
          refine aw_reg (id := 9) (n := 3) [(0, []), (1, []), (2, [])] (by kernel_rfl) (by kernel_rfl) ?_
          refine at_seg [(0, [])] [(1, .ptr (some (h.size, 0))), (3, .slice x6.r x6.n), (4, .int .i64 x7), (5, .int .i64 x8), (6, .ptr (some (h3.size, 0))), (25, .ptr (some (h3.size, 0)))] H (noU_all rfl) (fun fr => by kernel_rfl) ?_
          intro fr H
          obtain ⟨x13, hx, hm⟩ := bind_some hm
          refine at_step (v := .int .i64 x13) (h1 := h5) [(1, .ptr (some (h.size, 0))), (3, .slice x6.r x6.n), (4, .int .i64 x7), (5, .int .i64 x8), (6, .ptr (some (h3.size, 0))), (26, .int .i64 x13)] H (fun fr => by kernel_rfl) (fun fr => .of (s_ld (by kernel_rfl) (ldI_eq hx))) ?_
          intro fr t H
          refine at_seg [(2, [])] [(1, .ptr (some (h.size, 0))), (3, .slice x6.r x6.n), (4, .int .i64 x7), (5, .int .i64 x8), (6, .ptr (some (h3.size, 0))), (27, .bool (x13 == (4 : Int)))] H (noU_all rfl) (fun fr => by kernel_rfl) ?_
          intro fr H
          refine at_nil ?_
          show AW cfg 12 (⟨h.size, []⟩ : Gd) (right (left (right (left (left (right (left (left (right (left (right (right (right (right (bodyC cfg.P 12))))))))))))))) fr h5 _
          rcases iteB_some hm with ⟨hb, hm⟩ | ⟨hb, hm⟩
          · replace H := H.know 27 hb (by kernel_rfl)
            refine aw_true (x := .tmp 27) (by kernel_rfl) H (fun fr => by kernel_rfl) ?_
            refine aw_reg (id := 10) (n := 3) [(0, []), (1, []), (2, [])] (by kernel_rfl) (by kernel_rfl) ?_
            refine at_seg [(0, []), (1, []), (2, [])] [(1, .ptr (some (h.size, 0))), (3, .slice x6.r x6.n), (4, .int .i64 (IntKind.i64.wrap (x7 + (1 : Int)))), (5, .int .i64 x8), (6, .ptr (some (h3.size, 0)))] H (noU_all rfl) (fun fr => by kernel_rfl) ?_
            intro fr H
            refine at_nil ?_
            exact Or.inl ⟨IntKind.i64.wrap (x7 + (1 : Int)), rfl, Option.some.inj hm, rfl, H.less _ (fun fr => by kernel_rfl)⟩
          · replace H := H.know 27 hb (by kernel_rfl)
            refine aw_false (x := .tmp 27) (by kernel_rfl) H (fun fr => by kernel_rfl) ?_
            refine aw_skip (by kernel_rfl) ?_
            exact Or.inl ⟨x7, rfl, Option.some.inj hm, rfl, H.less _ (fun fr => by kernel_rfl)⟩
        · clear ho
          intro e fr hz hQ
          rcases hQ with ⟨x12, rfl, rfl, rfl, H⟩ | hF
          · skip
            show AW cfg 12 (⟨h.size, []⟩ : Gd) (right (right (left (left (right (left (left (right (left (right (right (right (right (bodyC cfg.P 12)))))))))))))) fr h5 _
            refine aw_seq (by kernel_rfl) ?_
            refine aw_seq (by kernel_rfl) ?_
            refine aw_reg (id := 11) (n := 2) [(0, []), (1, [])] (by kernel_rfl) (by kernel_rfl) ?_
            refine at_seg [(0, []), (1, [])] [(1, .ptr (some (h.size, 0))), (3, .slice x6.r x6.n), (4, .int .i64 x12), (5, .int .i64 x8), (6, .ptr (some (h3.size, 0))), (31, .bool (decide (x12 > (4 : Int))))] H (noU_all rfl) (fun fr => by kernel_rfl) ?_
            intro fr H
            refine at_nil ?_
            show AW cfg 12 (⟨h.size, []⟩ : Gd) (right (left (right (right (left (left (right (left (left (right (left (right (right (right (right (bodyC cfg.P 12)))))))))))))))) fr h5 _
            rcases iteB_some hm with ⟨hb, hm⟩ | ⟨hb, hm⟩
            · replace H := H.know 31 hb (by kernel_rfl)
              refine aw_true (x := .tmp 31) (by kernel_rfl) H (fun fr => by kernel_rfl) ?_
              refine aw_seq (by kernel_rfl) ?_
              refine aw_reg (id := 12) (n := 1) [(0, [])] (by kernel_rfl) (by kernel_rfl) ?_
              refine at_seg [(0, [])] [(2, .bool false)] H (noU_all rfl) (fun fr => by kernel_rfl) ?_
              intro fr H
              refine at_nil ?_
              show AW cfg 12 (⟨h.size, []⟩ : Gd) (right (left (right (left (right (right (left (left (right (left (left (right (left (right (right (right (right (bodyC cfg.P 12)))))))))))))))))) fr h5 _
              refine aw_ret (by kernel_rfl) ?_
              exact Exists.intro _ (And.intro (Option.some.inj hm).symm (fun e => Or.inr (Or.inl ⟨false, rfl, e, rfl, H.less _ (fun fr => by kernel_rfl)⟩)))
            · replace H := H.know 31 hb (by kernel_rfl)
              refine aw_false (x := .tmp 31) (by kernel_rfl) H (fun fr => by kernel_rfl) ?_
              refine aw_skip (by kernel_rfl) ?_
              show AW cfg 12 (⟨h.size, []⟩ : Gd) (right (right (right (left (left (right (left (left (right (left (right (right (right (right (bodyC cfg.P 12))))))))))))))) fr h5 _
              refine aw_seq (by kernel_rfl) ?_
              refine aw_seq (by kernel_rfl) ?_
              refine aw_reg (id := 13) (n := 8) [(0, []), (1, []), (2, []), (3, []), (4, []), (5, []), (6, []), (7, [])] (by kernel_rfl) (by kernel_rfl) ?_
              refine at_seg [(0, [])] [(1, .ptr (some (h.size, 0))), (3, .slice x6.r x6.n), (4, .int .i64 x12), (5, .int .i64 x8), (6, .ptr (some (h3.size, 0))), (32, .ptr (some (h3.size, 3)))] H (noU_all rfl) (fun fr => by kernel_rfl) ?_
              intro fr H
              obtain ⟨x14, hx, hm⟩ := bind_some hm
              refine at_step (v := .int .i64 x14) (h1 := h5) [(1, .ptr (some (h.size, 0))), (3, .slice x6.r x6.n), (4, .int .i64 x12), (5, .int .i64 x8), (6, .ptr (some (h3.size, 0))), (33, .int .i64 x14)] H (fun fr => by kernel_rfl) (fun fr => .of (s_ld (by kernel_rfl) (ldI_eq hx))) ?_
              intro fr t H
              refine at_seg [(2, []), (3, [])] [(1, .ptr (some (h.size, 0))), (3, .slice x6.r x6.n), (4, .int .i64 x12), (5, .int .i64 x8), (6, .ptr (some (h3.size, 0))), (35, .bool (decide (x14 > (4 : Int))))] H (noU_all rfl) (fun fr => by kernel_rfl) ?_
              intro fr H
              obtain ⟨x15, ho, hm⟩ := bind_some hm
              refine at_cut [(4, []), (5, []), (6, []), (7, [])] (fun fr' h' => h5 = h' ∧ Has fr' 78 [(1, .ptr (some (h.size, 0))), (3, .slice x6.r x6.n), (4, .int .i64 x12), (5, .int .i64 x8), (6, .ptr (some (h3.size, 0))), (39, .bool x15)]) ?_ ?_
              · rcases iteB_some ho with ⟨hb, hm⟩ | ⟨hb, hm⟩
                · replace H := H.know 35 hb (by kernel_rfl)
                  refine at_seg [(4, []), (5, []), (6, []), (7, [])] [(1, .ptr (some (h.size, 0))), (3, .slice x6.r x6.n), (4, .int .i64 x12), (5, .int .i64 x8), (6, .ptr (some (h3.size, 0))), (39, .bool true)] H (noU_all rfl) (fun fr => by kernel_rfl) ?_
                  intro fr H
                  have e1 := Option.some.inj hm
                  subst e1
                  exact at_nil ⟨rfl, H.less _ (fun fr => by kernel_rfl)⟩
                · replace H := H.know 35 hb (by kernel_rfl)
                  refine at_seg [(4, [])] [(1, .ptr (some (h.size, 0))), (3, .slice x6.r x6.n), (4, .int .i64 x12), (5, .int .i64 x8), (6, .ptr (some (h3.size, 0))), (35, .bool false), (36, .ptr (some (h3.size, 4)))] H (noU_all rfl) (fun fr => by kernel_rfl) ?_
                  intro fr H
                  obtain ⟨x16, hx, hm⟩ := bind_some hm
                  refine at_step (v := .int .i64 x16) (h1 := h5) [(1, .ptr (some (h.size, 0))), (3, .slice x6.r x6.n), (4, .int .i64 x12), (5, .int .i64 x8), (6, .ptr (some (h3.size, 0))), (35, .bool false), (37, .int .i64 x16)] H (fun fr => by kernel_rfl) (fun fr => .of (s_ld (by kernel_rfl) (ldI_eq hx))) ?_
                  intro fr t H
                  refine at_seg [(6, []), (7, [])] [(1, .ptr (some (h.size, 0))), (3, .slice x6.r x6.n), (4, .int .i64 x12), (5, .int .i64 x8), (6, .ptr (some (h3.size, 0))), (39, .bool (decide (x16 > (5 : Int))))] H (noU_all rfl) (fun fr => by kernel_rfl) ?_
                  intro fr H
                  have e1 := Option.some.inj hm
                  subst e1
                  exact at_nil ⟨rfl, H.less _ (fun fr => by kernel_rfl)⟩
              · intro t fr h' hK
                obtain ⟨e, H⟩ := hK
                subst e
                refine at_nil ?_
                show AW cfg 12 (⟨h.size, []⟩ : Gd) (right (left (right (right (right (left (left (right (left (left (right (left (right (right (right (right (bodyC cfg.P 12))))))))))))))))) fr h5 _
                rcases iteB_some hm with ⟨hb, hm⟩ | ⟨hb, hm⟩
                · replace H := H.know 39 hb (by kernel_rfl)
                  refine aw_true (x := .tmp 39) (by kernel_rfl) H (fun fr => by kernel_rfl) ?_
                  refine aw_seq (by kernel_rfl) ?_
                  refine aw_reg (id := 14) (n := 1) [(0, [])] (by kernel_rfl) (by kernel_rfl) ?_
                  refine at_seg [(0, [])] [(2, .bool false)] H (noU_all rfl) (fun fr => by kernel_rfl) ?_
                  intro fr H
                  refine at_nil ?_
                  show AW cfg 12 (⟨h.size, []⟩ : Gd) (right (left (right (left (right (right (right (left (left (right (left (left (right (left (right (right (right (right (bodyC cfg.P 12))))))))))))))))))) fr h5 _
                  refine aw_ret (by kernel_rfl) ?_
                  exact Exists.intro _ (And.intro (Option.some.inj hm).symm (fun e => Or.inr (Or.inl ⟨false, rfl, e, rfl, H.less _ (fun fr => by kernel_rfl)⟩)))
                · replace H := H.know 39 hb (by kernel_rfl)
                  refine aw_false (x := .tmp 39) (by kernel_rfl) H (fun fr => by kernel_rfl) ?_
                  refine aw_skip (by kernel_rfl) ?_
                  show AW cfg 12 (⟨h.size, []⟩ : Gd) (right (right (right (right (left (left (right (left (left (right (left (right (right (right (right (bodyC cfg.P 12)))))))))))))))) fr h5 _
                  refine aw_seq (by kernel_rfl) ?_
                  refine aw_reg (id := 15) (n := 1) [(0, [])] (by kernel_rfl) (by kernel_rfl) ?_
                  refine at_seg [(0, [])] [(1, .ptr (some (h.size, 0))), (3, .slice x6.r x6.n), (4, .int .i64 x12), (5, .int .i64 x8), (6, .ptr (some (h3.size, 0))), (7, .int .i64 (1 : Int))] H (noU_all rfl) (fun fr => by kernel_rfl) ?_
                  intro fr H
                  refine at_nil ?_
                  show AW cfg 12 (⟨h.size, []⟩ : Gd) (right (right (right (right (right (left (left (right (left (left (right (left (right (right (right (right (bodyC cfg.P 12))))))))))))))))) fr h5 _
                  refine aw_seq (by kernel_rfl) ?_
                  obtain ⟨o3, ho, hm⟩ := bind_some hm
                  refine aw_mono (Q' := fun e fr' h' => (∃ (x17 : Int), e = .normal ∧ x17 = o3 ∧ h5 = h' ∧ Has fr' 78 [(1, .ptr (some (h.size, 0))), (3, .slice x6.r x6.n), (4, .int .i64 x12), (5, .int .i64 x8), (6, .ptr (some (h3.size, 0))), (7, .int .i64 x17)]) ∨ False) ?_ ?_
                  · replace hm := ho
                    clear ho
                    refine aw_seq (by kernel_rfl) ?_
                    refine aw_reg (id := 16) (n := 9) [(0, []), (1, []), (2, []), (3, []), (4, []), (5, []), (6, []), (7, []), (8, [])] (by kernel_rfl) (by kernel_rfl) ?_
                    refine at_seg [(0, [])] [(1, .ptr (some (h.size, 0))), (3, .slice x6.r x6.n), (4, .int .i64 x12), (5, .int .i64 x8), (6, .ptr (some (h3.size, 0))), (7, .int .i64 (1 : Int)), (40, .ptr (some (h3.size, 1)))] H (noU_all rfl) (fun fr => by kernel_rfl) ?_
                    intro fr H
                    obtain ⟨x18, hx, hm⟩ := bind_some hm
                    refine at_step (v := .int .i64 x18) (h1 := h5) [(1, .ptr (some (h.size, 0))), (3, .slice x6.r x6.n), (4, .int .i64 x12), (5, .int .i64 x8), (6, .ptr (some (h3.size, 0))), (7, .int .i64 (1 : Int)), (41, .int .i64 x18)] H (fun fr => by kernel_rfl) (fun fr => .of (s_ld (by kernel_rfl) (ldI_eq hx))) ?_
                    intro fr t H
                    refine at_seg [(2, []), (3, [])] [(1, .ptr (some (h.size, 0))), (3, .slice x6.r x6.n), (4, .int .i64 x12), (5, .int .i64 x8), (6, .ptr (some (h3.size, 0))), (7, .int .i64 (1 : Int)), (43, .bool (decide (x18 ≥ (0 : Int))))] H (noU_all rfl) (fun fr => by kernel_rfl) ?_
                    intro fr H
                    obtain ⟨x19, ho, hm⟩ := bind_some hm
                    refine at_cut [(4, []), (5, []), (6, []), (7, []), (8, [])] (fun fr' h' => h5 = h' ∧ Has fr' 78 [(1, .ptr (some (h.size, 0))), (3, .slice x6.r x6.n), (4, .int .i64 x12), (5, .int .i64 x8), (6, .ptr (some (h3.size, 0))), (7, .int .i64 (1 : Int)), (48, .bool x19)]) ?_ ?_
                    · rcases iteB_some ho with ⟨hb, hm⟩ | ⟨hb, hm⟩
                      · replace H := H.know 43 hb (by kernel_rfl)
                        refine at_seg [(4, [])] [(1, .ptr (some (h.size, 0))), (3, .slice x6.r x6.n), (4, .int .i64 x12), (5, .int .i64 x8), (6, .ptr (some (h3.size, 0))), (7, .int .i64 (1 : Int)), (43, .bool true), (44, .ptr (some (h3.size, 1)))] H (noU_all rfl) (fun fr => by kernel_rfl) ?_
                        intro fr H
                        obtain ⟨x20, hx, hm⟩ := bind_some hm
                        refine at_step (v := .int .i64 x20) (h1 := h5) [(1, .ptr (some (h.size, 0))), (3, .slice x6.r x6.n), (4, .int .i64 x12), (5, .int .i64 x8), (6, .ptr (some (h3.size, 0))), (7, .int .i64 (1 : Int)), (43, .bool true), (45, .int .i64 x20)] H (fun fr => by kernel_rfl) (fun fr => .of (s_ld (by kernel_rfl) (ldI_eq hx))) ?_
                        intro fr t H
                        refine at_seg [(6, []), (7, []), (8, [])] [(1, .ptr (some (h.size, 0))), (3, .slice x6.r x6.n), (4, .int .i64 x12), (5, .int .i64 x8), (6, .ptr (some (h3.size, 0))), (7, .int .i64 (1 : Int)), (48, .bool (decide (x20 < x8)))] H (noU_all rfl) (fun fr => by kernel_rfl) ?_
                        intro fr H
                        have e1 := Option.some.inj hm
                        subst e1
                        exact at_nil ⟨rfl, H.less _ (fun fr => by kernel_rfl)⟩
                      · replace H := H.know 43 hb (by kernel_rfl)
                        refine at_seg [(4, []), (5, []), (6, []), (7, []), (8, [])] [(1, .ptr (some (h.size, 0))), (3, .slice x6.r x6.n), (4, .int .i64 x12), (5, .int .i64 x8), (6, .ptr (some (h3.size, 0))), (7, .int .i64 (1 : Int)), (48, .bool false)] H (noU_all rfl) (fun fr => by kernel_rfl) ?_
                        intro fr H
                        have e1 := Option.some.inj hm
                        subst e1
                        exact at_nil ⟨rfl, H.less _ (fun fr => by kernel_rfl)⟩
                    · intro t fr h' hK
                      obtain ⟨e, H⟩ := hK
                      subst e
                      refine at_nil ?_
                      show AW cfg 12 (⟨h.size, []⟩ : Gd) (right (left (right (right (right (right (right (left (left (right (left (left (right (left (right (right (right (right (bodyC cfg.P 12))))))))))))))))))) fr h5 _
                      rcases iteB_some hm with ⟨hb, hm⟩ | ⟨hb, hm⟩
                      · replace H := H.know 48 hb (by kernel_rfl)
                        refine aw_true (x := .tmp 48) (by kernel_rfl) H (fun fr => by kernel_rfl) ?_
                        refine aw_reg (id := 17) (n := 8) [(0, []), (1, []), (2, []), (3, []), (4, []), (5, []), (6, []), (7, [])] (by kernel_rfl) (by kernel_rfl) ?_
                        refine at_seg [(0, []), (1, []), (2, [])] [(1, .ptr (some (h.size, 0))), (3, .slice x6.r x6.n), (4, .int .i64 x12), (5, .int .i64 x8), (6, .ptr (some (h3.size, 0))), (49, .int .i64 (1 : Int)), (50, .slice x6.r x6.n), (51, .ptr (some (h3.size, 1)))] H (noU_all rfl) (fun fr => by kernel_rfl) ?_
                        intro fr H
                        obtain ⟨x21, hx, hm⟩ := bind_some hm
                        refine at_step (v := .int .i64 x21) (h1 := h5) [(1, .ptr (some (h.size, 0))), (3, .slice x6.r x6.n), (4, .int .i64 x12), (5, .int .i64 x8), (6, .ptr (some (h3.size, 0))), (49, .int .i64 (1 : Int)), (50, .slice x6.r x6.n), (52, .int .i64 x21)] H (fun fr => by kernel_rfl) (fun fr => .of (s_ld (by kernel_rfl) (ldI_eq hx))) ?_
                        intro fr t H
                        obtain ⟨a2, hx, hm⟩ := bind_some hm
                        refine at_step (v := .ptr (some a2)) (h1 := h5) [(1, .ptr (some (h.size, 0))), (3, .slice x6.r x6.n), (4, .int .i64 x12), (5, .int .i64 x8), (6, .ptr (some (h3.size, 0))), (49, .int .i64 (1 : Int)), (53, .ptr (some (a2.1, a2.2)))] H (fun fr => by kernel_rfl) (fun fr => .of (s_ixL (s := x6) (by kernel_rfl) hx)) ?_
                        intro fr t H
                        obtain ⟨x22, hx, hm⟩ := bind_some hm
                        refine at_step (v := .int .i64 x22) (h1 := h5) [(1, .ptr (some (h.size, 0))), (3, .slice x6.r x6.n), (4, .int .i64 x12), (5, .int .i64 x8), (6, .ptr (some (h3.size, 0))), (49, .int .i64 (1 : Int)), (54, .int .i64 x22)] H (fun fr => by kernel_rfl) (fun fr => .of (s_ld (by kernel_rfl) (ldI_eq hx))) ?_
                        intro fr t H
                        refine at_seg [(6, []), (7, [])] [(1, .ptr (some (h.size, 0))), (3, .slice x6.r x6.n), (4, .int .i64 x12), (5, .int .i64 x8), (6, .ptr (some (h3.size, 0))), (7, .int .i64 (IntKind.i64.wrap ((1 : Int) + x22)))] H (noU_all rfl) (fun fr => by kernel_rfl) ?_
                        intro fr H
                        refine at_nil ?_
                        exact Or.inl ⟨IntKind.i64.wrap ((1 : Int) + x22), rfl, Option.some.inj hm, rfl, H.less _ (fun fr => by kernel_rfl)⟩
                      · replace H := H.know 48 hb (by kernel_rfl)
                        refine aw_false (x := .tmp 48) (by kernel_rfl) H (fun fr => by kernel_rfl) ?_
                        refine aw_skip (by kernel_rfl) ?_
                        exact Or.inl ⟨(1 : Int), rfl, Option.some.inj hm, rfl, H.less _ (fun fr => by kernel_rfl)⟩
                  · clear ho
                    intro e fr hz hQ
                    rcases hQ with ⟨x17, rfl, rfl, rfl, H⟩ | hF
                    · skip
                      show AW cfg 12 (⟨h.size, []⟩ : Gd) (right (right (right (right (right (right (left (left (right (left (left (right (left (right (right (right (right (bodyC cfg.P 12)))))))))))))))))) fr h5 _
                      refine aw_seq (by kernel_rfl) ?_
                      obtain ⟨o4, ho, hm⟩ := bind_some hm
                      refine aw_mono (Q' := fun e fr' h' => (∃ (x23 : Int), e = .normal ∧ x23 = o4 ∧ h5 = h' ∧ Has fr' 78 [(1, .ptr (some (h.size, 0))), (3, .slice x6.r x6.n), (4, .int .i64 x12), (5, .int .i64 x8), (7, .int .i64 x23)]) ∨ False) ?_ ?_
                      · replace hm := ho
                        clear ho
                        refine aw_seq (by kernel_rfl) ?_
                        refine aw_reg (id := 18) (n := 9) [(0, []), (1, []), (2, []), (3, []), (4, []), (5, []), (6, []), (7, []), (8, [])] (by kernel_rfl) (by kernel_rfl) ?_
                        refine at_seg [(0, [])] [(1, .ptr (some (h.size, 0))), (3, .slice x6.r x6.n), (4, .int .i64 x12), (5, .int .i64 x8), (6, .ptr (some (h3.size, 0))), (7, .int .i64 x17), (56, .ptr (some (h3.size, 2)))] H (noU_all rfl) (fun fr => by kernel_rfl) ?_
                        intro fr H
                        obtain ⟨x24, hx, hm⟩ := bind_some hm
                        refine at_step (v := .int .i64 x24) (h1 := h5) [(1, .ptr (some (h.size, 0))), (3, .slice x6.r x6.n), (4, .int .i64 x12), (5, .int .i64 x8), (6, .ptr (some (h3.size, 0))), (7, .int .i64 x17), (57, .int .i64 x24)] H (fun fr => by kernel_rfl) (fun fr => .of (s_ld (by kernel_rfl) (ldI_eq hx))) ?_
                        intro fr t H
                        refine at_seg [(2, []), (3, [])] [(1, .ptr (some (h.size, 0))), (3, .slice x6.r x6.n), (4, .int .i64 x12), (5, .int .i64 x8), (6, .ptr (some (h3.size, 0))), (7, .int .i64 x17), (59, .bool (decide (x24 ≥ (0 : Int))))] H (noU_all rfl) (fun fr => by kernel_rfl) ?_
                        intro fr H
                        obtain ⟨x25, ho, hm⟩ := bind_some hm
                        refine at_cut [(4, []), (5, []), (6, []), (7, []), (8, [])] (fun fr' h' => h5 = h' ∧ Has fr' 78 [(1, .ptr (some (h.size, 0))), (3, .slice x6.r x6.n), (4, .int .i64 x12), (5, .int .i64 x8), (6, .ptr (some (h3.size, 0))), (7, .int .i64 x17), (64, .bool x25)]) ?_ ?_
                        · rcases iteB_some ho with ⟨hb, hm⟩ | ⟨hb, hm⟩
                          · replace H := H.know 59 hb (by kernel_rfl)
                            refine at_seg [(4, [])] [(1, .ptr (some (h.size, 0))), (3, .slice x6.r x6.n), (4, .int .i64 x12), (5, .int .i64 x8), (6, .ptr (some (h3.size, 0))), (7, .int .i64 x17), (59, .bool true), (60, .ptr (some (h3.size, 2)))] H (noU_all rfl) (fun fr => by kernel_rfl) ?_
                            intro fr H
                            obtain ⟨x26, hx, hm⟩ := bind_some hm
                            refine at_step (v := .int .i64 x26) (h1 := h5) [(1, .ptr (some (h.size, 0))), (3, .slice x6.r x6.n), (4, .int .i64 x12), (5, .int .i64 x8), (6, .ptr (some (h3.size, 0))), (7, .int .i64 x17), (59, .bool true), (61, .int .i64 x26)] H (fun fr => by kernel_rfl) (fun fr => .of (s_ld (by kernel_rfl) (ldI_eq hx))) ?_
                            intro fr t H
                            refine at_seg [(6, []), (7, []), (8, [])] [(1, .ptr (some (h.size, 0))), (3, .slice x6.r x6.n), (4, .int .i64 x12), (5, .int .i64 x8), (6, .ptr (some (h3.size, 0))), (7, .int .i64 x17), (64, .bool (decide (x26 < x8)))] H (noU_all rfl) (fun fr => by kernel_rfl) ?_
                            intro fr H
                            have e1 := Option.some.inj hm
                            subst e1
                            exact at_nil ⟨rfl, H.less _ (fun fr => by kernel_rfl)⟩
                          · replace H := H.know 59 hb (by kernel_rfl)
                            refine at_seg [(4, []), (5, []), (6, []), (7, []), (8, [])] [(1, .ptr (some (h.size, 0))), (3, .slice x6.r x6.n), (4, .int .i64 x12), (5, .int .i64 x8), (6, .ptr (some (h3.size, 0))), (7, .int .i64 x17), (64, .bool false)] H (noU_all rfl) (fun fr => by kernel_rfl) ?_
                            intro fr H
                            have e1 := Option.some.inj hm
                            subst e1
                            exact at_nil ⟨rfl, H.less _ (fun fr => by kernel_rfl)⟩
                        · intro t fr h' hK
                          obtain ⟨e, H⟩ := hK
                          subst e
                          refine at_nil ?_
                          show AW cfg 12 (⟨h.size, []⟩ : Gd) (right (left (right (right (right (right (right (right (left (left (right (left (left (right (left (right (right (right (right (bodyC cfg.P 12)))))))))))))))))))) fr h5 _
                          rcases iteB_some hm with ⟨hb, hm⟩ | ⟨hb, hm⟩
                          · replace H := H.know 64 hb (by kernel_rfl)
                            refine aw_true (x := .tmp 64) (by kernel_rfl) H (fun fr => by kernel_rfl) ?_
                            refine aw_reg (id := 19) (n := 8) [(0, []), (1, []), (2, []), (3, []), (4, []), (5, []), (6, []), (7, [])] (by kernel_rfl) (by kernel_rfl) ?_
                            refine at_seg [(0, []), (1, []), (2, [])] [(1, .ptr (some (h.size, 0))), (3, .slice x6.r x6.n), (4, .int .i64 x12), (5, .int .i64 x8), (65, .int .i64 x17), (66, .slice x6.r x6.n), (67, .ptr (some (h3.size, 2)))] H (noU_all rfl) (fun fr => by kernel_rfl) ?_
                            intro fr H
                            obtain ⟨x27, hx, hm⟩ := bind_some hm
                            refine at_step (v := .int .i64 x27) (h1 := h5) [(1, .ptr (some (h.size, 0))), (3, .slice x6.r x6.n), (4, .int .i64 x12), (5, .int .i64 x8), (65, .int .i64 x17), (66, .slice x6.r x6.n), (68, .int .i64 x27)] H (fun fr => by kernel_rfl) (fun fr => .of (s_ld (by kernel_rfl) (ldI_eq hx))) ?_
                            intro fr t H
                            obtain ⟨a3, hx, hm⟩ := bind_some hm
                            refine at_step (v := .ptr (some a3)) (h1 := h5) [(1, .ptr (some (h.size, 0))), (3, .slice x6.r x6.n), (4, .int .i64 x12), (5, .int .i64 x8), (65, .int .i64 x17), (69, .ptr (some (a3.1, a3.2)))] H (fun fr => by kernel_rfl) (fun fr => .of (s_ixL (s := x6) (by kernel_rfl) hx)) ?_
                            intro fr t H
                            obtain ⟨x28, hx, hm⟩ := bind_some hm
                            refine at_step (v := .int .i64 x28) (h1 := h5) [(1, .ptr (some (h.size, 0))), (3, .slice x6.r x6.n), (4, .int .i64 x12), (5, .int .i64 x8), (65, .int .i64 x17), (70, .int .i64 x28)] H (fun fr => by kernel_rfl) (fun fr => .of (s_ld (by kernel_rfl) (ldI_eq hx))) ?_
                            intro fr t H
                            refine at_seg [(6, []), (7, [])] [(1, .ptr (some (h.size, 0))), (3, .slice x6.r x6.n), (4, .int .i64 x12), (5, .int .i64 x8), (7, .int .i64 (IntKind.i64.wrap (x17 + x28)))] H (noU_all rfl) (fun fr => by kernel_rfl) ?_
                            intro fr H
                            refine at_nil ?_
                            exact Or.inl ⟨IntKind.i64.wrap (x17 + x28), rfl, Option.some.inj hm, rfl, H.less _ (fun fr => by kernel_rfl)⟩
                          · replace H := H.know 64 hb (by kernel_rfl)
                            refine aw_false (x := .tmp 64) (by kernel_rfl) H (fun fr => by kernel_rfl) ?_
                            refine aw_skip (by kernel_rfl) ?_
                            exact Or.inl ⟨x17, rfl, Option.some.inj hm, rfl, H.less _ (fun fr => by kernel_rfl)⟩
                      · clear ho
                        intro e fr hz hQ
                        rcases hQ with ⟨x23, rfl, rfl, rfl, H⟩ | hF
                        · skip
                          show AW cfg 12 (⟨h.size, []⟩ : Gd) (right (right (right (right (right (right (right (left (left (right (left (left (right (left (right (right (right (right (bodyC cfg.P 12))))))))))))))))))) fr h5 _
                          refine aw_seq (by kernel_rfl) ?_
                          refine aw_seq (by kernel_rfl) ?_
                          refine aw_reg (id := 20) (n := 2) [(0, []), (1, [])] (by kernel_rfl) (by kernel_rfl) ?_
                          refine at_seg [(0, []), (1, [])] [(1, .ptr (some (h.size, 0))), (3, .slice x6.r x6.n), (4, .int .i64 x12), (5, .int .i64 x8), (7, .int .i64 x23), (73, .bool (decide (x23 > (40 : Int))))] H (noU_all rfl) (fun fr => by kernel_rfl) ?_
                          intro fr H
                          refine at_nil ?_
                          show AW cfg 12 (⟨h.size, []⟩ : Gd) (right (left (right (right (right (right (right (right (right (left (left (right (left (left (right (left (right (right (right (right (bodyC cfg.P 12))))))))))))))))))))) fr h5 _
                          rcases iteB_some hm with ⟨hb, hm⟩ | ⟨hb, hm⟩
                          · replace H := H.know 73 hb (by kernel_rfl)
                            refine aw_true (x := .tmp 73) (by kernel_rfl) H (fun fr => by kernel_rfl) ?_
                            refine aw_seq (by kernel_rfl) ?_
                            refine aw_reg (id := 21) (n := 1) [(0, [])] (by kernel_rfl) (by kernel_rfl) ?_
                            refine at_seg [(0, [])] [(2, .bool false)] H (noU_all rfl) (fun fr => by kernel_rfl) ?_
                            intro fr H
                            refine at_nil ?_
                            show AW cfg 12 (⟨h.size, []⟩ : Gd) (right (left (right (left (right (right (right (right (right (right (right (left (left (right (left (left (right (left (right (right (right (right (bodyC cfg.P 12))))))))))))))))))))))) fr h5 _
                            refine aw_ret (by kernel_rfl) ?_
                            exact Exists.intro _ (And.intro (Option.some.inj hm).symm (fun e => Or.inr (Or.inl ⟨false, rfl, e, rfl, H.less _ (fun fr => by kernel_rfl)⟩)))
                          · replace H := H.know 73 hb (by kernel_rfl)
                            refine aw_false (x := .tmp 73) (by kernel_rfl) H (fun fr => by kernel_rfl) ?_
                            refine aw_skip (by kernel_rfl) ?_
                            show AW cfg 12 (⟨h.size, []⟩ : Gd) (right (right (right (right (right (right (right (right (left (left (right (left (left (right (left (right (right (right (right (bodyC cfg.P 12)))))))))))))))))))) fr h5 _
                            refine aw_reg (id := 22) (n := 5) [(0, []), (1, []), (2, []), (3, []), (4, [])] (by kernel_rfl) (by kernel_rfl) ?_
                            refine at_seg [(0, []), (1, [])] [(1, .ptr (some (h.size, 0))), (4, .int .i64 x12), (5, .int .i64 x8), (74, .slice x6.r x6.n), (75, .int .i64 x23)] H (noU_all rfl) (fun fr => by kernel_rfl) ?_
                            intro fr H
                            obtain ⟨h6, hx, hm⟩ := bind_some hm
                            refine at_step (v := .slice (some (h5.size, 0)) 1) (h1 := h6) [(1, .ptr (some (h.size, 0))), (4, .int .i64 x12), (5, .int .i64 x8), (74, .slice x6.r x6.n), (76, .slice (some (h5.size, 0)) 1)] H (fun fr => by kernel_rfl) (fun fr => .of (s_n' (by kernel_rfl) hx)) ?_
                            intro fr t H
                            obtain ⟨⟨x29, h7⟩, hx, hm⟩ := bind_some hm
                            refine at_step (v := .slice x29.r x29.n) (h1 := h7) [(1, .ptr (some (h.size, 0))), (4, .int .i64 x12), (5, .int .i64 x8), (77, .slice x29.r x29.n)] H (fun fr => by kernel_rfl) (fun fr => .of (s_app (s := x6) (by kernel_rfl) hx)) ?_
                            intro fr t H
                            refine at_seg [(4, [])] [(1, .ptr (some (h.size, 0))), (3, .slice x29.r x29.n), (4, .int .i64 x12), (5, .int .i64 x8)] H (noU_all rfl) (fun fr => by kernel_rfl) ?_
                            intro fr H
                            refine at_nil ?_
                            show AW cfg 12 (⟨h.size, []⟩ : Gd) (right (right (left (left (right (left (right (right (right (right (bodyC cfg.P 12))))))))))) fr h7 _
                            refine aw_reg (id := 7) (n := 3) [(0, []), (1, []), (2, [])] (by kernel_rfl) (by kernel_rfl) ?_
                            refine at_seg [(0, []), (1, []), (2, [])] [(1, .ptr (some (h.size, 0))), (3, .slice x29.r x29.n), (4, .int .i64 x12), (5, .int .i64 (IntKind.i64.wrap (x8 + (1 : Int))))] H (noU_all rfl) (fun fr => by kernel_rfl) ?_
                            intro fr H
                            refine at_nil ?_
                            exact Exists.intro (x29, x12, IntKind.i64.wrap (x8 + (1 : Int)), h7) (And.intro (Option.some.inj hm).symm ⟨x29, x12, IntKind.i64.wrap (x8 + (1 : Int)), rfl, rfl, H.less _ (fun fr => by kernel_rfl)⟩)
                        · exact hF.elim
                    · exact hF.elim
          · exact hF.elim
      · replace H := H.know 17 hb (by kernel_rfl)
        refine aw_false (x := .tmp 17) (by kernel_rfl) H (fun fr => by kernel_rfl) ?_
        refine aw_exit (i := 0) (by kernel_rfl) ?_
        exact Exists.intro _ (And.intro (Option.some.inj hm).symm (fun e => Or.inl ⟨rfl, e, rfl, H.less _ (fun fr => by kernel_rfl)⟩))
    · clear ho
      intro e fr h8 hQ
      rcases hQ with ⟨rfl, rfl, _, H⟩ | ⟨x5, rfl, rfl, _, H⟩ | hF
      · skip
        show AW cfg 12 (⟨h.size, []⟩ : Gd) (right (right (right (right (right (bodyC cfg.P 12)))))) fr h8 _
        refine aw_seq (by kernel_rfl) ?_
        refine aw_reg (id := 23) (n := 1) [(0, [])] (by kernel_rfl) (by kernel_rfl) ?_
        refine at_seg [(0, [])] [(2, .bool true)] H (noU_all rfl) (fun fr => by kernel_rfl) ?_
        intro fr H
        refine at_nil ?_
        show AW cfg 12 (⟨h.size, []⟩ : Gd) (right (right (right (right (right (right (bodyC cfg.P 12))))))) fr h8 _
        refine aw_ret (by kernel_rfl) ?_
        have e1 := Option.some.inj hm
        subst e1
        exact (doneE_of .ret H (fun fr => by kernel_rfl) (.inl rfl) : doneE cfg.P _ _ _ fr _)
      · skip
        have e1 := Option.some.inj hm
        subst e1
        exact (doneE_of .ret H (fun fr => by kernel_rfl) (.inl rfl) : doneE cfg.P _ _ _ fr _)
      · exact hF.elim
/-! ### boulter/boulterref18.Right -/
noncomputable def M_boulterref18_Right_L0 (h : AHeap) (h1 : AHeap) (s : Int) : Option ((Int) ⊕ ((Unit) ⊕ (Bool))) :=
  match s with
  | x9 => (ldL h1 (h.size, 0)).bind fun x10 => iteB (decide (x9 < ((x10.n : Nat) : Int))) ((ldL h1 (h.size, 0)).bind fun x11 => (ixL x11 7 x9).bind fun a1 => (ldA h1 (a1.1, a1.2) 7).bind fun x12 => (M_boulterref18_May h1 x12 x9).bind fun x13 => iteB (!x13) (some (.inr (.inr false))) (some (.inl (IntKind.i64.wrap (x9 + (1 : Int)))))) (some (.inr (.inl ())))
noncomputable def M_boulterref18_Right (h : AHeap) (p0 : List AVal) : Option (Bool) :=
 need (p0.all AVal.one) <| (some (h.push (.cells none 2 p0))).bind fun h1 => (ldL h1 (h.size, 0)).bind fun x1 => (iteB (decide (((x1.n : Nat) : Int) > (1024 : Int))) (some true) ((ldI h1 (h.size, 1) .i64).bind fun x3 => some (decide (x3 < (0 : Int)))) : Option (Bool)).bind fun x2 => (iteB x2 (some true) ((ldI h1 (h.size, 1) .i64).bind fun x5 => (ldL h1 (h.size, 0)).bind fun x6 => some (decide (x5 ≥ ((x6.n : Nat) : Int)))) : Option (Bool)).bind fun x4 => iteB x4 (some false) ((loop (M_boulterref18_Right_L0 h h1) (0 : Int)).bind fun o1 => (match o1 with | .inl _ => some true | .inr x8 => some x8))
theorem ok_boulterref18_Right {g : Gd} {h : AHeap} {p0 : List AVal} {r0 : Bool} (hm : M_boulterref18_Right h p0 = some r0) : Runs cfg g h 14 [.agg p0] (.bool r0) h := by
  refine runs2E (by kernel_rfl) (by kernel_rfl) (body_ofE (n := 36) (rs := [.tmp 2]) (by kernel_rfl) ?_)
  unfold M_boulterref18_Right at hm
  refine start (n := 36) [(0, .agg p0)] (by kernel_rfl) (by kernel_rfl) ?_
  intro fr H
  refine aw_seq (by kernel_rfl) ?_
  refine aw_reg (id := 0) (n := 2) [(0, []), (1, [])] (by kernel_rfl) (by kernel_rfl) ?_
  obtain ⟨hb, hm⟩ := need_some hm
  obtain ⟨h1, hx, hm⟩ := bind_some hm
  refine at_step (v := .ptr (some (h.size, 0))) (h1 := h1) [(1, .ptr (some (h.size, 0)))] H (fun fr => by kernel_rfl) (fun fr => .of (s_boxG (by kernel_rfl) hb hx)) ?_
  intro fr t H
  refine at_seg [(1, [])] [(1, .ptr (some (h.size, 0)))] H (noU_all rfl) (fun fr => by kernel_rfl) ?_
  intro fr H
  refine at_nil ?_
  show AW cfg 14 (⟨h.size, []⟩ : Gd) (right (bodyC cfg.P 14)) fr h1 _
  refine aw_seq (by kernel_rfl) ?_
  refine aw_seq (by kernel_rfl) ?_
  refine aw_reg (id := 1) (n := 17) [(0, []), (1, []), (2, []), (3, []), (4, []), (5, []), (6, []), (7, []), (8, []), (9, []), (10, []), (11, []), (12, []), (13, []), (14, []), (15, []), (16, [])] (by kernel_rfl) (by kernel_rfl) ?_
  refine at_seg [(0, [])] [(1, .ptr (some (h.size, 0))), (4, .ptr (some (h.size, 0)))] H (noU_all rfl) (fun fr => by kernel_rfl) ?_
  intro fr H
  obtain ⟨x1, hx, hm⟩ := bind_some hm
  refine at_step (v := .slice x1.r x1.n) (h1 := h1) [(1, .ptr (some (h.size, 0))), (5, .slice x1.r x1.n)] H (fun fr => by kernel_rfl) (fun fr => .of (s_ld (by kernel_rfl) (ldL_eq hx))) ?_
  intro fr t H
  refine at_seg [(2, []), (3, []), (4, [])] [(1, .ptr (some (h.size, 0))), (8, .bool (decide (((x1.n : Nat) : Int) > (1024 : Int))))] H (noU_all rfl) (fun fr => by kernel_rfl) ?_
  intro fr H
  obtain ⟨x2, ho, hm⟩ := bind_some hm
  refine at_cut [(5, []), (6, []), (7, []), (8, [])] (fun fr' h' => h1 = h' ∧ Has fr' 36 [(1, .ptr (some (h.size, 0))), (12, .bool x2)]) ?_ ?_
  · rcases iteB_some ho with ⟨hb, hm⟩ | ⟨hb, hm⟩
    · replace H := H.know 8 hb (by kernel_rfl)
      refine at_seg [(5, []), (6, []), (7, []), (8, [])] [(1, .ptr (some (h.size, 0))), (12, .bool true)] H (noU_all rfl) (fun fr => by kernel_rfl) ?_
      intro fr H
      have e1 := Option.some.inj hm
      subst e1
      exact at_nil ⟨rfl, H.less _ (fun fr => by kernel_rfl)⟩
    · replace H := H.know 8 hb (by kernel_rfl)
      refine at_seg [(5, [])] [(1, .ptr (some (h.size, 0))), (8, .bool false), (9, .ptr (some (h.size, 1)))] H (noU_all rfl) (fun fr => by kernel_rfl) ?_
      intro fr H
      obtain ⟨x3, hx, hm⟩ := bind_some hm
      refine at_step (v := .int .i64 x3) (h1 := h1) [(1, .ptr (some (h.size, 0))), (8, .bool false), (10, .int .i64 x3)] H (fun fr => by kernel_rfl) (fun fr => .of (s_ld (by kernel_rfl) (ldI_eq hx))) ?_
      intro fr t H
      refine at_seg [(7, []), (8, [])] [(1, .ptr (some (h.size, 0))), (12, .bool (decide (x3 < (0 : Int))))] H (noU_all rfl) (fun fr => by kernel_rfl) ?_
      intro fr H
      have e1 := Option.some.inj hm
      subst e1
      exact at_nil ⟨rfl, H.less _ (fun fr => by kernel_rfl)⟩
  · intro t fr h' hK
    obtain ⟨e, H⟩ := hK
    subst e
    refine at_seg [(9, [])] [(1, .ptr (some (h.size, 0))), (13, .bool x2)] H (noU_all rfl) (fun fr => by kernel_rfl) ?_
    intro fr H
    obtain ⟨x4, ho, hm⟩ := bind_some hm
    refine at_cut [(10, []), (11, []), (12, []), (13, []), (14, []), (15, []), (16, [])] (fun fr' h' => h1 = h' ∧ Has fr' 36 [(1, .ptr (some (h.size, 0))), (20, .bool x4)]) ?_ ?_
    · rcases iteB_some ho with ⟨hb, hm⟩ | ⟨hb, hm⟩
      · replace H := H.know 13 hb (by kernel_rfl)
        refine at_seg [(10, []), (11, []), (12, []), (13, []), (14, []), (15, []), (16, [])] [(1, .ptr (some (h.size, 0))), (20, .bool true)] H (noU_all rfl) (fun fr => by kernel_rfl) ?_
        intro fr H
        have e1 := Option.some.inj hm
        subst e1
        exact at_nil ⟨rfl, H.less _ (fun fr => by kernel_rfl)⟩
      · replace H := H.know 13 hb (by kernel_rfl)
        refine at_seg [(10, [])] [(1, .ptr (some (h.size, 0))), (13, .bool false), (14, .ptr (some (h.size, 1)))] H (noU_all rfl) (fun fr => by kernel_rfl) ?_
        intro fr H
        obtain ⟨x5, hx, hm⟩ := bind_some hm
        refine at_step (v := .int .i64 x5) (h1 := h1) [(1, .ptr (some (h.size, 0))), (13, .bool false), (15, .int .i64 x5)] H (fun fr => by kernel_rfl) (fun fr => .of (s_ld (by kernel_rfl) (ldI_eq hx))) ?_
        intro fr t H
        refine at_seg [(12, [])] [(1, .ptr (some (h.size, 0))), (13, .bool false), (15, .int .i64 x5), (16, .ptr (some (h.size, 0)))] H (noU_all rfl) (fun fr => by kernel_rfl) ?_
        intro fr H
        obtain ⟨x6, hx, hm⟩ := bind_some hm
        refine at_step (v := .slice x6.r x6.n) (h1 := h1) [(1, .ptr (some (h.size, 0))), (13, .bool false), (15, .int .i64 x5), (17, .slice x6.r x6.n)] H (fun fr => by kernel_rfl) (fun fr => .of (s_ld (by kernel_rfl) (ldL_eq hx))) ?_
        intro fr t H
        refine at_seg [(14, []), (15, []), (16, [])] [(1, .ptr (some (h.size, 0))), (20, .bool (decide (x5 ≥ ((x6.n : Nat) : Int))))] H (noU_all rfl) (fun fr => by kernel_rfl) ?_
        intro fr H
        have e1 := Option.some.inj hm
        subst e1
        exact at_nil ⟨rfl, H.less _ (fun fr => by kernel_rfl)⟩
    · intro t fr h' hK
      obtain ⟨e, H⟩ := hK
      subst e
      refine at_nil ?_
      show AW cfg 14 (⟨h.size, []⟩ : Gd) (right (left (right (bodyC cfg.P 14)))) fr h1 _
      rcases iteB_some hm with ⟨hb, hm⟩ | ⟨hb, hm⟩
      · replace H := H.know 20 hb (by kernel_rfl)
        refine aw_true (x := .tmp 20) (by kernel_rfl) H (fun fr => by kernel_rfl) ?_
        refine aw_seq (by kernel_rfl) ?_
        refine aw_reg (id := 2) (n := 1) [(0, [])] (by kernel_rfl) (by kernel_rfl) ?_
        refine at_seg [(0, [])] [(2, .bool false)] H (noU_all rfl) (fun fr => by kernel_rfl) ?_
        intro fr H
        refine at_nil ?_
        show AW cfg 14 (⟨h.size, []⟩ : Gd) (right (left (right (left (right (bodyC cfg.P 14)))))) fr h1 _
        refine aw_ret (by kernel_rfl) ?_
        have e1 := Option.some.inj hm
        subst e1
        exact (doneE_of .ret H (fun fr => by kernel_rfl) (.inl rfl) : doneE cfg.P _ _ _ fr _)
      · replace H := H.know 20 hb (by kernel_rfl)
        refine aw_false (x := .tmp 20) (by kernel_rfl) H (fun fr => by kernel_rfl) ?_
        refine aw_skip (by kernel_rfl) ?_
        show AW cfg 14 (⟨h.size, []⟩ : Gd) (right (right (bodyC cfg.P 14))) fr h1 _
        refine aw_seq (by kernel_rfl) ?_
        refine aw_seq (by kernel_rfl) ?_
        refine aw_reg (id := 3) (n := 1) [(0, [])] (by kernel_rfl) (by kernel_rfl) ?_
        refine at_seg [(0, [])] [(1, .ptr (some (h.size, 0))), (3, .int .i64 (0 : Int))] H (noU_all rfl) (fun fr => by kernel_rfl) ?_
        intro fr H
        refine at_nil ?_
        show AW cfg 14 (⟨h.size, []⟩ : Gd) (right (left (right (right (bodyC cfg.P 14))))) fr h1 _
        refine aw_block (id := 0) (by kernel_rfl) ?_
        obtain ⟨o1, ho, hm⟩ := bind_some hm
        refine aw_mono (Q' := fun e fr' h' => (e = .exit 0 ∧ .inl () = o1 ∧ h1 = h' ∧ Has fr' 36 []) ∨ (∃ (x8 : Bool), e = .ret ∧ .inr x8 = o1 ∧ h1 = h' ∧ Has fr' 36 [(2, .bool x8)]) ∨ False) ?_ ?_
        · refine aw_loop (by kernel_rfl) (fun (s : Int) fr' h' => ∃ (x9 : Int), x9 = s ∧ h1 = h' ∧ Has fr' 36 [(1, .ptr (some (h.size, 0))), (3, .int .i64 x9)]) ho ⟨(0 : Int), rfl, rfl, H.less _ (fun fr => by kernel_rfl)⟩ ?_
          clear ho hm H
          intro s q fr hz hI hm
          obtain ⟨x9, rfl, rfl, H⟩ := hI
          unfold M_boulterref18_Right_L0 at hm
          refine aw_seq (by kernel_rfl) ?_
          refine aw_seq (by kernel_rfl) ?_
          refine aw_reg (id := 4) (n := 5) [(0, []), (1, []), (2, []), (3, []), (4, [])] (by kernel_rfl) (by kernel_rfl) ?_
          refine at_seg [(0, []), (1, [])] [(1, .ptr (some (h.size, 0))), (3, .int .i64 x9), (21, .int .i64 x9), (22, .ptr (some (h.size, 0)))] H (noU_all rfl) (fun fr => by kernel_rfl) ?_
          intro fr H
          obtain ⟨x10, hx, hm⟩ := bind_some hm
          refine at_step (v := .slice x10.r x10.n) (h1 := h1) [(1, .ptr (some (h.size, 0))), (3, .int .i64 x9), (21, .int .i64 x9), (23, .slice x10.r x10.n)] H (fun fr => by kernel_rfl) (fun fr => .of (s_ld (by kernel_rfl) (ldL_eq hx))) ?_
          intro fr t H
          refine at_seg [(3, []), (4, [])] [(1, .ptr (some (h.size, 0))), (3, .int .i64 x9), (25, .bool (decide (x9 < ((x10.n : Nat) : Int))))] H (noU_all rfl) (fun fr => by kernel_rfl) ?_
          intro fr H
          refine at_nil ?_
          show AW cfg 14 (⟨h.size, []⟩ : Gd) (right (left (left (left (right (left (right (right (bodyC cfg.P 14))))))))) fr h1 _
          rcases iteB_some hm with ⟨hb, hm⟩ | ⟨hb, hm⟩
          · replace H := H.know 25 hb (by kernel_rfl)
            refine aw_true (x := .tmp 25) (by kernel_rfl) H (fun fr => by kernel_rfl) ?_
            refine aw_skip (by kernel_rfl) ?_
            show AW cfg 14 (⟨h.size, []⟩ : Gd) (right (left (left (right (left (right (right (bodyC cfg.P 14)))))))) fr h1 _
            refine aw_seq (by kernel_rfl) ?_
            refine aw_block (id := 1) (by kernel_rfl) ?_
            refine aw_seq (by kernel_rfl) ?_
            refine aw_reg (id := 6) (n := 8) [(0, []), (1, []), (2, []), (3, []), (4, []), (5, []), (6, []), (7, [])] (by kernel_rfl) (by kernel_rfl) ?_
            refine at_seg [(0, [])] [(1, .ptr (some (h.size, 0))), (3, .int .i64 x9), (28, .ptr (some (h.size, 0)))] H (noU_all rfl) (fun fr => by kernel_rfl) ?_
            intro fr H
            obtain ⟨x11, hx, hm⟩ := bind_some hm
            refine at_step (v := .slice x11.r x11.n) (h1 := h1) [(1, .ptr (some (h.size, 0))), (3, .int .i64 x9), (29, .slice x11.r x11.n)] H (fun fr => by kernel_rfl) (fun fr => .of (s_ld (by kernel_rfl) (ldL_eq hx))) ?_
            intro fr t H
            refine at_seg [(2, [])] [(1, .ptr (some (h.size, 0))), (3, .int .i64 x9), (29, .slice x11.r x11.n), (30, .int .i64 x9)] H (noU_all rfl) (fun fr => by kernel_rfl) ?_
            intro fr H
            obtain ⟨a1, hx, hm⟩ := bind_some hm
            refine at_step (v := .ptr (some a1)) (h1 := h1) [(1, .ptr (some (h.size, 0))), (3, .int .i64 x9), (31, .ptr (some (a1.1, a1.2)))] H (fun fr => by kernel_rfl) (fun fr => .of (s_ixL (s := x11) (by kernel_rfl) hx)) ?_
            intro fr t H
            obtain ⟨x12, hx, hm⟩ := bind_some hm
            refine at_step (v := .agg x12) (h1 := h1) [(1, .ptr (some (h.size, 0))), (3, .int .i64 x9), (32, .agg x12)] H (fun fr => by kernel_rfl) (fun fr => .of (s_ldA (by kernel_rfl) hx)) ?_
            intro fr t H
            refine at_seg [(5, [])] [(1, .ptr (some (h.size, 0))), (3, .int .i64 x9), (32, .agg x12), (33, .int .i64 x9)] H (noU_all rfl) (fun fr => by kernel_rfl) ?_
            intro fr H
            obtain ⟨x13, hx, hm⟩ := bind_some hm
            refine at_step (v := .bool x13) (h1 := h1) [(1, .ptr (some (h.size, 0))), (3, .int .i64 x9), (34, .bool x13)] H (fun fr => by kernel_rfl) (fun fr => Steps.call (by kernel_rfl) (ok_boulterref18_May hx)) ?_
            intro fr t H
            refine at_seg [(7, [])] [(1, .ptr (some (h.size, 0))), (3, .int .i64 x9), (35, .bool (!x13))] H (noU_all rfl) (fun fr => by kernel_rfl) ?_
            intro fr H
            refine at_nil ?_
            show AW cfg 14 (⟨h.size, []⟩ : Gd) (right (left (left (right (left (left (right (left (right (right (bodyC cfg.P 14))))))))))) fr h1 _
            rcases iteB_some hm with ⟨hb, hm⟩ | ⟨hb, hm⟩
            · replace H := H.know 35 hb (by kernel_rfl)
              refine aw_true (x := .tmp 35) (by kernel_rfl) H (fun fr => by kernel_rfl) ?_
              refine aw_seq (by kernel_rfl) ?_
              refine aw_reg (id := 7) (n := 1) [(0, [])] (by kernel_rfl) (by kernel_rfl) ?_
              refine at_seg [(0, [])] [(2, .bool false)] H (noU_all rfl) (fun fr => by kernel_rfl) ?_
              intro fr H
              refine at_nil ?_
              show AW cfg 14 (⟨h.size, []⟩ : Gd) (right (left (right (left (left (right (left (left (right (left (right (right (bodyC cfg.P 14))))))))))))) fr h1 _
              refine aw_ret (by kernel_rfl) ?_
              exact Exists.intro _ (And.intro (Option.some.inj hm).symm (fun e => Or.inr (Or.inl ⟨false, rfl, e, rfl, H.less _ (fun fr => by kernel_rfl)⟩)))
            · replace H := H.know 35 hb (by kernel_rfl)
              refine aw_false (x := .tmp 35) (by kernel_rfl) H (fun fr => by kernel_rfl) ?_
              refine aw_skip (by kernel_rfl) ?_
              show AW cfg 14 (⟨h.size, []⟩ : Gd) (right (right (left (left (right (left (right (right (bodyC cfg.P 14))))))))) fr h1 _
              refine aw_reg (id := 5) (n := 3) [(0, []), (1, []), (2, [])] (by kernel_rfl) (by kernel_rfl) ?_
              refine at_seg [(0, []), (1, []), (2, [])] [(1, .ptr (some (h.size, 0))), (3, .int .i64 (IntKind.i64.wrap (x9 + (1 : Int))))] H (noU_all rfl) (fun fr => by kernel_rfl) ?_
              intro fr H
              refine at_nil ?_
              exact Exists.intro (IntKind.i64.wrap (x9 + (1 : Int))) (And.intro (Option.some.inj hm).symm ⟨IntKind.i64.wrap (x9 + (1 : Int)), rfl, rfl, H.less _ (fun fr => by kernel_rfl)⟩)
          · replace H := H.know 25 hb (by kernel_rfl)
            refine aw_false (x := .tmp 25) (by kernel_rfl) H (fun fr => by kernel_rfl) ?_
            refine aw_exit (i := 0) (by kernel_rfl) ?_
            exact Exists.intro _ (And.intro (Option.some.inj hm).symm (fun e => Or.inl ⟨rfl, e, rfl, H.less _ (fun fr => by kernel_rfl)⟩))
        · clear ho
          intro e fr hz hQ
          rcases hQ with ⟨rfl, rfl, rfl, H⟩ | ⟨x8, rfl, rfl, rfl, H⟩ | hF
          · skip
            show AW cfg 14 (⟨h.size, []⟩ : Gd) (right (right (right (bodyC cfg.P 14)))) fr h1 _
            refine aw_seq (by kernel_rfl) ?_
            refine aw_reg (id := 8) (n := 1) [(0, [])] (by kernel_rfl) (by kernel_rfl) ?_
            refine at_seg [(0, [])] [(2, .bool true)] H (noU_all rfl) (fun fr => by kernel_rfl) ?_
            intro fr H
            refine at_nil ?_
            show AW cfg 14 (⟨h.size, []⟩ : Gd) (right (right (right (right (bodyC cfg.P 14))))) fr h1 _
            refine aw_ret (by kernel_rfl) ?_
            have e1 := Option.some.inj hm
            subst e1
            exact (doneE_of .ret H (fun fr => by kernel_rfl) (.inl rfl) : doneE cfg.P _ _ _ fr _)
          · skip
            have e1 := Option.some.inj hm
            subst e1
            exact (doneE_of .ret H (fun fr => by kernel_rfl) (.inl rfl) : doneE cfg.P _ _ _ fr _)
          · exact hF.elim
/-! ### boulter/boulterref18.add -/
noncomputable def M_boulterref18_add_L0 (g : Gd) (p0 : Sl) (p1 : Sl) (s : Int × AHeap) : Option ((Int × AHeap) ⊕ ((AHeap))) :=
  match s with
  | (x2, h1) => iteB (decide (x2 < ((p0.n : Nat) : Int))) ((ixL p0 1 x2).bind fun a1 => (ldB h1 (a1.1, a1.2)).bind fun x3 => (iteB x3 (some true) ((ixL p1 1 x2).bind fun a2 => (ldB h1 (a2.1, a2.2)).bind fun x5 => some x5) : Option (Bool)).bind fun x4 => (ixL p0 1 x2).bind fun a3 => (st g h1 (a3.1, a3.2) [.bool x4]).bind fun h2 => some (.inl (IntKind.i64.wrap (x2 + (1 : Int)), h2))) (some (.inr h1))
noncomputable def M_boulterref18_add (g : Gd) (h : AHeap) (p0 : Sl) (p1 : Sl) : Option ((Unit) × AHeap) :=
 (loop (M_boulterref18_add_L0 g p0 p1) ((0 : Int), h)).bind fun h3 => some ((), h3)
theorem ok_boulterref18_add {g : Gd} {h h' : AHeap} {p0 : Sl} {p1 : Sl} (hm : M_boulterref18_add g h p0 p1 = some ((), h')) : Runs cfg g h 34 [.slice p0.r p0.n, .slice p1.r p1.n] (.tuple []) h' := by
  refine runs1 (by kernel_rfl) (body_of (n := 24) (rs := []) (by kernel_rfl) ?_)
  unfold M_boulterref18_add at hm
  refine start (n := 24) [(0, .slice p0.r p0.n), (1, .slice p1.r p1.n)] (by kernel_rfl) (by kernel_rfl) ?_
  intro fr H
  refine aw_seq (by kernel_rfl) ?_
  refine aw_reg (id := 0) (n := 1) [(0, [])] (by kernel_rfl) (by kernel_rfl) ?_
  refine at_seg [(0, [])] [(0, .slice p0.r p0.n), (1, .slice p1.r p1.n), (4, .int .i64 (0 : Int))] H (noU_all rfl) (fun fr => by kernel_rfl) ?_
  intro fr H
  refine at_nil ?_
  show AW cfg 34 g (right (bodyC cfg.P 34)) fr h _
  refine aw_block (id := 0) (by kernel_rfl) ?_
  obtain ⟨o1, ho, hm⟩ := bind_some hm
  refine aw_mono (Q' := fun e fr' h' => (e = .exit 0 ∧ h' = o1 ∧ h' = h' ∧ Has fr' 24 []) ∨ False) ?_ ?_
  · refine aw_loop (by kernel_rfl) (fun (s : Int × AHeap) fr' h' => ∃ (x2 : Int), (x2, h') = s ∧ h' = h' ∧ Has fr' 24 [(0, .slice p0.r p0.n), (1, .slice p1.r p1.n), (4, .int .i64 x2)]) ho ⟨(0 : Int), rfl, rfl, H.less _ (fun fr => by kernel_rfl)⟩ ?_
    clear ho hm H
    intro s q fr h1 hI hm
    obtain ⟨x2, rfl, _, H⟩ := hI
    unfold M_boulterref18_add_L0 at hm
    refine aw_seq (by kernel_rfl) ?_
    refine aw_seq (by kernel_rfl) ?_
    refine aw_reg (id := 1) (n := 4) [(0, []), (1, []), (2, []), (3, [])] (by kernel_rfl) (by kernel_rfl) ?_
    refine at_seg [(0, []), (1, []), (2, []), (3, [])] [(0, .slice p0.r p0.n), (1, .slice p1.r p1.n), (4, .int .i64 x2), (8, .bool (decide (x2 < ((p0.n : Nat) : Int))))] H (noU_all rfl) (fun fr => by kernel_rfl) ?_
    intro fr H
    refine at_nil ?_
    show AW cfg 34 g (right (left (left (left (right (bodyC cfg.P 34)))))) fr h1 _
    rcases iteB_some hm with ⟨hb, hm⟩ | ⟨hb, hm⟩
    · replace H := H.know 8 hb (by kernel_rfl)
      refine aw_true (x := .tmp 8) (by kernel_rfl) H (fun fr => by kernel_rfl) ?_
      refine aw_skip (by kernel_rfl) ?_
      show AW cfg 34 g (right (left (left (right (bodyC cfg.P 34))))) fr h1 _
      refine aw_seq (by kernel_rfl) ?_
      refine aw_block (id := 1) (by kernel_rfl) ?_
      refine aw_reg (id := 3) (n := 14) [(0, []), (1, []), (2, []), (3, []), (4, []), (5, []), (6, []), (7, []), (8, []), (9, []), (10, []), (11, []), (12, []), (13, [])] (by kernel_rfl) (by kernel_rfl) ?_
      refine at_seg [(0, []), (1, []), (2, []), (3, [])] [(0, .slice p0.r p0.n), (1, .slice p1.r p1.n), (4, .int .i64 x2), (11, .slice p0.r p0.n), (12, .int .i64 x2), (13, .slice p0.r p0.n), (14, .int .i64 x2)] H (noU_all rfl) (fun fr => by kernel_rfl) ?_
      intro fr H
      obtain ⟨a1, hx, hm⟩ := bind_some hm
      refine at_step (v := .ptr (some a1)) (h1 := h1) [(0, .slice p0.r p0.n), (1, .slice p1.r p1.n), (4, .int .i64 x2), (11, .slice p0.r p0.n), (12, .int .i64 x2), (15, .ptr (some (a1.1, a1.2)))] H (fun fr => by kernel_rfl) (fun fr => .of (s_ixL (s := p0) (by kernel_rfl) hx)) ?_
      intro fr t H
      obtain ⟨x3, hx, hm⟩ := bind_some hm
      refine at_step (v := .bool x3) (h1 := h1) [(0, .slice p0.r p0.n), (1, .slice p1.r p1.n), (4, .int .i64 x2), (11, .slice p0.r p0.n), (12, .int .i64 x2), (16, .bool x3)] H (fun fr => by kernel_rfl) (fun fr => .of (s_ld (by kernel_rfl) (ldB_eq hx))) ?_
      intro fr t H
      refine at_seg [(6, [])] [(0, .slice p0.r p0.n), (1, .slice p1.r p1.n), (4, .int .i64 x2), (11, .slice p0.r p0.n), (12, .int .i64 x2), (17, .bool x3)] H (noU_all rfl) (fun fr => by kernel_rfl) ?_
      intro fr H
      obtain ⟨x4, ho, hm⟩ := bind_some hm
      refine at_cut [(7, []), (8, []), (9, []), (10, []), (11, [])] (fun fr' h' => h1 = h' ∧ Has fr' 24 [(0, .slice p0.r p0.n), (1, .slice p1.r p1.n), (4, .int .i64 x2), (11, .slice p0.r p0.n), (12, .int .i64 x2), (22, .bool x4)]) ?_ ?_
      · rcases iteB_some ho with ⟨hb, hm⟩ | ⟨hb, hm⟩
        · replace H := H.know 17 hb (by kernel_rfl)
          refine at_seg [(7, []), (8, []), (9, []), (10, []), (11, [])] [(0, .slice p0.r p0.n), (1, .slice p1.r p1.n), (4, .int .i64 x2), (11, .slice p0.r p0.n), (12, .int .i64 x2), (22, .bool true)] H (noU_all rfl) (fun fr => by kernel_rfl) ?_
          intro fr H
          have e1 := Option.some.inj hm
          subst e1
          exact at_nil ⟨rfl, H.less _ (fun fr => by kernel_rfl)⟩
        · replace H := H.know 17 hb (by kernel_rfl)
          refine at_seg [(7, []), (8, [])] [(0, .slice p0.r p0.n), (1, .slice p1.r p1.n), (4, .int .i64 x2), (11, .slice p0.r p0.n), (12, .int .i64 x2), (17, .bool false), (18, .slice p1.r p1.n), (19, .int .i64 x2)] H (noU_all rfl) (fun fr => by kernel_rfl) ?_
          intro fr H
          obtain ⟨a2, hx, hm⟩ := bind_some hm
          refine at_step (v := .ptr (some a2)) (h1 := h1) [(0, .slice p0.r p0.n), (1, .slice p1.r p1.n), (4, .int .i64 x2), (11, .slice p0.r p0.n), (12, .int .i64 x2), (17, .bool false), (20, .ptr (some (a2.1, a2.2)))] H (fun fr => by kernel_rfl) (fun fr => .of (s_ixL (s := p1) (by kernel_rfl) hx)) ?_
          intro fr t H
          obtain ⟨x5, hx, hm⟩ := bind_some hm
          refine at_step (v := .bool x5) (h1 := h1) [(0, .slice p0.r p0.n), (1, .slice p1.r p1.n), (4, .int .i64 x2), (11, .slice p0.r p0.n), (12, .int .i64 x2), (17, .bool false), (21, .bool x5)] H (fun fr => by kernel_rfl) (fun fr => .of (s_ld (by kernel_rfl) (ldB_eq hx))) ?_
          intro fr t H
          refine at_seg [(11, [])] [(0, .slice p0.r p0.n), (1, .slice p1.r p1.n), (4, .int .i64 x2), (11, .slice p0.r p0.n), (12, .int .i64 x2), (22, .bool x5)] H (noU_all rfl) (fun fr => by kernel_rfl) ?_
          intro fr H
          have e1 := Option.some.inj hm
          subst e1
          exact at_nil ⟨rfl, H.less _ (fun fr => by kernel_rfl)⟩
      · intro t fr h' hK
        obtain ⟨e, H⟩ := hK
        subst e
        obtain ⟨a3, hx, hm⟩ := bind_some hm
        refine at_step (v := .ptr (some a3)) (h1 := h1) [(0, .slice p0.r p0.n), (1, .slice p1.r p1.n), (4, .int .i64 x2), (22, .bool x4), (23, .ptr (some (a3.1, a3.2)))] H (fun fr => by kernel_rfl) (fun fr => .of (s_ixL (s := p0) (by kernel_rfl) hx)) ?_
        intro fr t H
        obtain ⟨h2, hx, hm⟩ := bind_some hm
        refine at_step (v := .tuple []) (h1 := h2) [(0, .slice p0.r p0.n), (1, .slice p1.r p1.n), (4, .int .i64 x2)] H (fun fr => by kernel_rfl) (fun fr => .of (s_st (by kernel_rfl) rfl hx)) ?_
        intro fr t H
        refine at_nil ?_
        show AW cfg 34 g (right (right (left (left (right (bodyC cfg.P 34)))))) fr h2 _
        refine aw_reg (id := 2) (n := 3) [(0, []), (1, []), (2, [])] (by kernel_rfl) (by kernel_rfl) ?_
        refine at_seg [(0, []), (1, []), (2, [])] [(0, .slice p0.r p0.n), (1, .slice p1.r p1.n), (4, .int .i64 (IntKind.i64.wrap (x2 + (1 : Int))))] H (noU_all rfl) (fun fr => by kernel_rfl) ?_
        intro fr H
        refine at_nil ?_
        exact Exists.intro (IntKind.i64.wrap (x2 + (1 : Int)), h2) (And.intro (Option.some.inj hm).symm ⟨IntKind.i64.wrap (x2 + (1 : Int)), rfl, rfl, H.less _ (fun fr => by kernel_rfl)⟩)
    · replace H := H.know 8 hb (by kernel_rfl)
      refine aw_false (x := .tmp 8) (by kernel_rfl) H (fun fr => by kernel_rfl) ?_
      refine aw_exit (i := 0) (by kernel_rfl) ?_
      exact Exists.intro _ (And.intro (Option.some.inj hm).symm (fun e => Or.inl ⟨rfl, e, rfl, H.less _ (fun fr => by kernel_rfl)⟩))
  · clear ho
    intro e fr h3 hQ
    rcases hQ with ⟨rfl, rfl, _, H⟩ | hF
    · skip
      obtain ⟨e1, e2⟩ := inj2 hm
      subst e2
      exact (done_normal H (fun fr => by kernel_rfl) rfl : doneQ cfg.P _ _ _ _ fr _)
    · exact hF.elim
end Go.Abs.L
