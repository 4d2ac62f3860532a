/-
  Models of functions of package law30, and that the abstract run tells them. Written by lift.py.
-/
import Derived.Test.YtimjggadeingjaaLCfg
import Derived.Test.YtimjggadeingjaaLoccur
namespace Go.Abs.L
open Go.Abs
set_option linter.unusedVariables false
/-! ### boulter/boulterlaw30.awake -/
def M_boulterlaw30_awake : Option (Bool) := some true
theorem ok_boulterlaw30_awake {g : Gd} {h : AHeap} {r0 : Bool} (hm : M_boulterlaw30_awake = some r0) : Runs cfg g h 7 [] (.bool r0) h := by
  have e1 := Option.some.inj hm
  subst e1
  exact runs4E (by kernel_rfl) rfl rfl (closed 1000 (by kernel_rfl))
/-! ### boulter/boulterlaw30.OccurOnce -/
noncomputable def M_boulterlaw30_OccurOnce_L0 (h : AHeap) (p1 : Sl) (x1 : Option (Nat × Nat)) (h1 : AHeap) (h2 : AHeap) (s : Int × AHeap) : Option ((Int × AHeap) ⊕ ((AHeap) ⊕ (Bool × AHeap))) :=
  match s with
  | (x7, h4) => iteB (decide (x7 < ((p1.n : Nat) : Int))) (((ixL p1 1 x7).bind fun a1 => (ldI h4 (a1.1, a1.2) .u8).bind fun x9 => (M_occur_Picker_Take (⟨h.size, []⟩ : Gd) h4 x1 (Int.tmod (IntKind.i64.wrap x9) (5 : Int))).bind fun ((x10, x11), h5) => iteB (x11 != (0 : Int)) (some (.inr (false, h5))) ((ixA (h1.size, 0) 5 1 (Int.tmod (IntKind.i64.wrap x9) (5 : Int))).bind fun a2 => (ldI h5 (a2.1, a2.2) .i64).bind fun x12 => (ixA (h1.size, 0) 5 1 (Int.tmod (IntKind.i64.wrap x9) (5 : Int))).bind fun a3 => (st (⟨h.size, []⟩ : Gd) h5 (a3.1, a3.2) [.int .i64 (IntKind.i64.wrap (x12 + (1 : Int)))]).bind fun h6 => iteB x10 ((ixA (h2.size, 0) 5 1 (Int.tmod (IntKind.i64.wrap x9) (5 : Int))).bind fun a4 => (ldI h6 (a4.1, a4.2) .i64).bind fun x13 => (ixA (h2.size, 0) 5 1 (Int.tmod (IntKind.i64.wrap x9) (5 : Int))).bind fun a5 => (st (⟨h.size, []⟩ : Gd) h6 (a5.1, a5.2) [.int .i64 (IntKind.i64.wrap (x13 + (1 : Int)))]).bind fun h7 => some (.inl h7)) (some (.inl h6))) : Option ((AHeap) ⊕ (Bool × AHeap))).bind fun o2 => (match o2 with | .inl h8 => some (.inl (IntKind.i64.wrap (x7 + (1 : Int)), h8)) | .inr (x8, h8) => some (.inr (.inr (x8, h8))))) (some (.inr (.inl h4)))
noncomputable def M_boulterlaw30_OccurOnce_L1 (p0 : Int) (x1 : Option (Nat × Nat)) (h1 : AHeap) (h2 : AHeap) (h9 : AHeap) (s : Int) : Option ((Int) ⊕ ((Unit) ⊕ (Bool))) :=
  match s with
  | x16 => iteB (decide (x16 < (5 : Int))) (((ixA (h1.size, 0) 5 1 x16).bind fun a6 => (ldI h9 (a6.1, a6.2) .i64).bind fun x18 => iteB (decide (x18 ≥ (IntKind.i64.wrap ((1 : Int) + (Int.tmod (IntKind.i64.wrap p0) (4 : Int)))))) (some (1 : Int)) (some (0 : Int)) : Option ((Int))).bind fun x17 => (ixA (h2.size, 0) 5 1 x16).bind fun a7 => (ldI h9 (a7.1, a7.2) .i64).bind fun x19 => (iteB (x19 != x17) (some true) ((ixA (h1.size, 0) 5 1 x16).bind fun a8 => (ldI h9 (a8.1, a8.2) .i64).bind fun x21 => (M_occur_Picker_Count h9 x1 x16).bind fun x22 => some (x22 != x21)) : Option (Bool)).bind fun x20 => iteB x20 (some (.inr (.inr false))) (some (.inl (IntKind.i64.wrap (x16 + (1 : Int)))))) (some (.inr (.inl ())))
noncomputable def M_boulterlaw30_OccurOnce (h : AHeap) (p0 : Int) (p1 : Sl) : Option (Bool) :=
 (M_occur_New (⟨h.size, []⟩ : Gd) h (IntKind.i64.wrap ((1 : Int) + (Int.tmod (IntKind.i64.wrap p0) (4 : Int)))) (5 : Int)).bind fun ((x1, x2), h1) => iteB (((x2 != (0 : Int)) || x1.isNone) || (decide (((p1.n : Nat) : Int) > (80 : Int)))) ((iteB ((x2 == (0 : Int)) && x1.isSome) ((M_boulterlaw30_awake).bind fun x4 => some x4) (some false) : Option (Bool)).bind fun x3 => some x3) ((some (h1.push (.cells none 2 [.int .i64 (0 : Int), .int .i64 (0 : Int), .int .i64 (0 : Int), .int .i64 (0 : Int), .int .i64 (0 : Int)]))).bind fun h2 => (some (h2.push (.cells none 2 [.int .i64 (0 : Int), .int .i64 (0 : Int), .int .i64 (0 : Int), .int .i64 (0 : Int), .int .i64 (0 : Int)]))).bind fun h3 => (loop (M_boulterlaw30_OccurOnce_L0 h p1 x1 h1 h2) ((0 : Int), h3)).bind fun o1 => (match o1 with | .inl h9 => (loop (M_boulterlaw30_OccurOnce_L1 p0 x1 h1 h2 h9) (0 : Int)).bind fun o3 => (match o3 with | .inl _ => (M_boulterlaw30_awake).bind fun x23 => some x23 | .inr x15 => some x15) | .inr (x6, h9) => some x6))
theorem ok_boulterlaw30_OccurOnce {g : Gd} {h : AHeap} {p0 : Int} {p1 : Sl} {r0 : Bool} (hm : M_boulterlaw30_OccurOnce h p0 p1 = some r0) : Runs cfg g h 3 [.int .u8 p0, .slice p1.r p1.n] (.bool r0) h := by
  refine runs2E (by kernel_rfl) (by kernel_rfl) (body_ofE (n := 99) (rs := [.tmp 4]) (by kernel_rfl) ?_)
  unfold M_boulterlaw30_OccurOnce at hm
  refine start (n := 99) [(0, .int .u8 p0), (1, .slice p1.r p1.n)] (by kernel_rfl) (by kernel_rfl) ?_
  intro fr H
  refine aw_seq (by kernel_rfl) ?_
  refine aw_reg (id := 0) (n := 1) [(0, [])] (by kernel_rfl) (by kernel_rfl) ?_
  refine at_seg [(0, [])] [(0, .int .u8 p0), (1, .slice p1.r p1.n)] H (noU_all rfl) (fun fr => by kernel_rfl) ?_
  intro fr H
  refine at_nil ?_
  show AW cfg 3 (⟨h.size, []⟩ : Gd) (right (bodyC cfg.P 3)) fr h _
  refine aw_seq (by kernel_rfl) ?_
  refine aw_reg (id := 1) (n := 5) [(0, []), (1, []), (2, []), (3, []), (4, [])] (by kernel_rfl) (by kernel_rfl) ?_
  refine at_seg [(0, []), (1, []), (2, []), (3, []), (4, [])] [(1, .slice p1.r p1.n), (5, .int .i64 (IntKind.i64.wrap ((1 : Int) + (Int.tmod (IntKind.i64.wrap p0) (4 : Int)))))] H (noU_all rfl) (fun fr => by kernel_rfl) ?_
  intro fr H
  refine at_nil ?_
  show AW cfg 3 (⟨h.size, []⟩ : Gd) (right (right (bodyC cfg.P 3))) fr h _
  refine aw_seq (by kernel_rfl) ?_
  refine aw_reg (id := 2) (n := 7) [(0, []), (1, []), (2, []), (3, []), (4, []), (5, []), (6, [])] (by kernel_rfl) (by kernel_rfl) ?_
  refine at_seg [(0, [])] [(1, .slice p1.r p1.n), (5, .int .i64 (IntKind.i64.wrap ((1 : Int) + (Int.tmod (IntKind.i64.wrap p0) (4 : Int))))), (22, .int .i64 (IntKind.i64.wrap ((1 : Int) + (Int.tmod (IntKind.i64.wrap p0) (4 : Int)))))] H (noU_all rfl) (fun fr => by kernel_rfl) ?_
  intro fr H
  obtain ⟨⟨⟨x1, x2⟩, h1⟩, hx, hm⟩ := bind_some hm
  refine at_step (v := .tuple [.ptr x1, .int .i64 x2]) (h1 := h1) [(1, .slice p1.r p1.n), (5, .int .i64 (IntKind.i64.wrap ((1 : Int) + (Int.tmod (IntKind.i64.wrap p0) (4 : Int))))), (23, .tuple [.ptr x1, .int .i64 x2])] H (fun fr => by kernel_rfl) (fun fr => Steps.call (by kernel_rfl) (ok_occur_New hx)) ?_
  intro fr t H
  refine at_seg [(2, []), (3, []), (4, []), (5, []), (6, [])] [(1, .slice p1.r p1.n), (5, .int .i64 (IntKind.i64.wrap ((1 : Int) + (Int.tmod (IntKind.i64.wrap p0) (4 : Int))))), (6, .ptr x1), (7, .int .i64 x2)] H (noU_all rfl) (fun fr => by kernel_rfl) ?_
  intro fr H
  refine at_nil ?_
  show AW cfg 3 (⟨h.size, []⟩ : Gd) (right (right (right (bodyC cfg.P 3)))) fr h1 _
  refine aw_seq (by kernel_rfl) ?_
  refine aw_seq (by kernel_rfl) ?_
  refine aw_reg (id := 3) (n := 11) [(0, []), (1, []), (2, []), (3, []), (4, []), (5, []), (6, []), (7, []), (8, []), (9, []), (10, [])] (by kernel_rfl) (by kernel_rfl) ?_
  refine at_seg [(0, []), (1, []), (2, [])] [(1, .slice p1.r p1.n), (5, .int .i64 (IntKind.i64.wrap ((1 : Int) + (Int.tmod (IntKind.i64.wrap p0) (4 : Int))))), (6, .ptr x1), (7, .int .i64 x2), (28, .bool (x2 != (0 : Int)))] H (noU_all rfl) (fun fr => by kernel_rfl) ?_
  intro fr H
  refine at_cut [(3, []), (4, []), (5, [])] (fun fr' h' => h1 = h' ∧ Has fr' 99 [(1, .slice p1.r p1.n), (5, .int .i64 (IntKind.i64.wrap ((1 : Int) + (Int.tmod (IntKind.i64.wrap p0) (4 : Int))))), (6, .ptr x1), (7, .int .i64 x2), (31, .bool ((x2 != (0 : Int)) || x1.isNone))]) ?_ ?_
  · cases hb : (x2 != (0 : Int) : Bool) with
    | true =>
      rw [hb] at H
      refine at_seg [(3, []), (4, []), (5, [])] [(1, .slice p1.r p1.n), (5, .int .i64 (IntKind.i64.wrap ((1 : Int) + (Int.tmod (IntKind.i64.wrap p0) (4 : Int))))), (6, .ptr x1), (7, .int .i64 x2), (31, .bool true)] H (noU_all rfl) (fun fr => by kernel_rfl) ?_
      intro fr H
      exact at_nil ⟨rfl, by first | exact H.less _ (fun fr => by rfl) | (rw [hb]; exact H.less _ (fun fr => by rfl))⟩
    | false =>
      rw [hb] at H
      refine at_seg [(3, [])] [(1, .slice p1.r p1.n), (5, .int .i64 (IntKind.i64.wrap ((1 : Int) + (Int.tmod (IntKind.i64.wrap p0) (4 : Int))))), (6, .ptr x1), (7, .int .i64 x2), (28, .bool false), (29, .ptr x1)] H (noU_all rfl) (fun fr => by kernel_rfl) ?_
      intro fr H
      refine at_step (v := .bool x1.isNone) (h1 := h1) [(1, .slice p1.r p1.n), (5, .int .i64 (IntKind.i64.wrap ((1 : Int) + (Int.tmod (IntKind.i64.wrap p0) (4 : Int))))), (6, .ptr x1), (7, .int .i64 x2), (28, .bool false), (30, .bool x1.isNone)] H (fun fr => by kernel_rfl) (fun fr => .of (s_nilT (by kernel_rfl))) ?_
      intro fr t H
      refine at_seg [(5, [])] [(1, .slice p1.r p1.n), (5, .int .i64 (IntKind.i64.wrap ((1 : Int) + (Int.tmod (IntKind.i64.wrap p0) (4 : Int))))), (6, .ptr x1), (7, .int .i64 x2), (31, .bool x1.isNone)] H (noU_all rfl) (fun fr => by kernel_rfl) ?_
      intro fr H
      exact at_nil ⟨rfl, by first | exact H.less _ (fun fr => by rfl) | (rw [hb]; exact H.less _ (fun fr => by rfl))⟩
  · intro t fr h' hK
    obtain ⟨e, H⟩ := hK
    subst e
    refine at_seg [(6, [])] [(1, .slice p1.r p1.n), (5, .int .i64 (IntKind.i64.wrap ((1 : Int) + (Int.tmod (IntKind.i64.wrap p0) (4 : Int))))), (6, .ptr x1), (7, .int .i64 x2), (32, .bool ((x2 != (0 : Int)) || x1.isNone))] H (noU_all rfl) (fun fr => by kernel_rfl) ?_
    intro fr H
    refine at_cut [(7, []), (8, []), (9, []), (10, [])] (fun fr' h' => h1 = h' ∧ Has fr' 99 [(1, .slice p1.r p1.n), (5, .int .i64 (IntKind.i64.wrap ((1 : Int) + (Int.tmod (IntKind.i64.wrap p0) (4 : Int))))), (6, .ptr x1), (7, .int .i64 x2), (36, .bool (((x2 != (0 : Int)) || x1.isNone) || (decide (((p1.n : Nat) : Int) > (80 : Int)))))]) ?_ ?_
    · cases hb : ((x2 != (0 : Int)) || x1.isNone : Bool) with
      | true =>
        rw [hb] at H
        refine at_seg [(7, []), (8, []), (9, []), (10, [])] [(1, .slice p1.r p1.n), (5, .int .i64 (IntKind.i64.wrap ((1 : Int) + (Int.tmod (IntKind.i64.wrap p0) (4 : Int))))), (6, .ptr x1), (7, .int .i64 x2), (36, .bool true)] H (noU_all rfl) (fun fr => by kernel_rfl) ?_
        intro fr H
        exact at_nil ⟨rfl, by first | exact H.less _ (fun fr => by rfl) | (rw [hb]; exact H.less _ (fun fr => by rfl))⟩
      | false =>
        rw [hb] at H
        refine at_seg [(7, []), (8, []), (9, []), (10, [])] [(1, .slice p1.r p1.n), (5, .int .i64 (IntKind.i64.wrap ((1 : Int) + (Int.tmod (IntKind.i64.wrap p0) (4 : Int))))), (6, .ptr x1), (7, .int .i64 x2), (36, .bool (decide (((p1.n : Nat) : Int) > (80 : Int))))] H (noU_all rfl) (fun fr => by kernel_rfl) ?_
        intro fr H
        exact at_nil ⟨rfl, by first | exact H.less _ (fun fr => by rfl) | (rw [hb]; exact H.less _ (fun fr => by rfl))⟩
    · intro t fr h' hK
      obtain ⟨e, H⟩ := hK
      subst e
      refine at_nil ?_
      show AW cfg 3 (⟨h.size, []⟩ : Gd) (right (left (right (right (right (bodyC cfg.P 3)))))) fr h1 _
      rcases iteB_some hm with ⟨hb, hm⟩ | ⟨hb, hm⟩
      · rw [hb] at H
        refine aw_true (x := .tmp 36) (by kernel_rfl) H (fun fr => by kernel_rfl) ?_
        refine aw_seq (by kernel_rfl) ?_
        refine aw_reg (id := 4) (n := 10) [(0, []), (1, []), (2, []), (3, []), (4, []), (5, []), (6, []), (7, []), (8, []), (9, [])] (by kernel_rfl) (by kernel_rfl) ?_
        refine at_seg [(0, []), (1, []), (2, [])] [(6, .ptr x1), (39, .bool (x2 == (0 : Int)))] H (noU_all rfl) (fun fr => by kernel_rfl) ?_
        intro fr H
        refine at_cut [(3, []), (4, []), (5, [])] (fun fr' h' => h1 = h' ∧ Has fr' 99 [(42, .bool ((x2 == (0 : Int)) && x1.isSome))]) ?_ ?_
        · cases hb : (x2 == (0 : Int) : Bool) with
          | true =>
            rw [hb] at H
            refine at_seg [(3, [])] [(39, .bool true), (40, .ptr x1)] H (noU_all rfl) (fun fr => by kernel_rfl) ?_
            intro fr H
            refine at_step (v := .bool x1.isSome) (h1 := h1) [(39, .bool true), (41, .bool x1.isSome)] H (fun fr => by kernel_rfl) (fun fr => .of (s_nilF (by kernel_rfl))) ?_
            intro fr t H
            refine at_seg [(5, [])] [(42, .bool x1.isSome)] H (noU_all rfl) (fun fr => by kernel_rfl) ?_
            intro fr H
            exact at_nil ⟨rfl, by first | exact H.less _ (fun fr => by rfl) | (rw [hb]; exact H.less _ (fun fr => by rfl))⟩
          | false =>
            rw [hb] at H
            refine at_seg [(3, []), (4, []), (5, [])] [(42, .bool false)] H (noU_all rfl) (fun fr => by kernel_rfl) ?_
            intro fr H
            exact at_nil ⟨rfl, by first | exact H.less _ (fun fr => by rfl) | (rw [hb]; exact H.less _ (fun fr => by rfl))⟩
        · intro t fr h' hK
          obtain ⟨e, H⟩ := hK
          subst e
          refine at_seg [(6, [])] [(43, .bool ((x2 == (0 : Int)) && x1.isSome))] H (noU_all rfl) (fun fr => by kernel_rfl) ?_
          intro fr H
          obtain ⟨x3, ho, hm⟩ := bind_some hm
          refine at_cut [(7, []), (8, [])] (fun fr' h' => h1 = h' ∧ Has fr' 99 [(45, .bool x3)]) ?_ ?_
          · rcases iteB_some ho with ⟨hb, hm⟩ | ⟨hb, hm⟩
            · rw [hb] at H
              obtain ⟨x4, hx, hm⟩ := bind_some hm
              refine at_step (v := .bool x4) (h1 := h1) [(43, .bool true), (44, .bool x4)] H (fun fr => by kernel_rfl) (fun fr => Steps.call (by kernel_rfl) (ok_boulterlaw30_awake hx)) ?_
              intro fr t H
              refine at_seg [(8, [])] [(45, .bool x4)] H (noU_all rfl) (fun fr => by kernel_rfl) ?_
              intro fr H
              have e1 := Option.some.inj hm
              subst e1
              exact at_nil ⟨rfl, H.less _ (fun fr => by kernel_rfl)⟩
            · rw [hb] at H
              refine at_seg [(7, []), (8, [])] [(45, .bool false)] H (noU_all rfl) (fun fr => by kernel_rfl) ?_
              intro fr H
              have e1 := Option.some.inj hm
              subst e1
              exact at_nil ⟨rfl, H.less _ (fun fr => by kernel_rfl)⟩
          · intro t fr h' hK
            obtain ⟨e, H⟩ := hK
            subst e
            refine at_seg [(9, [])] [(4, .bool x3)] H (noU_all rfl) (fun fr => by kernel_rfl) ?_
            intro fr H
            refine at_nil ?_
            show AW cfg 3 (⟨h.size, []⟩ : Gd) (right (left (right (left (right (right (right (bodyC cfg.P 3)))))))) fr h1 _
            refine aw_ret (by kernel_rfl) ?_
            have e1 := Option.some.inj hm
            subst e1
            exact (doneE_of .ret H (fun fr => by kernel_rfl) (.inl rfl) : doneE cfg.P _ _ _ fr _)
      · rw [hb] at H
        refine aw_false (x := .tmp 36) (by kernel_rfl) H (fun fr => by kernel_rfl) ?_
        refine aw_skip (by kernel_rfl) ?_
        show AW cfg 3 (⟨h.size, []⟩ : Gd) (right (right (right (right (bodyC cfg.P 3))))) fr h1 _
        refine aw_seq (by kernel_rfl) ?_
        refine aw_reg (id := 5) (n := 2) [(0, []), (1, [])] (by kernel_rfl) (by kernel_rfl) ?_
        obtain ⟨h2, hx, hm⟩ := bind_some hm
        refine at_step (v := .ptr (some (h1.size, 0))) (h1 := h2) [(1, .slice p1.r p1.n), (5, .int .i64 (IntKind.i64.wrap ((1 : Int) + (Int.tmod (IntKind.i64.wrap p0) (4 : Int))))), (6, .ptr x1), (8, .ptr (some (h1.size, 0)))] H (fun fr => by kernel_rfl) (fun fr => .of (s_n' (by kernel_rfl) hx)) ?_
        intro fr t H
        obtain ⟨h3, hx, hm⟩ := bind_some hm
        refine at_step (v := .ptr (some (h2.size, 0))) (h1 := h3) [(1, .slice p1.r p1.n), (5, .int .i64 (IntKind.i64.wrap ((1 : Int) + (Int.tmod (IntKind.i64.wrap p0) (4 : Int))))), (6, .ptr x1), (8, .ptr (some (h1.size, 0))), (9, .ptr (some (h2.size, 0)))] H (fun fr => by kernel_rfl) (fun fr => .of (s_n' (by kernel_rfl) hx)) ?_
        intro fr t H
        refine at_nil ?_
        show AW cfg 3 (⟨h.size, []⟩ : Gd) (right (right (right (right (right (bodyC cfg.P 3)))))) fr h3 _
        refine aw_seq (by kernel_rfl) ?_
        refine aw_seq (by kernel_rfl) ?_
        refine aw_reg (id := 6) (n := 3) [(0, []), (1, []), (2, [])] (by kernel_rfl) (by kernel_rfl) ?_
        refine at_seg [(0, []), (1, []), (2, [])] [(5, .int .i64 (IntKind.i64.wrap ((1 : Int) + (Int.tmod (IntKind.i64.wrap p0) (4 : Int))))), (6, .ptr x1), (8, .ptr (some (h1.size, 0))), (9, .ptr (some (h2.size, 0))), (46, .slice p1.r p1.n), (47, .int .i64 ((p1.n : Nat) : Int)), (48, .int .i64 (0 : Int))] H (noU_all rfl) (fun fr => by kernel_rfl) ?_
        intro fr H
        refine at_nil ?_
        show AW cfg 3 (⟨h.size, []⟩ : Gd) (right (left (right (right (right (right (right (bodyC cfg.P 3)))))))) fr h3 _
        refine aw_block (id := 0) (by kernel_rfl) ?_
        obtain ⟨o1, ho, hm⟩ := bind_some hm
        refine aw_mono (Q' := fun e fr' h' => (e = .exit 0 ∧ .inl h' = o1 ∧ h' = h' ∧ Has fr' 99 [(5, .int .i64 (IntKind.i64.wrap ((1 : Int) + (Int.tmod (IntKind.i64.wrap p0) (4 : Int))))), (6, .ptr x1), (8, .ptr (some (h1.size, 0))), (9, .ptr (some (h2.size, 0)))]) ∨ (∃ (x6 : Bool), e = .ret ∧ .inr (x6, h') = o1 ∧ h' = h' ∧ Has fr' 99 [(4, .bool x6)]) ∨ False) ?_ ?_
        · refine aw_loop (by kernel_rfl) (fun (s : Int × AHeap) fr' h' => ∃ (x7 : Int), (x7, h') = s ∧ h' = h' ∧ Has fr' 99 [(5, .int .i64 (IntKind.i64.wrap ((1 : Int) + (Int.tmod (IntKind.i64.wrap p0) (4 : Int))))), (6, .ptr x1), (8, .ptr (some (h1.size, 0))), (9, .ptr (some (h2.size, 0))), (46, .slice p1.r p1.n), (47, .int .i64 ((p1.n : Nat) : Int)), (48, .int .i64 x7)]) ho ⟨(0 : Int), rfl, rfl, H.less _ (fun fr => by kernel_rfl)⟩ ?_
          clear ho hm H
          intro s q fr h4 hI hm
          obtain ⟨x7, rfl, _, H⟩ := hI
          unfold M_boulterlaw30_OccurOnce_L0 at hm
          refine aw_seq (by kernel_rfl) ?_
          refine aw_reg (id := 7) (n := 1) [(0, [])] (by kernel_rfl) (by kernel_rfl) ?_
          refine at_seg [(0, [])] [(5, .int .i64 (IntKind.i64.wrap ((1 : Int) + (Int.tmod (IntKind.i64.wrap p0) (4 : Int))))), (6, .ptr x1), (8, .ptr (some (h1.size, 0))), (9, .ptr (some (h2.size, 0))), (46, .slice p1.r p1.n), (47, .int .i64 ((p1.n : Nat) : Int)), (48, .int .i64 x7), (49, .bool (decide (x7 < ((p1.n : Nat) : Int))))] H (noU_all rfl) (fun fr => by kernel_rfl) ?_
          intro fr H
          refine at_nil ?_
          show AW cfg 3 (⟨h.size, []⟩ : Gd) (right (left (left (right (left (right (right (right (right (right (bodyC cfg.P 3))))))))))) fr h4 _
          refine aw_seq (by kernel_rfl) ?_
          rcases iteB_some hm with ⟨hb, hm⟩ | ⟨hb, hm⟩
          · rw [hb] at H
            refine aw_true (x := .tmp 49) (by kernel_rfl) H (fun fr => by kernel_rfl) ?_
            refine aw_skip (by kernel_rfl) ?_
            show AW cfg 3 (⟨h.size, []⟩ : Gd) (right (right (left (left (right (left (right (right (right (right (right (bodyC cfg.P 3)))))))))))) fr h4 _
            refine aw_seq (by kernel_rfl) ?_
            obtain ⟨o2, ho, hm⟩ := bind_some hm
            refine aw_mono (Q' := fun e fr' h' => (e = .normal ∧ .inl h' = o2 ∧ h' = h' ∧ Has fr' 99 [(5, .int .i64 (IntKind.i64.wrap ((1 : Int) + (Int.tmod (IntKind.i64.wrap p0) (4 : Int))))), (6, .ptr x1), (8, .ptr (some (h1.size, 0))), (9, .ptr (some (h2.size, 0))), (46, .slice p1.r p1.n), (47, .int .i64 ((p1.n : Nat) : Int)), (48, .int .i64 x7)]) ∨ (∃ (x8 : Bool), e = .ret ∧ .inr (x8, h') = o2 ∧ h' = h' ∧ Has fr' 99 [(4, .bool x8)]) ∨ False) ?_ ?_
            · replace hm := ho
              clear ho
              refine aw_block (id := 1) (by kernel_rfl) ?_
              refine aw_seq (by kernel_rfl) ?_
              refine aw_reg (id := 8) (n := 3) [(0, []), (1, []), (2, [])] (by kernel_rfl) (by kernel_rfl) ?_
              obtain ⟨a1, hx, hm⟩ := bind_some hm
              refine at_step (v := .ptr (some a1)) (h1 := h4) [(5, .int .i64 (IntKind.i64.wrap ((1 : Int) + (Int.tmod (IntKind.i64.wrap p0) (4 : Int))))), (6, .ptr x1), (8, .ptr (some (h1.size, 0))), (9, .ptr (some (h2.size, 0))), (46, .slice p1.r p1.n), (47, .int .i64 ((p1.n : Nat) : Int)), (48, .int .i64 x7), (50, .ptr (some (a1.1, a1.2)))] H (fun fr => by kernel_rfl) (fun fr => .of (s_ixL (s := p1) (by kernel_rfl) hx)) ?_
              intro fr t H
              obtain ⟨x9, hx, hm⟩ := bind_some hm
              refine at_step (v := .int .u8 x9) (h1 := h4) [(5, .int .i64 (IntKind.i64.wrap ((1 : Int) + (Int.tmod (IntKind.i64.wrap p0) (4 : Int))))), (6, .ptr x1), (8, .ptr (some (h1.size, 0))), (9, .ptr (some (h2.size, 0))), (46, .slice p1.r p1.n), (47, .int .i64 ((p1.n : Nat) : Int)), (48, .int .i64 x7), (51, .int .u8 x9)] H (fun fr => by kernel_rfl) (fun fr => .of (s_ld (by kernel_rfl) (ldI_eq hx))) ?_
              intro fr t H
              refine at_seg [(2, [])] [(5, .int .i64 (IntKind.i64.wrap ((1 : Int) + (Int.tmod (IntKind.i64.wrap p0) (4 : Int))))), (6, .ptr x1), (8, .ptr (some (h1.size, 0))), (9, .ptr (some (h2.size, 0))), (11, .int .u8 x9), (46, .slice p1.r p1.n), (47, .int .i64 ((p1.n : Nat) : Int)), (48, .int .i64 x7)] H (noU_all rfl) (fun fr => by kernel_rfl) ?_
              intro fr H
              refine at_nil ?_
              show AW cfg 3 (⟨h.size, []⟩ : Gd) (right (left (left (right (right (left (left (right (left (right (right (right (right (right (bodyC cfg.P 3))))))))))))))) fr h4 _
              refine aw_seq (by kernel_rfl) ?_
              refine aw_reg (id := 9) (n := 4) [(0, []), (1, []), (2, []), (3, [])] (by kernel_rfl) (by kernel_rfl) ?_
              refine at_seg [(0, []), (1, []), (2, []), (3, [])] [(5, .int .i64 (IntKind.i64.wrap ((1 : Int) + (Int.tmod (IntKind.i64.wrap p0) (4 : Int))))), (6, .ptr x1), (8, .ptr (some (h1.size, 0))), (9, .ptr (some (h2.size, 0))), (12, .int .i64 (Int.tmod (IntKind.i64.wrap x9) (5 : Int))), (46, .slice p1.r p1.n), (47, .int .i64 ((p1.n : Nat) : Int)), (48, .int .i64 x7)] H (noU_all rfl) (fun fr => by kernel_rfl) ?_
              intro fr H
              refine at_nil ?_
              show AW cfg 3 (⟨h.size, []⟩ : Gd) (right (right (left (left (right (right (left (left (right (left (right (right (right (right (right (bodyC cfg.P 3)))))))))))))))) fr h4 _
              refine aw_seq (by kernel_rfl) ?_
              refine aw_reg (id := 10) (n := 8) [(0, []), (1, []), (2, []), (3, []), (4, []), (5, []), (6, []), (7, [])] (by kernel_rfl) (by kernel_rfl) ?_
              refine at_seg [(0, []), (1, [])] [(5, .int .i64 (IntKind.i64.wrap ((1 : Int) + (Int.tmod (IntKind.i64.wrap p0) (4 : Int))))), (6, .ptr x1), (8, .ptr (some (h1.size, 0))), (9, .ptr (some (h2.size, 0))), (12, .int .i64 (Int.tmod (IntKind.i64.wrap x9) (5 : Int))), (46, .slice p1.r p1.n), (47, .int .i64 ((p1.n : Nat) : Int)), (48, .int .i64 x7), (56, .ptr x1), (57, .int .i64 (Int.tmod (IntKind.i64.wrap x9) (5 : Int)))] H (noU_all rfl) (fun fr => by kernel_rfl) ?_
              intro fr H
              obtain ⟨⟨⟨x10, x11⟩, h5⟩, hx, hm⟩ := bind_some hm
              refine at_step (v := .tuple [.bool x10, .int .i64 x11]) (h1 := h5) [(5, .int .i64 (IntKind.i64.wrap ((1 : Int) + (Int.tmod (IntKind.i64.wrap p0) (4 : Int))))), (6, .ptr x1), (8, .ptr (some (h1.size, 0))), (9, .ptr (some (h2.size, 0))), (12, .int .i64 (Int.tmod (IntKind.i64.wrap x9) (5 : Int))), (46, .slice p1.r p1.n), (47, .int .i64 ((p1.n : Nat) : Int)), (48, .int .i64 x7), (58, .tuple [.bool x10, .int .i64 x11])] H (fun fr => by kernel_rfl) (fun fr => Steps.call (by kernel_rfl) (ok_occur_Picker_Take hx)) ?_
              intro fr t H
              refine at_seg [(3, []), (4, []), (5, []), (6, []), (7, [])] [(5, .int .i64 (IntKind.i64.wrap ((1 : Int) + (Int.tmod (IntKind.i64.wrap p0) (4 : Int))))), (6, .ptr x1), (8, .ptr (some (h1.size, 0))), (9, .ptr (some (h2.size, 0))), (12, .int .i64 (Int.tmod (IntKind.i64.wrap x9) (5 : Int))), (13, .bool x10), (14, .int .i64 x11), (46, .slice p1.r p1.n), (47, .int .i64 ((p1.n : Nat) : Int)), (48, .int .i64 x7)] H (noU_all rfl) (fun fr => by kernel_rfl) ?_
              intro fr H
              refine at_nil ?_
              show AW cfg 3 (⟨h.size, []⟩ : Gd) (right (right (right (left (left (right (right (left (left (right (left (right (right (right (right (right (bodyC cfg.P 3))))))))))))))))) fr h5 _
              refine aw_seq (by kernel_rfl) ?_
              refine aw_seq (by kernel_rfl) ?_
              refine aw_reg (id := 11) (n := 2) [(0, []), (1, [])] (by kernel_rfl) (by kernel_rfl) ?_
              refine at_seg [(0, []), (1, [])] [(5, .int .i64 (IntKind.i64.wrap ((1 : Int) + (Int.tmod (IntKind.i64.wrap p0) (4 : Int))))), (6, .ptr x1), (8, .ptr (some (h1.size, 0))), (9, .ptr (some (h2.size, 0))), (12, .int .i64 (Int.tmod (IntKind.i64.wrap x9) (5 : Int))), (13, .bool x10), (46, .slice p1.r p1.n), (47, .int .i64 ((p1.n : Nat) : Int)), (48, .int .i64 x7), (62, .bool (x11 != (0 : Int)))] H (noU_all rfl) (fun fr => by kernel_rfl) ?_
              intro fr H
              refine at_nil ?_
              show AW cfg 3 (⟨h.size, []⟩ : Gd) (right (left (right (right (right (left (left (right (right (left (left (right (left (right (right (right (right (right (bodyC cfg.P 3))))))))))))))))))) fr h5 _
              rcases iteB_some hm with ⟨hb, hm⟩ | ⟨hb, hm⟩
              · rw [hb] at H
                refine aw_true (x := .tmp 62) (by kernel_rfl) H (fun fr => by kernel_rfl) ?_
                refine aw_seq (by kernel_rfl) ?_
                refine aw_reg (id := 12) (n := 1) [(0, [])] (by kernel_rfl) (by kernel_rfl) ?_
                refine at_seg [(0, [])] [(4, .bool false)] H (noU_all rfl) (fun fr => by kernel_rfl) ?_
                intro fr H
                refine at_nil ?_
                show AW cfg 3 (⟨h.size, []⟩ : Gd) (right (left (right (left (right (right (right (left (left (right (right (left (left (right (left (right (right (right (right (right (bodyC cfg.P 3))))))))))))))))))))) fr h5 _
                refine aw_ret (by kernel_rfl) ?_
                exact Or.inr (Or.inl ⟨false, rfl, Option.some.inj hm, rfl, H.less _ (fun fr => by kernel_rfl)⟩)
              · rw [hb] at H
                refine aw_false (x := .tmp 62) (by kernel_rfl) H (fun fr => by kernel_rfl) ?_
                refine aw_skip (by kernel_rfl) ?_
                show AW cfg 3 (⟨h.size, []⟩ : Gd) (right (right (right (right (left (left (right (right (left (left (right (left (right (right (right (right (right (bodyC cfg.P 3)))))))))))))))))) fr h5 _
                refine aw_seq (by kernel_rfl) ?_
                refine aw_reg (id := 13) (n := 6) [(0, []), (1, []), (2, []), (3, []), (4, []), (5, [])] (by kernel_rfl) (by kernel_rfl) ?_
                refine at_seg [(0, [])] [(5, .int .i64 (IntKind.i64.wrap ((1 : Int) + (Int.tmod (IntKind.i64.wrap p0) (4 : Int))))), (6, .ptr x1), (8, .ptr (some (h1.size, 0))), (9, .ptr (some (h2.size, 0))), (12, .int .i64 (Int.tmod (IntKind.i64.wrap x9) (5 : Int))), (13, .bool x10), (46, .slice p1.r p1.n), (47, .int .i64 ((p1.n : Nat) : Int)), (48, .int .i64 x7), (63, .int .i64 (Int.tmod (IntKind.i64.wrap x9) (5 : Int)))] H (noU_all rfl) (fun fr => by kernel_rfl) ?_
                intro fr H
                obtain ⟨a2, hx, hm⟩ := bind_some hm
                refine at_step (v := .ptr (some a2)) (h1 := h5) [(5, .int .i64 (IntKind.i64.wrap ((1 : Int) + (Int.tmod (IntKind.i64.wrap p0) (4 : Int))))), (6, .ptr x1), (8, .ptr (some (h1.size, 0))), (9, .ptr (some (h2.size, 0))), (12, .int .i64 (Int.tmod (IntKind.i64.wrap x9) (5 : Int))), (13, .bool x10), (46, .slice p1.r p1.n), (47, .int .i64 ((p1.n : Nat) : Int)), (48, .int .i64 x7), (63, .int .i64 (Int.tmod (IntKind.i64.wrap x9) (5 : Int))), (64, .ptr (some (a2.1, a2.2)))] H (fun fr => by kernel_rfl) (fun fr => .of (s_ixA (by kernel_rfl) hx)) ?_
                intro fr t H
                obtain ⟨x12, hx, hm⟩ := bind_some hm
                refine at_step (v := .int .i64 x12) (h1 := h5) [(5, .int .i64 (IntKind.i64.wrap ((1 : Int) + (Int.tmod (IntKind.i64.wrap p0) (4 : Int))))), (6, .ptr x1), (8, .ptr (some (h1.size, 0))), (9, .ptr (some (h2.size, 0))), (12, .int .i64 (Int.tmod (IntKind.i64.wrap x9) (5 : Int))), (13, .bool x10), (46, .slice p1.r p1.n), (47, .int .i64 ((p1.n : Nat) : Int)), (48, .int .i64 x7), (63, .int .i64 (Int.tmod (IntKind.i64.wrap x9) (5 : Int))), (65, .int .i64 x12)] H (fun fr => by kernel_rfl) (fun fr => .of (s_ld (by kernel_rfl) (ldI_eq hx))) ?_
                intro fr t H
                refine at_seg [(3, [])] [(5, .int .i64 (IntKind.i64.wrap ((1 : Int) + (Int.tmod (IntKind.i64.wrap p0) (4 : Int))))), (6, .ptr x1), (8, .ptr (some (h1.size, 0))), (9, .ptr (some (h2.size, 0))), (12, .int .i64 (Int.tmod (IntKind.i64.wrap x9) (5 : Int))), (13, .bool x10), (46, .slice p1.r p1.n), (47, .int .i64 ((p1.n : Nat) : Int)), (48, .int .i64 x7), (63, .int .i64 (Int.tmod (IntKind.i64.wrap x9) (5 : Int))), (66, .int .i64 (IntKind.i64.wrap (x12 + (1 : Int))))] H (noU_all rfl) (fun fr => by kernel_rfl) ?_
                intro fr H
                obtain ⟨a3, hx, hm⟩ := bind_some hm
                refine at_step (v := .ptr (some a3)) (h1 := h5) [(5, .int .i64 (IntKind.i64.wrap ((1 : Int) + (Int.tmod (IntKind.i64.wrap p0) (4 : Int))))), (6, .ptr x1), (8, .ptr (some (h1.size, 0))), (9, .ptr (some (h2.size, 0))), (12, .int .i64 (Int.tmod (IntKind.i64.wrap x9) (5 : Int))), (13, .bool x10), (46, .slice p1.r p1.n), (47, .int .i64 ((p1.n : Nat) : Int)), (48, .int .i64 x7), (66, .int .i64 (IntKind.i64.wrap (x12 + (1 : Int)))), (67, .ptr (some (a3.1, a3.2)))] H (fun fr => by kernel_rfl) (fun fr => .of (s_ixA (by kernel_rfl) hx)) ?_
                intro fr t H
                obtain ⟨h6, hx, hm⟩ := bind_some hm
                refine at_step (v := .tuple []) (h1 := h6) [(5, .int .i64 (IntKind.i64.wrap ((1 : Int) + (Int.tmod (IntKind.i64.wrap p0) (4 : Int))))), (6, .ptr x1), (8, .ptr (some (h1.size, 0))), (9, .ptr (some (h2.size, 0))), (12, .int .i64 (Int.tmod (IntKind.i64.wrap x9) (5 : Int))), (13, .bool x10), (46, .slice p1.r p1.n), (47, .int .i64 ((p1.n : Nat) : Int)), (48, .int .i64 x7)] H (fun fr => by kernel_rfl) (fun fr => .of (s_st (by kernel_rfl) rfl hx)) ?_
                intro fr t H
                refine at_nil ?_
                show AW cfg 3 (⟨h.size, []⟩ : Gd) (right (right (right (right (right (left (left (right (right (left (left (right (left (right (right (right (right (right (bodyC cfg.P 3))))))))))))))))))) fr h6 _
                refine aw_seq (by kernel_rfl) ?_
                refine aw_reg (id := 14) (n := 1) [(0, [])] (by kernel_rfl) (by kernel_rfl) ?_
                refine at_seg [(0, [])] [(5, .int .i64 (IntKind.i64.wrap ((1 : Int) + (Int.tmod (IntKind.i64.wrap p0) (4 : Int))))), (6, .ptr x1), (8, .ptr (some (h1.size, 0))), (9, .ptr (some (h2.size, 0))), (12, .int .i64 (Int.tmod (IntKind.i64.wrap x9) (5 : Int))), (46, .slice p1.r p1.n), (47, .int .i64 ((p1.n : Nat) : Int)), (48, .int .i64 x7), (68, .bool x10)] H (noU_all rfl) (fun fr => by kernel_rfl) ?_
                intro fr H
                refine at_nil ?_
                show AW cfg 3 (⟨h.size, []⟩ : Gd) (right (right (right (right (right (right (left (left (right (right (left (left (right (left (right (right (right (right (right (bodyC cfg.P 3)))))))))))))))))))) fr h6 _
                rcases iteB_some hm with ⟨hb, hm⟩ | ⟨hb, hm⟩
                · rw [hb] at H
                  refine aw_true (x := .tmp 68) (by kernel_rfl) H (fun fr => by kernel_rfl) ?_
                  refine aw_reg (id := 15) (n := 6) [(0, []), (1, []), (2, []), (3, []), (4, []), (5, [])] (by kernel_rfl) (by kernel_rfl) ?_
                  refine at_seg [(0, [])] [(5, .int .i64 (IntKind.i64.wrap ((1 : Int) + (Int.tmod (IntKind.i64.wrap p0) (4 : Int))))), (6, .ptr x1), (8, .ptr (some (h1.size, 0))), (9, .ptr (some (h2.size, 0))), (46, .slice p1.r p1.n), (47, .int .i64 ((p1.n : Nat) : Int)), (48, .int .i64 x7), (69, .int .i64 (Int.tmod (IntKind.i64.wrap x9) (5 : Int)))] H (noU_all rfl) (fun fr => by kernel_rfl) ?_
                  intro fr H
                  obtain ⟨a4, hx, hm⟩ := bind_some hm
                  refine at_step (v := .ptr (some a4)) (h1 := h6) [(5, .int .i64 (IntKind.i64.wrap ((1 : Int) + (Int.tmod (IntKind.i64.wrap p0) (4 : Int))))), (6, .ptr x1), (8, .ptr (some (h1.size, 0))), (9, .ptr (some (h2.size, 0))), (46, .slice p1.r p1.n), (47, .int .i64 ((p1.n : Nat) : Int)), (48, .int .i64 x7), (69, .int .i64 (Int.tmod (IntKind.i64.wrap x9) (5 : Int))), (70, .ptr (some (a4.1, a4.2)))] H (fun fr => by kernel_rfl) (fun fr => .of (s_ixA (by kernel_rfl) hx)) ?_
                  intro fr t H
                  obtain ⟨x13, hx, hm⟩ := bind_some hm
                  refine at_step (v := .int .i64 x13) (h1 := h6) [(5, .int .i64 (IntKind.i64.wrap ((1 : Int) + (Int.tmod (IntKind.i64.wrap p0) (4 : Int))))), (6, .ptr x1), (8, .ptr (some (h1.size, 0))), (9, .ptr (some (h2.size, 0))), (46, .slice p1.r p1.n), (47, .int .i64 ((p1.n : Nat) : Int)), (48, .int .i64 x7), (69, .int .i64 (Int.tmod (IntKind.i64.wrap x9) (5 : Int))), (71, .int .i64 x13)] H (fun fr => by kernel_rfl) (fun fr => .of (s_ld (by kernel_rfl) (ldI_eq hx))) ?_
                  intro fr t H
                  refine at_seg [(3, [])] [(5, .int .i64 (IntKind.i64.wrap ((1 : Int) + (Int.tmod (IntKind.i64.wrap p0) (4 : Int))))), (6, .ptr x1), (8, .ptr (some (h1.size, 0))), (9, .ptr (some (h2.size, 0))), (46, .slice p1.r p1.n), (47, .int .i64 ((p1.n : Nat) : Int)), (48, .int .i64 x7), (69, .int .i64 (Int.tmod (IntKind.i64.wrap x9) (5 : Int))), (72, .int .i64 (IntKind.i64.wrap (x13 + (1 : Int))))] H (noU_all rfl) (fun fr => by kernel_rfl) ?_
                  intro fr H
                  obtain ⟨a5, hx, hm⟩ := bind_some hm
                  refine at_step (v := .ptr (some a5)) (h1 := h6) [(5, .int .i64 (IntKind.i64.wrap ((1 : Int) + (Int.tmod (IntKind.i64.wrap p0) (4 : Int))))), (6, .ptr x1), (8, .ptr (some (h1.size, 0))), (9, .ptr (some (h2.size, 0))), (46, .slice p1.r p1.n), (47, .int .i64 ((p1.n : Nat) : Int)), (48, .int .i64 x7), (72, .int .i64 (IntKind.i64.wrap (x13 + (1 : Int)))), (73, .ptr (some (a5.1, a5.2)))] H (fun fr => by kernel_rfl) (fun fr => .of (s_ixA (by kernel_rfl) hx)) ?_
                  intro fr t H
                  obtain ⟨h7, hx, hm⟩ := bind_some hm
                  refine at_step (v := .tuple []) (h1 := h7) [(5, .int .i64 (IntKind.i64.wrap ((1 : Int) + (Int.tmod (IntKind.i64.wrap p0) (4 : Int))))), (6, .ptr x1), (8, .ptr (some (h1.size, 0))), (9, .ptr (some (h2.size, 0))), (46, .slice p1.r p1.n), (47, .int .i64 ((p1.n : Nat) : Int)), (48, .int .i64 x7)] H (fun fr => by kernel_rfl) (fun fr => .of (s_st (by kernel_rfl) rfl hx)) ?_
                  intro fr t H
                  refine at_nil ?_
                  exact Or.inl ⟨rfl, Option.some.inj hm, rfl, H.less _ (fun fr => by kernel_rfl)⟩
                · rw [hb] at H
                  refine aw_false (x := .tmp 68) (by kernel_rfl) H (fun fr => by kernel_rfl) ?_
                  refine aw_skip (by kernel_rfl) ?_
                  exact Or.inl ⟨rfl, Option.some.inj hm, rfl, H.less _ (fun fr => by kernel_rfl)⟩
            · clear ho
              intro e fr h8 hQ
              rcases hQ with ⟨rfl, rfl, _, H⟩ | ⟨x8, rfl, rfl, _, H⟩ | hF
              · skip
                show AW cfg 3 (⟨h.size, []⟩ : Gd) (right (right (right (left (left (right (left (right (right (right (right (right (bodyC cfg.P 3))))))))))))) fr h8 _
                refine aw_reg (id := 16) (n := 2) [(0, []), (1, [])] (by kernel_rfl) (by kernel_rfl) ?_
                refine at_seg [(0, []), (1, [])] [(5, .int .i64 (IntKind.i64.wrap ((1 : Int) + (Int.tmod (IntKind.i64.wrap p0) (4 : Int))))), (6, .ptr x1), (8, .ptr (some (h1.size, 0))), (9, .ptr (some (h2.size, 0))), (46, .slice p1.r p1.n), (47, .int .i64 ((p1.n : Nat) : Int)), (48, .int .i64 (IntKind.i64.wrap (x7 + (1 : Int))))] H (noU_all rfl) (fun fr => by kernel_rfl) ?_
                intro fr H
                refine at_nil ?_
                exact Exists.intro (IntKind.i64.wrap (x7 + (1 : Int)), h8) (And.intro (Option.some.inj hm).symm ⟨IntKind.i64.wrap (x7 + (1 : Int)), rfl, rfl, H.less _ (fun fr => by kernel_rfl)⟩)
              · skip
                exact Exists.intro _ (And.intro (Option.some.inj hm).symm (fun e => Or.inr (Or.inl ⟨x8, rfl, e, rfl, H.less _ (fun fr => by kernel_rfl)⟩)))
              · exact hF.elim
          · rw [hb] at H
            refine aw_false (x := .tmp 49) (by kernel_rfl) H (fun fr => by kernel_rfl) ?_
            refine aw_exit (i := 0) (by kernel_rfl) ?_
            exact Exists.intro _ (And.intro (Option.some.inj hm).symm (fun e => Or.inl ⟨rfl, e, rfl, H.less _ (fun fr => by kernel_rfl)⟩))
        · clear ho
          intro e fr h9 hQ
          rcases hQ with ⟨rfl, rfl, _, H⟩ | ⟨x6, rfl, rfl, _, H⟩ | hF
          · skip
            show AW cfg 3 (⟨h.size, []⟩ : Gd) (right (right (right (right (right (right (bodyC cfg.P 3))))))) fr h9 _
            refine aw_seq (by kernel_rfl) ?_
            refine aw_seq (by kernel_rfl) ?_
            refine aw_reg (id := 17) (n := 1) [(0, [])] (by kernel_rfl) (by kernel_rfl) ?_
            refine at_seg [(0, [])] [(5, .int .i64 (IntKind.i64.wrap ((1 : Int) + (Int.tmod (IntKind.i64.wrap p0) (4 : Int))))), (6, .ptr x1), (8, .ptr (some (h1.size, 0))), (9, .ptr (some (h2.size, 0))), (75, .int .i64 (0 : Int))] H (noU_all rfl) (fun fr => by kernel_rfl) ?_
            intro fr H
            refine at_nil ?_
            show AW cfg 3 (⟨h.size, []⟩ : Gd) (right (left (right (right (right (right (right (right (bodyC cfg.P 3))))))))) fr h9 _
            refine aw_block (id := 2) (by kernel_rfl) ?_
            obtain ⟨o3, ho, hm⟩ := bind_some hm
            refine aw_mono (Q' := fun e fr' h' => (e = .exit 2 ∧ .inl () = o3 ∧ h9 = h' ∧ Has fr' 99 []) ∨ (∃ (x15 : Bool), e = .ret ∧ .inr x15 = o3 ∧ h9 = h' ∧ Has fr' 99 [(4, .bool x15)]) ∨ False) ?_ ?_
            · refine aw_loop (by kernel_rfl) (fun (s : Int) fr' h' => ∃ (x16 : Int), x16 = s ∧ h9 = h' ∧ Has fr' 99 [(5, .int .i64 (IntKind.i64.wrap ((1 : Int) + (Int.tmod (IntKind.i64.wrap p0) (4 : Int))))), (6, .ptr x1), (8, .ptr (some (h1.size, 0))), (9, .ptr (some (h2.size, 0))), (75, .int .i64 x16)]) ho ⟨(0 : Int), rfl, rfl, H.less _ (fun fr => by kernel_rfl)⟩ ?_
              clear ho hm H
              intro s q fr hz hI hm
              obtain ⟨x16, rfl, rfl, H⟩ := hI
              unfold M_boulterlaw30_OccurOnce_L1 at hm
              refine aw_seq (by kernel_rfl) ?_
              refine aw_reg (id := 18) (n := 1) [(0, [])] (by kernel_rfl) (by kernel_rfl) ?_
              refine at_seg [(0, [])] [(5, .int .i64 (IntKind.i64.wrap ((1 : Int) + (Int.tmod (IntKind.i64.wrap p0) (4 : Int))))), (6, .ptr x1), (8, .ptr (some (h1.size, 0))), (9, .ptr (some (h2.size, 0))), (75, .int .i64 x16), (76, .bool (decide (x16 < (5 : Int))))] H (noU_all rfl) (fun fr => by kernel_rfl) ?_
              intro fr H
              refine at_nil ?_
              show AW cfg 3 (⟨h.size, []⟩ : Gd) (right (left (left (right (left (right (right (right (right (right (right (bodyC cfg.P 3)))))))))))) fr h9 _
              refine aw_seq (by kernel_rfl) ?_
              rcases iteB_some hm with ⟨hb, hm⟩ | ⟨hb, hm⟩
              · rw [hb] at H
                refine aw_true (x := .tmp 76) (by kernel_rfl) H (fun fr => by kernel_rfl) ?_
                refine aw_skip (by kernel_rfl) ?_
                show AW cfg 3 (⟨h.size, []⟩ : Gd) (right (right (left (left (right (left (right (right (right (right (right (right (bodyC cfg.P 3))))))))))))) fr h9 _
                refine aw_seq (by kernel_rfl) ?_
                refine aw_block (id := 3) (by kernel_rfl) ?_
                refine aw_seq (by kernel_rfl) ?_
                refine aw_reg (id := 19) (n := 2) [(0, []), (1, [])] (by kernel_rfl) (by kernel_rfl) ?_
                refine at_seg [(0, []), (1, [])] [(5, .int .i64 (IntKind.i64.wrap ((1 : Int) + (Int.tmod (IntKind.i64.wrap p0) (4 : Int))))), (6, .ptr x1), (8, .ptr (some (h1.size, 0))), (9, .ptr (some (h2.size, 0))), (15, .int .i64 x16), (75, .int .i64 x16)] H (noU_all rfl) (fun fr => by kernel_rfl) ?_
                intro fr H
                refine at_nil ?_
                show AW cfg 3 (⟨h.size, []⟩ : Gd) (right (left (left (right (right (left (left (right (left (right (right (right (right (right (right (bodyC cfg.P 3)))))))))))))))) fr h9 _
                refine aw_seq (by kernel_rfl) ?_
                refine aw_reg (id := 20) (n := 1) [(0, [])] (by kernel_rfl) (by kernel_rfl) ?_
                refine at_seg [(0, [])] [(5, .int .i64 (IntKind.i64.wrap ((1 : Int) + (Int.tmod (IntKind.i64.wrap p0) (4 : Int))))), (6, .ptr x1), (8, .ptr (some (h1.size, 0))), (9, .ptr (some (h2.size, 0))), (15, .int .i64 x16), (16, .int .i64 (0 : Int)), (75, .int .i64 x16)] H (noU_all rfl) (fun fr => by kernel_rfl) ?_
                intro fr H
                refine at_nil ?_
                show AW cfg 3 (⟨h.size, []⟩ : Gd) (right (right (left (left (right (right (left (left (right (left (right (right (right (right (right (right (bodyC cfg.P 3))))))))))))))))) fr h9 _
                refine aw_seq (by kernel_rfl) ?_
                obtain ⟨o4, ho, hm⟩ := bind_some hm
                refine aw_mono (Q' := fun e fr' h' => (∃ (x17 : Int), e = .normal ∧ x17 = o4 ∧ h9 = h' ∧ Has fr' 99 [(5, .int .i64 (IntKind.i64.wrap ((1 : Int) + (Int.tmod (IntKind.i64.wrap p0) (4 : Int))))), (6, .ptr x1), (8, .ptr (some (h1.size, 0))), (9, .ptr (some (h2.size, 0))), (15, .int .i64 x16), (16, .int .i64 x17), (75, .int .i64 x16)]) ∨ False) ?_ ?_
                · replace hm := ho
                  clear ho
                  refine aw_seq (by kernel_rfl) ?_
                  refine aw_reg (id := 21) (n := 5) [(0, []), (1, []), (2, []), (3, []), (4, [])] (by kernel_rfl) (by kernel_rfl) ?_
                  refine at_seg [(0, [])] [(5, .int .i64 (IntKind.i64.wrap ((1 : Int) + (Int.tmod (IntKind.i64.wrap p0) (4 : Int))))), (6, .ptr x1), (8, .ptr (some (h1.size, 0))), (9, .ptr (some (h2.size, 0))), (15, .int .i64 x16), (16, .int .i64 (0 : Int)), (75, .int .i64 x16), (78, .int .i64 x16)] H (noU_all rfl) (fun fr => by kernel_rfl) ?_
                  intro fr H
                  obtain ⟨a6, hx, hm⟩ := bind_some hm
                  refine at_step (v := .ptr (some a6)) (h1 := h9) [(5, .int .i64 (IntKind.i64.wrap ((1 : Int) + (Int.tmod (IntKind.i64.wrap p0) (4 : Int))))), (6, .ptr x1), (8, .ptr (some (h1.size, 0))), (9, .ptr (some (h2.size, 0))), (15, .int .i64 x16), (16, .int .i64 (0 : Int)), (75, .int .i64 x16), (79, .ptr (some (a6.1, a6.2)))] H (fun fr => by kernel_rfl) (fun fr => .of (s_ixA (by kernel_rfl) hx)) ?_
                  intro fr t H
                  obtain ⟨x18, hx, hm⟩ := bind_some hm
                  refine at_step (v := .int .i64 x18) (h1 := h9) [(5, .int .i64 (IntKind.i64.wrap ((1 : Int) + (Int.tmod (IntKind.i64.wrap p0) (4 : Int))))), (6, .ptr x1), (8, .ptr (some (h1.size, 0))), (9, .ptr (some (h2.size, 0))), (15, .int .i64 x16), (16, .int .i64 (0 : Int)), (75, .int .i64 x16), (80, .int .i64 x18)] H (fun fr => by kernel_rfl) (fun fr => .of (s_ld (by kernel_rfl) (ldI_eq hx))) ?_
                  intro fr t H
                  refine at_seg [(3, []), (4, [])] [(5, .int .i64 (IntKind.i64.wrap ((1 : Int) + (Int.tmod (IntKind.i64.wrap p0) (4 : Int))))), (6, .ptr x1), (8, .ptr (some (h1.size, 0))), (9, .ptr (some (h2.size, 0))), (15, .int .i64 x16), (16, .int .i64 (0 : Int)), (75, .int .i64 x16), (82, .bool (decide (x18 ≥ (IntKind.i64.wrap ((1 : Int) + (Int.tmod (IntKind.i64.wrap p0) (4 : Int)))))))] H (noU_all rfl) (fun fr => by kernel_rfl) ?_
                  intro fr H
                  refine at_nil ?_
                  show AW cfg 3 (⟨h.size, []⟩ : Gd) (right (left (right (right (left (left (right (right (left (left (right (left (right (right (right (right (right (right (bodyC cfg.P 3))))))))))))))))))) fr h9 _
                  rcases iteB_some hm with ⟨hb, hm⟩ | ⟨hb, hm⟩
                  · rw [hb] at H
                    refine aw_true (x := .tmp 82) (by kernel_rfl) H (fun fr => by kernel_rfl) ?_
                    refine aw_reg (id := 22) (n := 1) [(0, [])] (by kernel_rfl) (by kernel_rfl) ?_
                    refine at_seg [(0, [])] [(5, .int .i64 (IntKind.i64.wrap ((1 : Int) + (Int.tmod (IntKind.i64.wrap p0) (4 : Int))))), (6, .ptr x1), (8, .ptr (some (h1.size, 0))), (9, .ptr (some (h2.size, 0))), (15, .int .i64 x16), (16, .int .i64 (1 : Int)), (75, .int .i64 x16)] H (noU_all rfl) (fun fr => by kernel_rfl) ?_
                    intro fr H
                    refine at_nil ?_
                    exact Or.inl ⟨(1 : Int), rfl, Option.some.inj hm, rfl, H.less _ (fun fr => by kernel_rfl)⟩
                  · rw [hb] at H
                    refine aw_false (x := .tmp 82) (by kernel_rfl) H (fun fr => by kernel_rfl) ?_
                    refine aw_skip (by kernel_rfl) ?_
                    exact Or.inl ⟨(0 : Int), rfl, Option.some.inj hm, rfl, H.less _ (fun fr => by kernel_rfl)⟩
                · clear ho
                  intro e fr hz hQ
                  rcases hQ with ⟨x17, rfl, rfl, rfl, H⟩ | hF
                  · skip
                    show AW cfg 3 (⟨h.size, []⟩ : Gd) (right (right (right (left (left (right (right (left (left (right (left (right (right (right (right (right (right (bodyC cfg.P 3)))))))))))))))))) fr h9 _
                    refine aw_seq (by kernel_rfl) ?_
                    refine aw_draw (id := 23) (n := 14) (by kernel_rfl) [(0, []), (1, []), (2, []), (3, []), (4, []), (5, []), (6, []), (7, []), (9, []), (10, []), (11, []), (8, [11]), (12, []), (13, [])] (by kernel_rfl) ?_
                    refine at_seg [(0, [])] [(5, .int .i64 (IntKind.i64.wrap ((1 : Int) + (Int.tmod (IntKind.i64.wrap p0) (4 : Int))))), (6, .ptr x1), (8, .ptr (some (h1.size, 0))), (9, .ptr (some (h2.size, 0))), (15, .int .i64 x16), (16, .int .i64 x17), (75, .int .i64 x16), (83, .int .i64 x16)] H (noU_all rfl) (fun fr => by kernel_rfl) ?_
                    intro fr H
                    obtain ⟨a7, hx, hm⟩ := bind_some hm
                    refine at_stepT (v := .ptr (some a7)) (h1 := h9) (tch' := []) ((⟨h.size, []⟩ : Gd).prot) [(5, .int .i64 (IntKind.i64.wrap ((1 : Int) + (Int.tmod (IntKind.i64.wrap p0) (4 : Int))))), (6, .ptr x1), (8, .ptr (some (h1.size, 0))), (9, .ptr (some (h2.size, 0))), (15, .int .i64 x16), (16, .int .i64 x17), (75, .int .i64 x16), (84, .ptr (some (a7.1, a7.2)))] H (fun fr => by kernel_rfl) (by kernel_rfl) (fun fr => by kernel_rfl) (fun fr => .of (s_ixA (by kernel_rfl) hx)) ?_
                    intro fr H
                    obtain ⟨x19, hx, hm⟩ := bind_some hm
                    refine at_stepT (v := .int .i64 x19) (h1 := h9) (tch' := [(2, a7.1)]) ((⟨h.size, []⟩ : Gd).prot) [(5, .int .i64 (IntKind.i64.wrap ((1 : Int) + (Int.tmod (IntKind.i64.wrap p0) (4 : Int))))), (6, .ptr x1), (8, .ptr (some (h1.size, 0))), (9, .ptr (some (h2.size, 0))), (15, .int .i64 x16), (16, .int .i64 x17), (75, .int .i64 x16), (85, .int .i64 x19)] H (fun fr => by kernel_rfl) (by kernel_rfl) (fun fr => by kernel_rfl) (fun fr => .of (s_ld (by kernel_rfl) (ldI_eq hx))) ?_
                    intro fr H
                    refine at_seg [(3, []), (4, []), (5, [])] [(5, .int .i64 (IntKind.i64.wrap ((1 : Int) + (Int.tmod (IntKind.i64.wrap p0) (4 : Int))))), (6, .ptr x1), (8, .ptr (some (h1.size, 0))), (9, .ptr (some (h2.size, 0))), (15, .int .i64 x16), (75, .int .i64 x16), (88, .bool (x19 != x17))] H (noU_all rfl) (fun fr => by kernel_rfl) ?_
                    intro fr H
                    obtain ⟨x20, ho, hm⟩ := bind_some hm
                    refine at_cut [(6, []), (7, []), (9, []), (10, []), (11, []), (8, [11]), (12, []), (13, [])] (fun fr' h' => h9 = h' ∧ Has fr' 99 [(5, .int .i64 (IntKind.i64.wrap ((1 : Int) + (Int.tmod (IntKind.i64.wrap p0) (4 : Int))))), (6, .ptr x1), (8, .ptr (some (h1.size, 0))), (9, .ptr (some (h2.size, 0))), (75, .int .i64 x16), (96, .bool x20)]) ?_ ?_
                    · rcases iteB_some ho with ⟨hb, hm⟩ | ⟨hb, hm⟩
                      · rw [hb] at H
                        refine at_seg [(6, []), (7, []), (9, []), (10, []), (11, [])] [(5, .int .i64 (IntKind.i64.wrap ((1 : Int) + (Int.tmod (IntKind.i64.wrap p0) (4 : Int))))), (6, .ptr x1), (8, .ptr (some (h1.size, 0))), (9, .ptr (some (h2.size, 0))), (75, .int .i64 x16), (88, .bool true), (89, .tuple []), (90, .tuple []), (94, .tuple [])] H (noU_all rfl) (fun fr => by kernel_rfl) ?_
                        intro fr H
                        refine at_skip [(5, .int .i64 (IntKind.i64.wrap ((1 : Int) + (Int.tmod (IntKind.i64.wrap p0) (4 : Int))))), (6, .ptr x1), (8, .ptr (some (h1.size, 0))), (9, .ptr (some (h2.size, 0))), (75, .int .i64 x16), (88, .bool true), (91, .tuple []), (94, .tuple [])] H (fun fr => by kernel_rfl) ?_
                        intro fr H
                        refine at_seg [(12, []), (13, [])] [(5, .int .i64 (IntKind.i64.wrap ((1 : Int) + (Int.tmod (IntKind.i64.wrap p0) (4 : Int))))), (6, .ptr x1), (8, .ptr (some (h1.size, 0))), (9, .ptr (some (h2.size, 0))), (75, .int .i64 x16), (96, .bool true)] H (noU_all rfl) (fun fr => by kernel_rfl) ?_
                        intro fr H
                        have e1 := Option.some.inj hm
                        subst e1
                        exact at_nil ⟨rfl, H.less _ (fun fr => by kernel_rfl)⟩
                      · rw [hb] at H
                        refine at_seg [(6, []), (7, []), (9, [])] [(5, .int .i64 (IntKind.i64.wrap ((1 : Int) + (Int.tmod (IntKind.i64.wrap p0) (4 : Int))))), (6, .ptr x1), (8, .ptr (some (h1.size, 0))), (9, .ptr (some (h2.size, 0))), (75, .int .i64 x16), (88, .bool false), (89, .ptr x1), (90, .int .i64 x16), (92, .int .i64 x16)] H (noU_all rfl) (fun fr => by kernel_rfl) ?_
                        intro fr H
                        obtain ⟨a8, hx, hm⟩ := bind_some hm
                        refine at_stepT (v := .ptr (some a8)) (h1 := h9) (tch' := [(2, a7.1)]) ((⟨h.size, []⟩ : Gd).prot) [(5, .int .i64 (IntKind.i64.wrap ((1 : Int) + (Int.tmod (IntKind.i64.wrap p0) (4 : Int))))), (6, .ptr x1), (8, .ptr (some (h1.size, 0))), (9, .ptr (some (h2.size, 0))), (75, .int .i64 x16), (88, .bool false), (89, .ptr x1), (90, .int .i64 x16), (93, .ptr (some (a8.1, a8.2)))] H (fun fr => by kernel_rfl) (by kernel_rfl) (fun fr => by kernel_rfl) (fun fr => .of (s_ixA (by kernel_rfl) hx)) ?_
                        intro fr H
                        obtain ⟨x21, hx, hm⟩ := bind_some hm
                        refine at_stepT (v := .int .i64 x21) (h1 := h9) (tch' := [(11, a8.1), (2, a7.1)]) ((⟨h.size, []⟩ : Gd).prot) [(5, .int .i64 (IntKind.i64.wrap ((1 : Int) + (Int.tmod (IntKind.i64.wrap p0) (4 : Int))))), (6, .ptr x1), (8, .ptr (some (h1.size, 0))), (9, .ptr (some (h2.size, 0))), (75, .int .i64 x16), (88, .bool false), (89, .ptr x1), (90, .int .i64 x16), (94, .int .i64 x21)] H (fun fr => by kernel_rfl) (by kernel_rfl) (fun fr => by kernel_rfl) (fun fr => .of (s_ld (by kernel_rfl) (ldI_eq hx))) ?_
                        intro fr H
                        obtain ⟨x22, hx, hm⟩ := bind_some hm
                        refine at_stepT (v := .int .i64 x22) (h1 := h9) (tch' := [(11, a8.1), (2, a7.1)]) (a8.1 :: (⟨h.size, []⟩ : Gd).prot) [(5, .int .i64 (IntKind.i64.wrap ((1 : Int) + (Int.tmod (IntKind.i64.wrap p0) (4 : Int))))), (6, .ptr x1), (8, .ptr (some (h1.size, 0))), (9, .ptr (some (h2.size, 0))), (75, .int .i64 x16), (88, .bool false), (91, .int .i64 x22), (94, .int .i64 x21)] H (fun fr => by kernel_rfl) (by kernel_rfl) (fun fr => by kernel_rfl) (fun fr => Steps.call (by kernel_rfl) (ok_occur_Picker_Count hx)) ?_
                        intro fr H
                        refine at_seg [(12, []), (13, [])] [(5, .int .i64 (IntKind.i64.wrap ((1 : Int) + (Int.tmod (IntKind.i64.wrap p0) (4 : Int))))), (6, .ptr x1), (8, .ptr (some (h1.size, 0))), (9, .ptr (some (h2.size, 0))), (75, .int .i64 x16), (96, .bool (x22 != x21))] H (noU_all rfl) (fun fr => by kernel_rfl) ?_
                        intro fr H
                        have e1 := Option.some.inj hm
                        subst e1
                        exact at_nil ⟨rfl, H.less _ (fun fr => by kernel_rfl)⟩
                    · intro t fr h' hK
                      obtain ⟨e, H⟩ := hK
                      subst e
                      refine at_nil ?_
                      show AW cfg 3 (⟨h.size, []⟩ : Gd) (right (right (right (right (left (left (right (right (left (left (right (left (right (right (right (right (right (right (bodyC cfg.P 3))))))))))))))))))) fr h9 _
                      rcases iteB_some hm with ⟨hb, hm⟩ | ⟨hb, hm⟩
                      · rw [hb] at H
                        refine aw_true (x := .tmp 96) (by kernel_rfl) H (fun fr => by kernel_rfl) ?_
                        refine aw_seq (by kernel_rfl) ?_
                        refine aw_reg (id := 24) (n := 1) [(0, [])] (by kernel_rfl) (by kernel_rfl) ?_
                        refine at_seg [(0, [])] [(4, .bool false)] H (noU_all rfl) (fun fr => by kernel_rfl) ?_
                        intro fr H
                        refine at_nil ?_
                        show AW cfg 3 (⟨h.size, []⟩ : Gd) (right (left (right (right (right (right (left (left (right (right (left (left (right (left (right (right (right (right (right (right (bodyC cfg.P 3))))))))))))))))))))) fr h9 _
                        refine aw_ret (by kernel_rfl) ?_
                        exact Exists.intro _ (And.intro (Option.some.inj hm).symm (fun e => Or.inr (Or.inl ⟨false, rfl, e, rfl, H.less _ (fun fr => by kernel_rfl)⟩)))
                      · rw [hb] at H
                        refine aw_false (x := .tmp 96) (by kernel_rfl) H (fun fr => by kernel_rfl) ?_
                        refine aw_skip (by kernel_rfl) ?_
                        show AW cfg 3 (⟨h.size, []⟩ : Gd) (right (right (right (left (left (right (left (right (right (right (right (right (right (bodyC cfg.P 3)))))))))))))) fr h9 _
                        refine aw_reg (id := 25) (n := 2) [(0, []), (1, [])] (by kernel_rfl) (by kernel_rfl) ?_
                        refine at_seg [(0, []), (1, [])] [(5, .int .i64 (IntKind.i64.wrap ((1 : Int) + (Int.tmod (IntKind.i64.wrap p0) (4 : Int))))), (6, .ptr x1), (8, .ptr (some (h1.size, 0))), (9, .ptr (some (h2.size, 0))), (75, .int .i64 (IntKind.i64.wrap (x16 + (1 : Int))))] H (noU_all rfl) (fun fr => by kernel_rfl) ?_
                        intro fr H
                        refine at_nil ?_
                        exact Exists.intro (IntKind.i64.wrap (x16 + (1 : Int))) (And.intro (Option.some.inj hm).symm ⟨IntKind.i64.wrap (x16 + (1 : Int)), rfl, rfl, H.less _ (fun fr => by kernel_rfl)⟩)
                  · exact hF.elim
              · rw [hb] at H
                refine aw_false (x := .tmp 76) (by kernel_rfl) H (fun fr => by kernel_rfl) ?_
                refine aw_exit (i := 2) (by kernel_rfl) ?_
                exact Exists.intro _ (And.intro (Option.some.inj hm).symm (fun e => Or.inl ⟨rfl, e, rfl, H.less _ (fun fr => by kernel_rfl)⟩))
            · clear ho
              intro e fr hz hQ
              rcases hQ with ⟨rfl, rfl, rfl, H⟩ | ⟨x15, rfl, rfl, rfl, H⟩ | hF
              · skip
                show AW cfg 3 (⟨h.size, []⟩ : Gd) (right (right (right (right (right (right (right (bodyC cfg.P 3)))))))) fr h9 _
                refine aw_seq (by kernel_rfl) ?_
                refine aw_reg (id := 26) (n := 2) [(0, []), (1, [])] (by kernel_rfl) (by kernel_rfl) ?_
                obtain ⟨x23, hx, hm⟩ := bind_some hm
                refine at_step (v := .bool x23) (h1 := h9) [(98, .bool x23)] H (fun fr => by kernel_rfl) (fun fr => Steps.call (by kernel_rfl) (ok_boulterlaw30_awake hx)) ?_
                intro fr t H
                refine at_seg [(1, [])] [(4, .bool x23)] H (noU_all rfl) (fun fr => by kernel_rfl) ?_
                intro fr H
                refine at_nil ?_
                show AW cfg 3 (⟨h.size, []⟩ : Gd) (right (right (right (right (right (right (right (right (bodyC cfg.P 3))))))))) fr h9 _
                refine aw_ret (by kernel_rfl) ?_
                have e1 := Option.some.inj hm
                subst e1
                exact (doneE_of .ret H (fun fr => by kernel_rfl) (.inl rfl) : doneE cfg.P _ _ _ fr _)
              · skip
                have e1 := Option.some.inj hm
                subst e1
                exact (doneE_of .ret H (fun fr => by kernel_rfl) (.inl rfl) : doneE cfg.P _ _ _ fr _)
              · exact hF.elim
          · skip
            have e1 := Option.some.inj hm
            subst e1
            exact (doneE_of .ret H (fun fr => by kernel_rfl) (.inl rfl) : doneE cfg.P _ _ _ fr _)
          · exact hF.elim
/-! ### boulter/boulterlaw30.OccurAll -/
noncomputable def M_boulterlaw30_OccurAll_L0 (h : AHeap) (p0 : Int) (p1 : Int) (x1 : Option (Nat × Nat)) (s : Int × AHeap) : Option ((Int × AHeap) ⊕ ((AHeap) ⊕ (Bool × AHeap))) :=
  match s with
  | (x5, h2) => iteB (decide (x5 < (IntKind.i64.wrap p1))) (need ((IntKind.i64.wrap ((1 : Int) + (IntKind.i64.wrap p0))) != 0) <| (M_occur_Picker_Take (⟨h.size, []⟩ : Gd) h2 x1 (Int.tmod x5 (IntKind.i64.wrap ((1 : Int) + (IntKind.i64.wrap p0))))).bind fun ((x6, x7), h3) => iteB ((!x6) || (x7 != (0 : Int))) (some (.inr (.inr (false, h3)))) (some (.inl (IntKind.i64.wrap (x5 + (1 : Int)), h3)))) (some (.inr (.inl h2)))
noncomputable def M_boulterlaw30_OccurAll (h : AHeap) (p0 : Int) (p1 : Int) : Option (Bool) :=
 (M_occur_New (⟨h.size, []⟩ : Gd) h (0 : Int) (IntKind.i64.wrap ((1 : Int) + (IntKind.i64.wrap p0)))).bind fun ((x1, x2), h1) => iteB ((x2 != (0 : Int)) || x1.isNone) (some false) ((loop (M_boulterlaw30_OccurAll_L0 h p0 p1 x1) ((0 : Int), h1)).bind fun o1 => (match o1 with | .inl h4 => (M_occur_Picker_Missing (⟨h.size, []⟩ : Gd) h4 x1).bind fun (x8, h5) => (iteB (((x8.n : Nat) : Int) == (mx (IntKind.i64.wrap ((IntKind.i64.wrap ((1 : Int) + (IntKind.i64.wrap p0))) - (IntKind.i64.wrap p1))) (0 : Int))) ((M_boulterlaw30_awake).bind fun x10 => some x10) (some false) : Option (Bool)).bind fun x9 => some x9 | .inr (x4, h4) => some x4))
theorem ok_boulterlaw30_OccurAll {g : Gd} {h : AHeap} {p0 : Int} {p1 : Int} {r0 : Bool} (hm : M_boulterlaw30_OccurAll h p0 p1 = some r0) : Runs cfg g h 4 [.int .u8 p0, .int .u8 p1] (.bool r0) h := by
  refine runs2E (by kernel_rfl) (by kernel_rfl) (body_ofE (n := 57) (rs := [.tmp 4]) (by kernel_rfl) ?_)
  unfold M_boulterlaw30_OccurAll at hm
  refine start (n := 57) [(0, .int .u8 p0), (1, .int .u8 p1)] (by kernel_rfl) (by kernel_rfl) ?_
  intro fr H
  refine aw_seq (by kernel_rfl) ?_
  refine aw_reg (id := 0) (n := 1) [(0, [])] (by kernel_rfl) (by kernel_rfl) ?_
  refine at_seg [(0, [])] [(0, .int .u8 p0), (1, .int .u8 p1)] H (noU_all rfl) (fun fr => by kernel_rfl) ?_
  intro fr H
  refine at_nil ?_
  show AW cfg 4 (⟨h.size, []⟩ : Gd) (right (bodyC cfg.P 4)) fr h _
  refine aw_seq (by kernel_rfl) ?_
  refine aw_reg (id := 1) (n := 4) [(0, []), (1, []), (2, []), (3, [])] (by kernel_rfl) (by kernel_rfl) ?_
  refine at_seg [(0, []), (1, []), (2, []), (3, [])] [(1, .int .u8 p1), (5, .int .i64 (IntKind.i64.wrap ((1 : Int) + (IntKind.i64.wrap p0))))] H (noU_all rfl) (fun fr => by kernel_rfl) ?_
  intro fr H
  refine at_nil ?_
  show AW cfg 4 (⟨h.size, []⟩ : Gd) (right (right (bodyC cfg.P 4))) fr h _
  refine aw_seq (by kernel_rfl) ?_
  refine aw_reg (id := 2) (n := 7) [(0, []), (1, []), (2, []), (3, []), (4, []), (5, []), (6, [])] (by kernel_rfl) (by kernel_rfl) ?_
  refine at_seg [(0, [])] [(1, .int .u8 p1), (5, .int .i64 (IntKind.i64.wrap ((1 : Int) + (IntKind.i64.wrap p0)))), (15, .int .i64 (IntKind.i64.wrap ((1 : Int) + (IntKind.i64.wrap p0))))] H (noU_all rfl) (fun fr => by kernel_rfl) ?_
  intro fr H
  obtain ⟨⟨⟨x1, x2⟩, h1⟩, hx, hm⟩ := bind_some hm
  refine at_step (v := .tuple [.ptr x1, .int .i64 x2]) (h1 := h1) [(1, .int .u8 p1), (5, .int .i64 (IntKind.i64.wrap ((1 : Int) + (IntKind.i64.wrap p0)))), (16, .tuple [.ptr x1, .int .i64 x2])] H (fun fr => by kernel_rfl) (fun fr => Steps.call (by kernel_rfl) (ok_occur_New hx)) ?_
  intro fr t H
  refine at_seg [(2, []), (3, []), (4, []), (5, []), (6, [])] [(1, .int .u8 p1), (5, .int .i64 (IntKind.i64.wrap ((1 : Int) + (IntKind.i64.wrap p0)))), (6, .ptr x1), (7, .int .i64 x2)] H (noU_all rfl) (fun fr => by kernel_rfl) ?_
  intro fr H
  refine at_nil ?_
  show AW cfg 4 (⟨h.size, []⟩ : Gd) (right (right (right (bodyC cfg.P 4)))) fr h1 _
  refine aw_seq (by kernel_rfl) ?_
  refine aw_seq (by kernel_rfl) ?_
  refine aw_reg (id := 3) (n := 6) [(0, []), (1, []), (2, []), (3, []), (4, []), (5, [])] (by kernel_rfl) (by kernel_rfl) ?_
  refine at_seg [(0, []), (1, []), (2, [])] [(1, .int .u8 p1), (5, .int .i64 (IntKind.i64.wrap ((1 : Int) + (IntKind.i64.wrap p0)))), (6, .ptr x1), (21, .bool (x2 != (0 : Int)))] H (noU_all rfl) (fun fr => by kernel_rfl) ?_
  intro fr H
  refine at_cut [(3, []), (4, []), (5, [])] (fun fr' h' => h1 = h' ∧ Has fr' 57 [(1, .int .u8 p1), (5, .int .i64 (IntKind.i64.wrap ((1 : Int) + (IntKind.i64.wrap p0)))), (6, .ptr x1), (24, .bool ((x2 != (0 : Int)) || x1.isNone))]) ?_ ?_
  · cases hb : (x2 != (0 : Int) : Bool) with
    | true =>
      rw [hb] at H
      refine at_seg [(3, []), (4, []), (5, [])] [(1, .int .u8 p1), (5, .int .i64 (IntKind.i64.wrap ((1 : Int) + (IntKind.i64.wrap p0)))), (6, .ptr x1), (24, .bool true)] H (noU_all rfl) (fun fr => by kernel_rfl) ?_
      intro fr H
      exact at_nil ⟨rfl, by first | exact H.less _ (fun fr => by rfl) | (rw [hb]; exact H.less _ (fun fr => by rfl))⟩
    | false =>
      rw [hb] at H
      refine at_seg [(3, [])] [(1, .int .u8 p1), (5, .int .i64 (IntKind.i64.wrap ((1 : Int) + (IntKind.i64.wrap p0)))), (6, .ptr x1), (21, .bool false), (22, .ptr x1)] H (noU_all rfl) (fun fr => by kernel_rfl) ?_
      intro fr H
      refine at_step (v := .bool x1.isNone) (h1 := h1) [(1, .int .u8 p1), (5, .int .i64 (IntKind.i64.wrap ((1 : Int) + (IntKind.i64.wrap p0)))), (6, .ptr x1), (21, .bool false), (23, .bool x1.isNone)] H (fun fr => by kernel_rfl) (fun fr => .of (s_nilT (by kernel_rfl))) ?_
      intro fr t H
      refine at_seg [(5, [])] [(1, .int .u8 p1), (5, .int .i64 (IntKind.i64.wrap ((1 : Int) + (IntKind.i64.wrap p0)))), (6, .ptr x1), (24, .bool x1.isNone)] H (noU_all rfl) (fun fr => by kernel_rfl) ?_
      intro fr H
      exact at_nil ⟨rfl, by first | exact H.less _ (fun fr => by rfl) | (rw [hb]; exact H.less _ (fun fr => by rfl))⟩
  · intro t fr h' hK
    obtain ⟨e, H⟩ := hK
    subst e
    refine at_nil ?_
    show AW cfg 4 (⟨h.size, []⟩ : Gd) (right (left (right (right (right (bodyC cfg.P 4)))))) fr h1 _
    rcases iteB_some hm with ⟨hb, hm⟩ | ⟨hb, hm⟩
    · rw [hb] at H
      refine aw_true (x := .tmp 24) (by kernel_rfl) H (fun fr => by kernel_rfl) ?_
      refine aw_seq (by kernel_rfl) ?_
      refine aw_reg (id := 4) (n := 1) [(0, [])] (by kernel_rfl) (by kernel_rfl) ?_
      refine at_seg [(0, [])] [(4, .bool false)] H (noU_all rfl) (fun fr => by kernel_rfl) ?_
      intro fr H
      refine at_nil ?_
      show AW cfg 4 (⟨h.size, []⟩ : Gd) (right (left (right (left (right (right (right (bodyC cfg.P 4)))))))) fr h1 _
      refine aw_ret (by kernel_rfl) ?_
      have e1 := Option.some.inj hm
      subst e1
      exact (doneE_of .ret H (fun fr => by kernel_rfl) (.inl rfl) : doneE cfg.P _ _ _ fr _)
    · rw [hb] at H
      refine aw_false (x := .tmp 24) (by kernel_rfl) H (fun fr => by kernel_rfl) ?_
      refine aw_skip (by kernel_rfl) ?_
      show AW cfg 4 (⟨h.size, []⟩ : Gd) (right (right (right (right (bodyC cfg.P 4))))) fr h1 _
      refine aw_seq (by kernel_rfl) ?_
      refine aw_seq (by kernel_rfl) ?_
      refine aw_reg (id := 5) (n := 3) [(0, []), (1, []), (2, [])] (by kernel_rfl) (by kernel_rfl) ?_
      refine at_seg [(0, []), (1, []), (2, [])] [(1, .int .u8 p1), (5, .int .i64 (IntKind.i64.wrap ((1 : Int) + (IntKind.i64.wrap p0)))), (6, .ptr x1), (26, .int .i64 (IntKind.i64.wrap p1)), (27, .int .i64 (0 : Int))] H (noU_all rfl) (fun fr => by kernel_rfl) ?_
      intro fr H
      refine at_nil ?_
      show AW cfg 4 (⟨h.size, []⟩ : Gd) (right (left (right (right (right (right (bodyC cfg.P 4))))))) fr h1 _
      refine aw_block (id := 0) (by kernel_rfl) ?_
      obtain ⟨o1, ho, hm⟩ := bind_some hm
      refine aw_mono (Q' := fun e fr' h' => (e = .exit 0 ∧ .inl h' = o1 ∧ h' = h' ∧ Has fr' 57 [(1, .int .u8 p1), (5, .int .i64 (IntKind.i64.wrap ((1 : Int) + (IntKind.i64.wrap p0)))), (6, .ptr x1)]) ∨ (∃ (x4 : Bool), e = .ret ∧ .inr (x4, h') = o1 ∧ h' = h' ∧ Has fr' 57 [(4, .bool x4)]) ∨ False) ?_ ?_
      · refine aw_loop (by kernel_rfl) (fun (s : Int × AHeap) fr' h' => ∃ (x5 : Int), (x5, h') = s ∧ h' = h' ∧ Has fr' 57 [(1, .int .u8 p1), (5, .int .i64 (IntKind.i64.wrap ((1 : Int) + (IntKind.i64.wrap p0)))), (6, .ptr x1), (26, .int .i64 (IntKind.i64.wrap p1)), (27, .int .i64 x5)]) ho ⟨(0 : Int), rfl, rfl, H.less _ (fun fr => by kernel_rfl)⟩ ?_
        clear ho hm H
        intro s q fr h2 hI hm
        obtain ⟨x5, rfl, _, H⟩ := hI
        unfold M_boulterlaw30_OccurAll_L0 at hm
        refine aw_seq (by kernel_rfl) ?_
        refine aw_reg (id := 6) (n := 1) [(0, [])] (by kernel_rfl) (by kernel_rfl) ?_
        refine at_seg [(0, [])] [(1, .int .u8 p1), (5, .int .i64 (IntKind.i64.wrap ((1 : Int) + (IntKind.i64.wrap p0)))), (6, .ptr x1), (26, .int .i64 (IntKind.i64.wrap p1)), (27, .int .i64 x5), (28, .bool (decide (x5 < (IntKind.i64.wrap p1))))] H (noU_all rfl) (fun fr => by kernel_rfl) ?_
        intro fr H
        refine at_nil ?_
        show AW cfg 4 (⟨h.size, []⟩ : Gd) (right (left (left (right (left (right (right (right (right (bodyC cfg.P 4)))))))))) fr h2 _
        refine aw_seq (by kernel_rfl) ?_
        rcases iteB_some hm with ⟨hb, hm⟩ | ⟨hb, hm⟩
        · rw [hb] at H
          refine aw_true (x := .tmp 28) (by kernel_rfl) H (fun fr => by kernel_rfl) ?_
          refine aw_skip (by kernel_rfl) ?_
          show AW cfg 4 (⟨h.size, []⟩ : Gd) (right (right (left (left (right (left (right (right (right (right (bodyC cfg.P 4))))))))))) fr h2 _
          refine aw_seq (by kernel_rfl) ?_
          refine aw_block (id := 1) (by kernel_rfl) ?_
          refine aw_seq (by kernel_rfl) ?_
          refine aw_reg (id := 7) (n := 2) [(0, []), (1, [])] (by kernel_rfl) (by kernel_rfl) ?_
          refine at_seg [(0, []), (1, [])] [(1, .int .u8 p1), (5, .int .i64 (IntKind.i64.wrap ((1 : Int) + (IntKind.i64.wrap p0)))), (6, .ptr x1), (8, .int .i64 x5), (26, .int .i64 (IntKind.i64.wrap p1)), (27, .int .i64 x5)] H (noU_all rfl) (fun fr => by kernel_rfl) ?_
          intro fr H
          refine at_nil ?_
          show AW cfg 4 (⟨h.size, []⟩ : Gd) (right (left (left (right (right (left (left (right (left (right (right (right (right (bodyC cfg.P 4)))))))))))))) fr h2 _
          refine aw_seq (by kernel_rfl) ?_
          refine aw_reg (id := 8) (n := 10) [(0, []), (1, []), (2, []), (3, []), (4, []), (5, []), (6, []), (7, []), (8, []), (9, [])] (by kernel_rfl) (by kernel_rfl) ?_
          refine at_seg [(0, []), (1, []), (2, [])] [(1, .int .u8 p1), (5, .int .i64 (IntKind.i64.wrap ((1 : Int) + (IntKind.i64.wrap p0)))), (6, .ptr x1), (26, .int .i64 (IntKind.i64.wrap p1)), (27, .int .i64 x5), (31, .ptr x1), (32, .int .i64 x5), (33, .int .i64 (IntKind.i64.wrap ((1 : Int) + (IntKind.i64.wrap p0))))] H (noU_all rfl) (fun fr => by kernel_rfl) ?_
          intro fr H
          obtain ⟨hb, hm⟩ := need_some hm
          refine at_step (v := .int .i64 (Int.tmod x5 (IntKind.i64.wrap ((1 : Int) + (IntKind.i64.wrap p0))))) (h1 := h2) [(1, .int .u8 p1), (5, .int .i64 (IntKind.i64.wrap ((1 : Int) + (IntKind.i64.wrap p0)))), (6, .ptr x1), (26, .int .i64 (IntKind.i64.wrap p1)), (27, .int .i64 x5), (31, .ptr x1), (34, .int .i64 (Int.tmod x5 (IntKind.i64.wrap ((1 : Int) + (IntKind.i64.wrap p0)))))] H (fun fr => by kernel_rfl) (fun fr => .of (s_rem (by kernel_rfl) hb)) ?_
          intro fr t H
          obtain ⟨⟨⟨x6, x7⟩, h3⟩, hx, hm⟩ := bind_some hm
          refine at_step (v := .tuple [.bool x6, .int .i64 x7]) (h1 := h3) [(1, .int .u8 p1), (5, .int .i64 (IntKind.i64.wrap ((1 : Int) + (IntKind.i64.wrap p0)))), (6, .ptr x1), (26, .int .i64 (IntKind.i64.wrap p1)), (27, .int .i64 x5), (35, .tuple [.bool x6, .int .i64 x7])] H (fun fr => by kernel_rfl) (fun fr => Steps.call (by kernel_rfl) (ok_occur_Picker_Take hx)) ?_
          intro fr t H
          refine at_seg [(5, []), (6, []), (7, []), (8, []), (9, [])] [(1, .int .u8 p1), (5, .int .i64 (IntKind.i64.wrap ((1 : Int) + (IntKind.i64.wrap p0)))), (6, .ptr x1), (9, .bool x6), (10, .int .i64 x7), (26, .int .i64 (IntKind.i64.wrap p1)), (27, .int .i64 x5)] H (noU_all rfl) (fun fr => by kernel_rfl) ?_
          intro fr H
          refine at_nil ?_
          show AW cfg 4 (⟨h.size, []⟩ : Gd) (right (right (left (left (right (right (left (left (right (left (right (right (right (right (bodyC cfg.P 4))))))))))))))) fr h3 _
          refine aw_seq (by kernel_rfl) ?_
          refine aw_reg (id := 9) (n := 6) [(0, []), (1, []), (2, []), (3, []), (4, []), (5, [])] (by kernel_rfl) (by kernel_rfl) ?_
          refine at_seg [(0, []), (1, []), (2, [])] [(1, .int .u8 p1), (5, .int .i64 (IntKind.i64.wrap ((1 : Int) + (IntKind.i64.wrap p0)))), (6, .ptr x1), (10, .int .i64 x7), (26, .int .i64 (IntKind.i64.wrap p1)), (27, .int .i64 x5), (40, .bool (!x6))] H (noU_all rfl) (fun fr => by kernel_rfl) ?_
          intro fr H
          refine at_cut [(3, []), (4, []), (5, [])] (fun fr' h' => h3 = h' ∧ Has fr' 57 [(1, .int .u8 p1), (5, .int .i64 (IntKind.i64.wrap ((1 : Int) + (IntKind.i64.wrap p0)))), (6, .ptr x1), (26, .int .i64 (IntKind.i64.wrap p1)), (27, .int .i64 x5), (43, .bool ((!x6) || (x7 != (0 : Int))))]) ?_ ?_
          · cases hb : (!x6 : Bool) with
            | true =>
              rw [hb] at H
              refine at_seg [(3, []), (4, []), (5, [])] [(1, .int .u8 p1), (5, .int .i64 (IntKind.i64.wrap ((1 : Int) + (IntKind.i64.wrap p0)))), (6, .ptr x1), (26, .int .i64 (IntKind.i64.wrap p1)), (27, .int .i64 x5), (43, .bool true)] H (noU_all rfl) (fun fr => by kernel_rfl) ?_
              intro fr H
              exact at_nil ⟨rfl, by first | exact H.less _ (fun fr => by rfl) | (rw [hb]; exact H.less _ (fun fr => by rfl))⟩
            | false =>
              rw [hb] at H
              refine at_seg [(3, []), (4, []), (5, [])] [(1, .int .u8 p1), (5, .int .i64 (IntKind.i64.wrap ((1 : Int) + (IntKind.i64.wrap p0)))), (6, .ptr x1), (26, .int .i64 (IntKind.i64.wrap p1)), (27, .int .i64 x5), (43, .bool (x7 != (0 : Int)))] H (noU_all rfl) (fun fr => by kernel_rfl) ?_
              intro fr H
              exact at_nil ⟨rfl, by first | exact H.less _ (fun fr => by rfl) | (rw [hb]; exact H.less _ (fun fr => by rfl))⟩
          · intro t fr h' hK
            obtain ⟨e, H⟩ := hK
            subst e
            refine at_nil ?_
            show AW cfg 4 (⟨h.size, []⟩ : Gd) (right (right (right (left (left (right (right (left (left (right (left (right (right (right (right (bodyC cfg.P 4)))))))))))))))) fr h3 _
            rcases iteB_some hm with ⟨hb, hm⟩ | ⟨hb, hm⟩
            · rw [hb] at H
              refine aw_true (x := .tmp 43) (by kernel_rfl) H (fun fr => by kernel_rfl) ?_
              refine aw_seq (by kernel_rfl) ?_
              refine aw_reg (id := 10) (n := 1) [(0, [])] (by kernel_rfl) (by kernel_rfl) ?_
              refine at_seg [(0, [])] [(4, .bool false)] H (noU_all rfl) (fun fr => by kernel_rfl) ?_
              intro fr H
              refine at_nil ?_
              show AW cfg 4 (⟨h.size, []⟩ : Gd) (right (left (right (right (right (left (left (right (right (left (left (right (left (right (right (right (right (bodyC cfg.P 4)))))))))))))))))) fr h3 _
              refine aw_ret (by kernel_rfl) ?_
              exact Exists.intro _ (And.intro (Option.some.inj hm).symm (fun e => Or.inr (Or.inl ⟨false, rfl, e, rfl, H.less _ (fun fr => by kernel_rfl)⟩)))
            · rw [hb] at H
              refine aw_false (x := .tmp 43) (by kernel_rfl) H (fun fr => by kernel_rfl) ?_
              refine aw_skip (by kernel_rfl) ?_
              show AW cfg 4 (⟨h.size, []⟩ : Gd) (right (right (right (left (left (right (left (right (right (right (right (bodyC cfg.P 4)))))))))))) fr h3 _
              refine aw_reg (id := 11) (n := 2) [(0, []), (1, [])] (by kernel_rfl) (by kernel_rfl) ?_
              refine at_seg [(0, []), (1, [])] [(1, .int .u8 p1), (5, .int .i64 (IntKind.i64.wrap ((1 : Int) + (IntKind.i64.wrap p0)))), (6, .ptr x1), (26, .int .i64 (IntKind.i64.wrap p1)), (27, .int .i64 (IntKind.i64.wrap (x5 + (1 : Int))))] H (noU_all rfl) (fun fr => by kernel_rfl) ?_
              intro fr H
              refine at_nil ?_
              exact Exists.intro (IntKind.i64.wrap (x5 + (1 : Int)), h3) (And.intro (Option.some.inj hm).symm ⟨IntKind.i64.wrap (x5 + (1 : Int)), rfl, rfl, H.less _ (fun fr => by kernel_rfl)⟩)
        · rw [hb] at H
          refine aw_false (x := .tmp 28) (by kernel_rfl) H (fun fr => by kernel_rfl) ?_
          refine aw_exit (i := 0) (by kernel_rfl) ?_
          exact Exists.intro _ (And.intro (Option.some.inj hm).symm (fun e => Or.inl ⟨rfl, e, rfl, H.less _ (fun fr => by kernel_rfl)⟩))
      · clear ho
        intro e fr h4 hQ
        rcases hQ with ⟨rfl, rfl, _, H⟩ | ⟨x4, rfl, rfl, _, H⟩ | hF
        · skip
          show AW cfg 4 (⟨h.size, []⟩ : Gd) (right (right (right (right (right (bodyC cfg.P 4)))))) fr h4 _
          refine aw_seq (by kernel_rfl) ?_
          refine aw_reg (id := 12) (n := 13) [(0, []), (1, []), (2, []), (3, []), (4, []), (5, []), (6, []), (7, []), (8, []), (9, []), (10, []), (11, []), (12, [])] (by kernel_rfl) (by kernel_rfl) ?_
          refine at_seg [(0, [])] [(1, .int .u8 p1), (5, .int .i64 (IntKind.i64.wrap ((1 : Int) + (IntKind.i64.wrap p0)))), (45, .ptr x1)] H (noU_all rfl) (fun fr => by kernel_rfl) ?_
          intro fr H
          obtain ⟨⟨x8, h5⟩, hx, hm⟩ := bind_some hm
          refine at_step (v := .slice x8.r x8.n) (h1 := h5) [(1, .int .u8 p1), (5, .int .i64 (IntKind.i64.wrap ((1 : Int) + (IntKind.i64.wrap p0)))), (46, .slice x8.r x8.n)] H (fun fr => by kernel_rfl) (fun fr => Steps.call (by kernel_rfl) (ok_occur_Picker_Missing hx)) ?_
          intro fr t H
          refine at_seg [(2, []), (3, []), (4, []), (5, []), (6, []), (7, []), (8, []), (9, [])] [(54, .bool (((x8.n : Nat) : Int) == (mx (IntKind.i64.wrap ((IntKind.i64.wrap ((1 : Int) + (IntKind.i64.wrap p0))) - (IntKind.i64.wrap p1))) (0 : Int))))] H (noU_all rfl) (fun fr => by kernel_rfl) ?_
          intro fr H
          obtain ⟨x9, ho, hm⟩ := bind_some hm
          refine at_cut [(10, []), (11, [])] (fun fr' h' => h5 = h' ∧ Has fr' 57 [(56, .bool x9)]) ?_ ?_
          · rcases iteB_some ho with ⟨hb, hm⟩ | ⟨hb, hm⟩
            · rw [hb] at H
              obtain ⟨x10, hx, hm⟩ := bind_some hm
              refine at_step (v := .bool x10) (h1 := h5) [(54, .bool true), (55, .bool x10)] H (fun fr => by kernel_rfl) (fun fr => Steps.call (by kernel_rfl) (ok_boulterlaw30_awake hx)) ?_
              intro fr t H
              refine at_seg [(11, [])] [(56, .bool x10)] H (noU_all rfl) (fun fr => by kernel_rfl) ?_
              intro fr H
              have e1 := Option.some.inj hm
              subst e1
              exact at_nil ⟨rfl, H.less _ (fun fr => by kernel_rfl)⟩
            · rw [hb] at H
              refine at_seg [(10, []), (11, [])] [(56, .bool false)] H (noU_all rfl) (fun fr => by kernel_rfl) ?_
              intro fr H
              have e1 := Option.some.inj hm
              subst e1
              exact at_nil ⟨rfl, H.less _ (fun fr => by kernel_rfl)⟩
          · intro t fr h' hK
            obtain ⟨e, H⟩ := hK
            subst e
            refine at_seg [(12, [])] [(4, .bool x9)] H (noU_all rfl) (fun fr => by kernel_rfl) ?_
            intro fr H
            refine at_nil ?_
            show AW cfg 4 (⟨h.size, []⟩ : Gd) (right (right (right (right (right (right (bodyC cfg.P 4))))))) fr h5 _
            refine aw_ret (by kernel_rfl) ?_
            have e1 := Option.some.inj hm
            subst e1
            exact (doneE_of .ret H (fun fr => by kernel_rfl) (.inl rfl) : doneE cfg.P _ _ _ fr _)
        · skip
          have e1 := Option.some.inj hm
          subst e1
          exact (doneE_of .ret H (fun fr => by kernel_rfl) (.inl rfl) : doneE cfg.P _ _ _ fr _)
        · exact hF.elim
end Go.Abs.L
