/-
  Models of functions of package subst, and that the abstract run tells them. Written by lift.py.
-/
import Derived.Test.YtklabpnclemmoaaLCfg
import Derived.Test.YtklabpnclemmoaaLclass
namespace Go.Abs.L
open Go.Abs
set_option linter.unusedVariables false
/-! ### boulter/subst.letter -/
noncomputable def M_subst_letter (h : AHeap) (p0 : Int) (p1 : Int) : Option (Int) :=
 iteB ((((p1 == (2 : Int)) || (p1 == (5 : Int))) && ((decide (p0 ≥ (97 : Int))) && (decide (p0 ≤ (122 : Int))))) || (((p1 == (3 : Int)) || (p1 == (6 : Int))) && ((decide (p0 ≥ (65 : Int))) && (decide (p0 ≤ (90 : Int)))))) ((M_class_Other h p0).bind fun x1 => some x1) (some p0)
theorem ok_subst_letter {g : Gd} {h : AHeap} {p0 : Int} {p1 : Int} {r0 : Int} (hm : M_subst_letter h p0 p1 = some r0) : Runs cfg g h 89 [.int .u8 p0, .int .i64 p1] (.int .u8 r0) h := by
  refine runs2E (by kernel_rfl) (by kernel_rfl) (body_ofE (n := 42) (rs := [.tmp 4]) (by kernel_rfl) ?_)
  unfold M_subst_letter at hm
  refine start (n := 42) [(0, .int .u8 p0), (1, .int .i64 p1)] (by kernel_rfl) (by kernel_rfl) ?_
  intro fr H
  refine aw_seq (by kernel_rfl) ?_
  refine aw_reg (id := 0) (n := 1) [(0, [])] (by kernel_rfl) (by kernel_rfl) ?_
  refine at_seg [(0, [])] [(0, .int .u8 p0), (1, .int .i64 p1)] H (noU_all rfl) (fun fr => by kernel_rfl) ?_
  intro fr H
  refine at_nil ?_
  show AW cfg 89 (⟨h.size, []⟩ : Gd) (right (bodyC cfg.P 89)) fr h _
  refine aw_seq (by kernel_rfl) ?_
  refine aw_reg (id := 1) (n := 14) [(0, []), (1, []), (2, []), (3, []), (4, []), (5, []), (6, []), (7, []), (8, []), (9, []), (10, []), (11, []), (12, []), (13, [])] (by kernel_rfl) (by kernel_rfl) ?_
  refine at_seg [(0, []), (1, []), (2, [])] [(0, .int .u8 p0), (1, .int .i64 p1), (9, .bool (decide (p0 ≥ (97 : Int))))] H (noU_all rfl) (fun fr => by kernel_rfl) ?_
  intro fr H
  refine at_cut [(3, []), (4, []), (5, [])] (fun fr' h' => h = h' ∧ Has fr' 42 [(0, .int .u8 p0), (1, .int .i64 p1), (12, .bool ((decide (p0 ≥ (97 : Int))) && (decide (p0 ≤ (122 : Int)))))]) ?_ ?_
  · cases hb : (decide (p0 ≥ (97 : Int)) : Bool) with
    | true =>
      replace H := H.know 9 hb (by kernel_rfl)
      refine at_seg [(3, []), (4, []), (5, [])] [(0, .int .u8 p0), (1, .int .i64 p1), (12, .bool (decide (p0 ≤ (122 : Int))))] H (noU_all rfl) (fun fr => by kernel_rfl) ?_
      intro fr H
      exact at_nil ⟨rfl, by first | exact H.less _ (fun fr => by rfl) | exact H.less _ (fun fr => by rw [hb]; rfl)⟩
    | false =>
      replace H := H.know 9 hb (by kernel_rfl)
      refine at_seg [(3, []), (4, []), (5, [])] [(0, .int .u8 p0), (1, .int .i64 p1), (12, .bool false)] H (noU_all rfl) (fun fr => by kernel_rfl) ?_
      intro fr H
      exact at_nil ⟨rfl, by first | exact H.less _ (fun fr => by rfl) | exact H.less _ (fun fr => by rw [hb]; rfl)⟩
  · intro t fr h' hK
    obtain ⟨e, H⟩ := hK
    subst e
    refine at_seg [(6, []), (7, []), (8, [])] [(0, .int .u8 p0), (1, .int .i64 p1), (12, .bool ((decide (p0 ≥ (97 : Int))) && (decide (p0 ≤ (122 : Int))))), (15, .bool (decide (p0 ≥ (65 : Int))))] H (noU_all rfl) (fun fr => by kernel_rfl) ?_
    intro fr H
    refine at_cut [(9, []), (10, []), (11, [])] (fun fr' h' => h = h' ∧ Has fr' 42 [(0, .int .u8 p0), (1, .int .i64 p1), (12, .bool ((decide (p0 ≥ (97 : Int))) && (decide (p0 ≤ (122 : Int))))), (18, .bool ((decide (p0 ≥ (65 : Int))) && (decide (p0 ≤ (90 : Int)))))]) ?_ ?_
    · cases hb : (decide (p0 ≥ (65 : Int)) : Bool) with
      | true =>
        replace H := H.know 15 hb (by kernel_rfl)
        refine at_seg [(9, []), (10, []), (11, [])] [(0, .int .u8 p0), (1, .int .i64 p1), (12, .bool ((decide (p0 ≥ (97 : Int))) && (decide (p0 ≤ (122 : Int))))), (18, .bool (decide (p0 ≤ (90 : Int))))] H (noU_all rfl) (fun fr => by kernel_rfl) ?_
        intro fr H
        exact at_nil ⟨rfl, by first | exact H.less _ (fun fr => by rfl) | exact H.less _ (fun fr => by rw [hb]; rfl)⟩
      | false =>
        replace H := H.know 15 hb (by kernel_rfl)
        refine at_seg [(9, []), (10, []), (11, [])] [(0, .int .u8 p0), (1, .int .i64 p1), (12, .bool ((decide (p0 ≥ (97 : Int))) && (decide (p0 ≤ (122 : Int))))), (18, .bool false)] H (noU_all rfl) (fun fr => by kernel_rfl) ?_
        intro fr H
        exact at_nil ⟨rfl, by first | exact H.less _ (fun fr => by rfl) | exact H.less _ (fun fr => by rw [hb]; rfl)⟩
    · intro t fr h' hK
      obtain ⟨e, H⟩ := hK
      subst e
      refine at_seg [(12, []), (13, [])] [(0, .int .u8 p0), (1, .int .i64 p1), (5, .bool ((decide (p0 ≥ (97 : Int))) && (decide (p0 ≤ (122 : Int))))), (6, .bool ((decide (p0 ≥ (65 : Int))) && (decide (p0 ≤ (90 : Int)))))] H (noU_all rfl) (fun fr => by kernel_rfl) ?_
      intro fr H
      refine at_nil ?_
      show AW cfg 89 (⟨h.size, []⟩ : Gd) (right (right (bodyC cfg.P 89))) fr h _
      refine aw_seq (by kernel_rfl) ?_
      refine aw_seq (by kernel_rfl) ?_
      refine aw_reg (id := 2) (n := 20) [(0, []), (1, []), (2, []), (3, []), (4, []), (5, []), (6, []), (7, []), (8, []), (9, []), (10, []), (11, []), (12, []), (13, []), (14, []), (15, []), (16, []), (17, []), (18, []), (19, [])] (by kernel_rfl) (by kernel_rfl) ?_
      refine at_seg [(0, []), (1, []), (2, [])] [(0, .int .u8 p0), (1, .int .i64 p1), (5, .bool ((decide (p0 ≥ (97 : Int))) && (decide (p0 ≤ (122 : Int))))), (6, .bool ((decide (p0 ≥ (65 : Int))) && (decide (p0 ≤ (90 : Int))))), (21, .bool (p1 == (2 : Int)))] H (noU_all rfl) (fun fr => by kernel_rfl) ?_
      intro fr H
      refine at_cut [(3, []), (4, []), (5, [])] (fun fr' h' => h = h' ∧ Has fr' 42 [(0, .int .u8 p0), (1, .int .i64 p1), (5, .bool ((decide (p0 ≥ (97 : Int))) && (decide (p0 ≤ (122 : Int))))), (6, .bool ((decide (p0 ≥ (65 : Int))) && (decide (p0 ≤ (90 : Int))))), (24, .bool ((p1 == (2 : Int)) || (p1 == (5 : Int))))]) ?_ ?_
      · cases hb : (p1 == (2 : Int) : Bool) with
        | true =>
          replace H := H.know 21 hb (by kernel_rfl)
          refine at_seg [(3, []), (4, []), (5, [])] [(0, .int .u8 p0), (1, .int .i64 p1), (5, .bool ((decide (p0 ≥ (97 : Int))) && (decide (p0 ≤ (122 : Int))))), (6, .bool ((decide (p0 ≥ (65 : Int))) && (decide (p0 ≤ (90 : Int))))), (24, .bool true)] H (noU_all rfl) (fun fr => by kernel_rfl) ?_
          intro fr H
          exact at_nil ⟨rfl, by first | exact H.less _ (fun fr => by rfl) | exact H.less _ (fun fr => by rw [hb]; rfl)⟩
        | false =>
          replace H := H.know 21 hb (by kernel_rfl)
          refine at_seg [(3, []), (4, []), (5, [])] [(0, .int .u8 p0), (1, .int .i64 p1), (5, .bool ((decide (p0 ≥ (97 : Int))) && (decide (p0 ≤ (122 : Int))))), (6, .bool ((decide (p0 ≥ (65 : Int))) && (decide (p0 ≤ (90 : Int))))), (24, .bool (p1 == (5 : Int)))] H (noU_all rfl) (fun fr => by kernel_rfl) ?_
          intro fr H
          exact at_nil ⟨rfl, by first | exact H.less _ (fun fr => by rfl) | exact H.less _ (fun fr => by rw [hb]; rfl)⟩
      · intro t fr h' hK
        obtain ⟨e, H⟩ := hK
        subst e
        refine at_seg [(6, [])] [(0, .int .u8 p0), (1, .int .i64 p1), (5, .bool ((decide (p0 ≥ (97 : Int))) && (decide (p0 ≤ (122 : Int))))), (6, .bool ((decide (p0 ≥ (65 : Int))) && (decide (p0 ≤ (90 : Int))))), (25, .bool ((p1 == (2 : Int)) || (p1 == (5 : Int))))] H (noU_all rfl) (fun fr => by kernel_rfl) ?_
        intro fr H
        refine at_cut [(7, []), (8, [])] (fun fr' h' => h = h' ∧ Has fr' 42 [(0, .int .u8 p0), (1, .int .i64 p1), (6, .bool ((decide (p0 ≥ (65 : Int))) && (decide (p0 ≤ (90 : Int))))), (27, .bool (((p1 == (2 : Int)) || (p1 == (5 : Int))) && ((decide (p0 ≥ (97 : Int))) && (decide (p0 ≤ (122 : Int))))))]) ?_ ?_
        · cases hb : ((p1 == (2 : Int)) || (p1 == (5 : Int)) : Bool) with
          | true =>
            replace H := H.know 25 hb (by kernel_rfl)
            refine at_seg [(7, []), (8, [])] [(0, .int .u8 p0), (1, .int .i64 p1), (6, .bool ((decide (p0 ≥ (65 : Int))) && (decide (p0 ≤ (90 : Int))))), (27, .bool ((decide (p0 ≥ (97 : Int))) && (decide (p0 ≤ (122 : Int)))))] H (noU_all rfl) (fun fr => by kernel_rfl) ?_
            intro fr H
            exact at_nil ⟨rfl, by first | exact H.less _ (fun fr => by rfl) | exact H.less _ (fun fr => by rw [hb]; rfl)⟩
          | false =>
            replace H := H.know 25 hb (by kernel_rfl)
            refine at_seg [(7, []), (8, [])] [(0, .int .u8 p0), (1, .int .i64 p1), (6, .bool ((decide (p0 ≥ (65 : Int))) && (decide (p0 ≤ (90 : Int))))), (27, .bool false)] H (noU_all rfl) (fun fr => by kernel_rfl) ?_
            intro fr H
            exact at_nil ⟨rfl, by first | exact H.less _ (fun fr => by rfl) | exact H.less _ (fun fr => by rw [hb]; rfl)⟩
        · intro t fr h' hK
          obtain ⟨e, H⟩ := hK
          subst e
          refine at_seg [(9, [])] [(0, .int .u8 p0), (1, .int .i64 p1), (6, .bool ((decide (p0 ≥ (65 : Int))) && (decide (p0 ≤ (90 : Int))))), (28, .bool (((p1 == (2 : Int)) || (p1 == (5 : Int))) && ((decide (p0 ≥ (97 : Int))) && (decide (p0 ≤ (122 : Int))))))] H (noU_all rfl) (fun fr => by kernel_rfl) ?_
          intro fr H
          refine at_cut [(10, []), (11, []), (12, []), (13, []), (14, []), (15, []), (16, []), (17, []), (18, []), (19, [])] (fun fr' h' => h = h' ∧ Has fr' 42 [(0, .int .u8 p0), (38, .bool ((((p1 == (2 : Int)) || (p1 == (5 : Int))) && ((decide (p0 ≥ (97 : Int))) && (decide (p0 ≤ (122 : Int))))) || (((p1 == (3 : Int)) || (p1 == (6 : Int))) && ((decide (p0 ≥ (65 : Int))) && (decide (p0 ≤ (90 : Int)))))))]) ?_ ?_
          · cases hb : (((p1 == (2 : Int)) || (p1 == (5 : Int))) && ((decide (p0 ≥ (97 : Int))) && (decide (p0 ≤ (122 : Int)))) : Bool) with
            | true =>
              replace H := H.know 28 hb (by kernel_rfl)
              refine at_seg [(10, []), (11, []), (12, []), (13, []), (14, []), (15, []), (16, []), (17, []), (18, []), (19, [])] [(0, .int .u8 p0), (38, .bool true)] H (noU_all rfl) (fun fr => by kernel_rfl) ?_
              intro fr H
              exact at_nil ⟨rfl, by first | exact H.less _ (fun fr => by rfl) | exact H.less _ (fun fr => by rw [hb]; rfl)⟩
            | false =>
              replace H := H.know 28 hb (by kernel_rfl)
              refine at_seg [(10, []), (11, []), (12, [])] [(0, .int .u8 p0), (1, .int .i64 p1), (6, .bool ((decide (p0 ≥ (65 : Int))) && (decide (p0 ≤ (90 : Int))))), (28, .bool false), (31, .bool (p1 == (3 : Int)))] H (noU_all rfl) (fun fr => by kernel_rfl) ?_
              intro fr H
              refine at_cut [(13, []), (14, []), (15, [])] (fun fr' h' => h = h' ∧ Has fr' 42 [(0, .int .u8 p0), (6, .bool ((decide (p0 ≥ (65 : Int))) && (decide (p0 ≤ (90 : Int))))), (28, .bool false), (34, .bool ((p1 == (3 : Int)) || (p1 == (6 : Int))))]) ?_ ?_
              · cases hb : (p1 == (3 : Int) : Bool) with
                | true =>
                  replace H := H.know 31 hb (by kernel_rfl)
                  refine at_seg [(13, []), (14, []), (15, [])] [(0, .int .u8 p0), (6, .bool ((decide (p0 ≥ (65 : Int))) && (decide (p0 ≤ (90 : Int))))), (28, .bool false), (34, .bool true)] H (noU_all rfl) (fun fr => by kernel_rfl) ?_
                  intro fr H
                  exact at_nil ⟨rfl, by first | exact H.less _ (fun fr => by rfl) | exact H.less _ (fun fr => by rw [hb]; rfl)⟩
                | false =>
                  replace H := H.know 31 hb (by kernel_rfl)
                  refine at_seg [(13, []), (14, []), (15, [])] [(0, .int .u8 p0), (6, .bool ((decide (p0 ≥ (65 : Int))) && (decide (p0 ≤ (90 : Int))))), (28, .bool false), (34, .bool (p1 == (6 : Int)))] H (noU_all rfl) (fun fr => by kernel_rfl) ?_
                  intro fr H
                  exact at_nil ⟨rfl, by first | exact H.less _ (fun fr => by rfl) | exact H.less _ (fun fr => by rw [hb]; rfl)⟩
              · intro t fr h' hK
                obtain ⟨e, H⟩ := hK
                subst e
                refine at_seg [(16, [])] [(0, .int .u8 p0), (6, .bool ((decide (p0 ≥ (65 : Int))) && (decide (p0 ≤ (90 : Int))))), (28, .bool false), (35, .bool ((p1 == (3 : Int)) || (p1 == (6 : Int))))] H (noU_all rfl) (fun fr => by kernel_rfl) ?_
                intro fr H
                refine at_cut [(17, []), (18, [])] (fun fr' h' => h = h' ∧ Has fr' 42 [(0, .int .u8 p0), (28, .bool false), (37, .bool (((p1 == (3 : Int)) || (p1 == (6 : Int))) && ((decide (p0 ≥ (65 : Int))) && (decide (p0 ≤ (90 : Int))))))]) ?_ ?_
                · cases hb : ((p1 == (3 : Int)) || (p1 == (6 : Int)) : Bool) with
                  | true =>
                    replace H := H.know 35 hb (by kernel_rfl)
                    refine at_seg [(17, []), (18, [])] [(0, .int .u8 p0), (28, .bool false), (37, .bool ((decide (p0 ≥ (65 : Int))) && (decide (p0 ≤ (90 : Int)))))] H (noU_all rfl) (fun fr => by kernel_rfl) ?_
                    intro fr H
                    exact at_nil ⟨rfl, by first | exact H.less _ (fun fr => by rfl) | exact H.less _ (fun fr => by rw [hb]; rfl)⟩
                  | false =>
                    replace H := H.know 35 hb (by kernel_rfl)
                    refine at_seg [(17, []), (18, [])] [(0, .int .u8 p0), (28, .bool false), (37, .bool false)] H (noU_all rfl) (fun fr => by kernel_rfl) ?_
                    intro fr H
                    exact at_nil ⟨rfl, by first | exact H.less _ (fun fr => by rfl) | exact H.less _ (fun fr => by rw [hb]; rfl)⟩
                · intro t fr h' hK
                  obtain ⟨e, H⟩ := hK
                  subst e
                  refine at_seg [(19, [])] [(0, .int .u8 p0), (38, .bool (((p1 == (3 : Int)) || (p1 == (6 : Int))) && ((decide (p0 ≥ (65 : Int))) && (decide (p0 ≤ (90 : Int))))))] H (noU_all rfl) (fun fr => by kernel_rfl) ?_
                  intro fr H
                  exact at_nil ⟨rfl, by first | exact H.less _ (fun fr => by rfl) | exact H.less _ (fun fr => by rw [hb]; rfl)⟩
          · intro t fr h' hK
            obtain ⟨e, H⟩ := hK
            subst e
            refine at_nil ?_
            show AW cfg 89 (⟨h.size, []⟩ : Gd) (right (left (right (right (bodyC cfg.P 89))))) fr h _
            rcases iteB_some hm with ⟨hb, hm⟩ | ⟨hb, hm⟩
            · replace H := H.know 38 hb (by kernel_rfl)
              refine aw_true (x := .tmp 38) (by kernel_rfl) H (fun fr => by kernel_rfl) ?_
              refine aw_seq (by kernel_rfl) ?_
              refine aw_reg (id := 3) (n := 3) [(0, []), (1, []), (2, [])] (by kernel_rfl) (by kernel_rfl) ?_
              refine at_seg [(0, [])] [(39, .int .u8 p0)] H (noU_all rfl) (fun fr => by kernel_rfl) ?_
              intro fr H
              obtain ⟨x1, hx, hm⟩ := bind_some hm
              refine at_step (v := .int .u8 x1) (h1 := h) [(40, .int .u8 x1)] H (fun fr => by kernel_rfl) (fun fr => Steps.call (by kernel_rfl) (ok_class_Other hx)) ?_
              intro fr t H
              refine at_seg [(2, [])] [(4, .int .u8 x1)] H (noU_all rfl) (fun fr => by kernel_rfl) ?_
              intro fr H
              refine at_nil ?_
              show AW cfg 89 (⟨h.size, []⟩ : Gd) (right (left (right (left (right (right (bodyC cfg.P 89))))))) fr h _
              refine aw_ret (by kernel_rfl) ?_
              have e1 := Option.some.inj hm
              subst e1
              exact (doneE_of .ret H (fun fr => by kernel_rfl) (.inl rfl) : doneE cfg.P _ _ _ fr _)
            · replace H := H.know 38 hb (by kernel_rfl)
              refine aw_false (x := .tmp 38) (by kernel_rfl) H (fun fr => by kernel_rfl) ?_
              refine aw_skip (by kernel_rfl) ?_
              show AW cfg 89 (⟨h.size, []⟩ : Gd) (right (right (right (bodyC cfg.P 89)))) fr h _
              refine aw_seq (by kernel_rfl) ?_
              refine aw_reg (id := 4) (n := 2) [(0, []), (1, [])] (by kernel_rfl) (by kernel_rfl) ?_
              refine at_seg [(0, []), (1, [])] [(4, .int .u8 p0)] H (noU_all rfl) (fun fr => by kernel_rfl) ?_
              intro fr H
              refine at_nil ?_
              show AW cfg 89 (⟨h.size, []⟩ : Gd) (right (right (right (right (bodyC cfg.P 89))))) fr h _
              refine aw_ret (by kernel_rfl) ?_
              have e1 := Option.some.inj hm
              subst e1
              exact (doneE_of .ret H (fun fr => by kernel_rfl) (.inl rfl) : doneE cfg.P _ _ _ fr _)
/-! ### (*boulter/subst.turner).put -/
noncomputable def M_subst_turner_put_L0 (g : Gd) (p0 : Option (Nat × Nat)) (p1 : List UInt8) (s : Int × AHeap) : Option ((Int × AHeap) ⊕ ((AHeap))) :=
  match s with
  | (x2, h1) => iteB (decide (x2 < (p1.length : Int))) ((p0).bind fun a1 => (ldI h1 (a1.1, a1.2 + 1) .i64).bind fun x3 => ((p0).bind fun a2 => (ldI h1 (a2.1, a2.2 + 2) .i64).bind fun x5 => iteB (x5 != (0 : Int)) ((p0).bind fun a3 => (ldI h1 (a3.1, a3.2 + 2) .i64).bind fun x6 => (p0).bind fun a4 => (st g h1 (a4.1, a4.2 + 2) [.int .i64 (0 : Int)]).bind fun h2 => some (x6, h2)) (some (x3, h1)) : Option ((Int × AHeap))).bind fun (x4, h3) => (p0).bind fun a5 => (ldL h3 (a5.1, a5.2 + 0)).bind fun x7 => (ixS p1 x2).bind fun x8 => (M_subst_letter h3 x8 x4).bind fun x9 => (some (h3.push (.cells (some 5) 2 [.int .u8 x9]))).bind fun h4 => (app 5 1 1 g h4 x7 1 (.slice (some (h3.size, 0)) 1)).bind fun (x10, h5) => (p0).bind fun a6 => (st g h5 (a6.1, a6.2 + 0) [.slice x10.r x10.n]).bind fun h6 => some (.inl (IntKind.i64.wrap (x2 + (1 : Int)), h6))) (some (.inr h1))
noncomputable def M_subst_turner_put (g : Gd) (h : AHeap) (p0 : Option (Nat × Nat)) (p1 : List UInt8) : Option ((Unit) × AHeap) :=
 (loop (M_subst_turner_put_L0 g p0 p1) ((0 : Int), h)).bind fun h7 => some ((), h7)
theorem ok_subst_turner_put {g : Gd} {h h' : AHeap} {p0 : Option (Nat × Nat)} {p1 : List UInt8} (hm : M_subst_turner_put g h p0 p1 = some ((), h')) : Runs cfg g h 69 [.ptr p0, .str p1] (.tuple []) h' := by
  refine runs1 (by kernel_rfl) (body_of (n := 42) (rs := []) (by kernel_rfl) ?_)
  unfold M_subst_turner_put at hm
  refine start (n := 42) [(0, .ptr p0), (1, .str p1)] (by kernel_rfl) (by kernel_rfl) ?_
  intro fr H
  refine aw_seq (by kernel_rfl) ?_
  refine aw_reg (id := 0) (n := 3) [(0, []), (1, []), (2, [])] (by kernel_rfl) (by kernel_rfl) ?_
  refine at_seg [(0, []), (1, []), (2, [])] [(0, .ptr p0), (1, .str p1), (7, .int .i64 (p1.length : Int)), (8, .int .i64 (0 : Int))] H (noU_all rfl) (fun fr => by kernel_rfl) ?_
  intro fr H
  refine at_nil ?_
  show AW cfg 69 g (right (bodyC cfg.P 69)) fr h _
  refine aw_block (id := 0) (by kernel_rfl) ?_
  obtain ⟨o1, ho, hm⟩ := bind_some hm
  refine aw_mono (Q' := fun e fr' h' => (e = .exit 0 ∧ h' = o1 ∧ h' = h' ∧ Has fr' 42 []) ∨ False) ?_ ?_
  · refine aw_loop (by kernel_rfl) (fun (s : Int × AHeap) fr' h' => ∃ (x2 : Int), (x2, h') = s ∧ h' = h' ∧ Has fr' 42 [(0, .ptr p0), (1, .str p1), (7, .int .i64 (p1.length : Int)), (8, .int .i64 x2)]) ho ⟨(0 : Int), rfl, rfl, H.less _ (fun fr => by kernel_rfl)⟩ ?_
    clear ho hm H
    intro s q fr h1 hI hm
    obtain ⟨x2, rfl, _, H⟩ := hI
    unfold M_subst_turner_put_L0 at hm
    refine aw_seq (by kernel_rfl) ?_
    refine aw_reg (id := 1) (n := 1) [(0, [])] (by kernel_rfl) (by kernel_rfl) ?_
    refine at_seg [(0, [])] [(0, .ptr p0), (1, .str p1), (7, .int .i64 (p1.length : Int)), (8, .int .i64 x2), (9, .bool (decide (x2 < (p1.length : Int))))] H (noU_all rfl) (fun fr => by kernel_rfl) ?_
    intro fr H
    refine at_nil ?_
    show AW cfg 69 g (right (left (left (right (bodyC cfg.P 69))))) fr h1 _
    refine aw_seq (by kernel_rfl) ?_
    rcases iteB_some hm with ⟨hb, hm⟩ | ⟨hb, hm⟩
    · replace H := H.know 9 hb (by kernel_rfl)
      refine aw_true (x := .tmp 9) (by kernel_rfl) H (fun fr => by kernel_rfl) ?_
      refine aw_skip (by kernel_rfl) ?_
      show AW cfg 69 g (right (right (left (left (right (bodyC cfg.P 69)))))) fr h1 _
      refine aw_seq (by kernel_rfl) ?_
      refine aw_block (id := 1) (by kernel_rfl) ?_
      refine aw_seq (by kernel_rfl) ?_
      refine aw_reg (id := 2) (n := 2) [(0, []), (1, [])] (by kernel_rfl) (by kernel_rfl) ?_
      refine at_seg [(0, []), (1, [])] [(0, .ptr p0), (1, .str p1), (4, .int .i64 x2), (7, .int .i64 (p1.length : Int)), (8, .int .i64 x2)] H (noU_all rfl) (fun fr => by kernel_rfl) ?_
      intro fr H
      refine at_nil ?_
      show AW cfg 69 g (right (left (left (right (right (left (left (right (bodyC cfg.P 69))))))))) fr h1 _
      refine aw_seq (by kernel_rfl) ?_
      refine aw_reg (id := 3) (n := 5) [(0, []), (1, []), (2, []), (3, []), (4, [])] (by kernel_rfl) (by kernel_rfl) ?_
      refine at_seg [(0, [])] [(0, .ptr p0), (1, .str p1), (4, .int .i64 x2), (7, .int .i64 (p1.length : Int)), (8, .int .i64 x2), (11, .ptr p0)] H (noU_all rfl) (fun fr => by kernel_rfl) ?_
      intro fr H
      obtain ⟨a1, hx, hm⟩ := bind_some hm
      refine at_step (v := .ptr (some a1)) (h1 := h1) [(0, .ptr p0), (1, .str p1), (4, .int .i64 x2), (7, .int .i64 (p1.length : Int)), (8, .int .i64 x2), (12, .ptr (some (a1.1, a1.2)))] H (fun fr => by kernel_rfl) (fun fr => .of (s_nc (by kernel_rfl) hx)) ?_
      intro fr t H
      refine at_seg [(2, [])] [(0, .ptr p0), (1, .str p1), (4, .int .i64 x2), (7, .int .i64 (p1.length : Int)), (8, .int .i64 x2), (13, .ptr (some (a1.1, a1.2 + 1)))] H (noU_all rfl) (fun fr => by kernel_rfl) ?_
      intro fr H
      obtain ⟨x3, hx, hm⟩ := bind_some hm
      refine at_step (v := .int .i64 x3) (h1 := h1) [(0, .ptr p0), (1, .str p1), (4, .int .i64 x2), (7, .int .i64 (p1.length : Int)), (8, .int .i64 x2), (14, .int .i64 x3)] H (fun fr => by kernel_rfl) (fun fr => .of (s_ld (by kernel_rfl) (ldI_eq hx))) ?_
      intro fr t H
      refine at_seg [(4, [])] [(0, .ptr p0), (1, .str p1), (4, .int .i64 x2), (5, .int .i64 x3), (7, .int .i64 (p1.length : Int)), (8, .int .i64 x2)] H (noU_all rfl) (fun fr => by kernel_rfl) ?_
      intro fr H
      refine at_nil ?_
      show AW cfg 69 g (right (right (left (left (right (right (left (left (right (bodyC cfg.P 69)))))))))) fr h1 _
      refine aw_seq (by kernel_rfl) ?_
      obtain ⟨o2, ho, hm⟩ := bind_some hm
      refine aw_mono (Q' := fun e fr' h' => (∃ (x4 : Int), e = .normal ∧ (x4, h') = o2 ∧ h' = h' ∧ Has fr' 42 [(0, .ptr p0), (1, .str p1), (4, .int .i64 x2), (5, .int .i64 x4), (7, .int .i64 (p1.length : Int)), (8, .int .i64 x2)]) ∨ False) ?_ ?_
      · replace hm := ho
        clear ho
        refine aw_seq (by kernel_rfl) ?_
        refine aw_reg (id := 4) (n := 5) [(0, []), (1, []), (2, []), (3, []), (4, [])] (by kernel_rfl) (by kernel_rfl) ?_
        refine at_seg [(0, [])] [(0, .ptr p0), (1, .str p1), (4, .int .i64 x2), (5, .int .i64 x3), (7, .int .i64 (p1.length : Int)), (8, .int .i64 x2), (15, .ptr p0)] H (noU_all rfl) (fun fr => by kernel_rfl) ?_
        intro fr H
        obtain ⟨a2, hx, hm⟩ := bind_some hm
        refine at_step (v := .ptr (some a2)) (h1 := h1) [(0, .ptr p0), (1, .str p1), (4, .int .i64 x2), (5, .int .i64 x3), (7, .int .i64 (p1.length : Int)), (8, .int .i64 x2), (16, .ptr (some (a2.1, a2.2)))] H (fun fr => by kernel_rfl) (fun fr => .of (s_nc (by kernel_rfl) hx)) ?_
        intro fr t H
        refine at_seg [(2, [])] [(0, .ptr p0), (1, .str p1), (4, .int .i64 x2), (5, .int .i64 x3), (7, .int .i64 (p1.length : Int)), (8, .int .i64 x2), (17, .ptr (some (a2.1, a2.2 + 2)))] H (noU_all rfl) (fun fr => by kernel_rfl) ?_
        intro fr H
        obtain ⟨x5, hx, hm⟩ := bind_some hm
        refine at_step (v := .int .i64 x5) (h1 := h1) [(0, .ptr p0), (1, .str p1), (4, .int .i64 x2), (5, .int .i64 x3), (7, .int .i64 (p1.length : Int)), (8, .int .i64 x2), (18, .int .i64 x5)] H (fun fr => by kernel_rfl) (fun fr => .of (s_ld (by kernel_rfl) (ldI_eq hx))) ?_
        intro fr t H
        refine at_seg [(4, [])] [(0, .ptr p0), (1, .str p1), (4, .int .i64 x2), (5, .int .i64 x3), (7, .int .i64 (p1.length : Int)), (8, .int .i64 x2), (19, .bool (x5 != (0 : Int)))] H (noU_all rfl) (fun fr => by kernel_rfl) ?_
        intro fr H
        refine at_nil ?_
        show AW cfg 69 g (right (left (right (right (left (left (right (right (left (left (right (bodyC cfg.P 69)))))))))))) fr h1 _
        rcases iteB_some hm with ⟨hb, hm⟩ | ⟨hb, hm⟩
        · replace H := H.know 19 hb (by kernel_rfl)
          refine aw_true (x := .tmp 19) (by kernel_rfl) H (fun fr => by kernel_rfl) ?_
          refine aw_reg (id := 5) (n := 9) [(0, []), (1, []), (2, []), (3, []), (4, []), (5, []), (6, []), (7, []), (8, [])] (by kernel_rfl) (by kernel_rfl) ?_
          refine at_seg [(0, []), (1, [])] [(0, .ptr p0), (1, .str p1), (4, .int .i64 x2), (7, .int .i64 (p1.length : Int)), (8, .int .i64 x2), (20, .ptr p0), (21, .ptr p0)] H (noU_all rfl) (fun fr => by kernel_rfl) ?_
          intro fr H
          obtain ⟨a3, hx, hm⟩ := bind_some hm
          refine at_step (v := .ptr (some a3)) (h1 := h1) [(0, .ptr p0), (1, .str p1), (4, .int .i64 x2), (7, .int .i64 (p1.length : Int)), (8, .int .i64 x2), (20, .ptr p0), (22, .ptr (some (a3.1, a3.2)))] H (fun fr => by kernel_rfl) (fun fr => .of (s_nc (by kernel_rfl) hx)) ?_
          intro fr t H
          refine at_seg [(3, [])] [(0, .ptr p0), (1, .str p1), (4, .int .i64 x2), (7, .int .i64 (p1.length : Int)), (8, .int .i64 x2), (20, .ptr p0), (23, .ptr (some (a3.1, a3.2 + 2)))] H (noU_all rfl) (fun fr => by kernel_rfl) ?_
          intro fr H
          obtain ⟨x6, hx, hm⟩ := bind_some hm
          refine at_step (v := .int .i64 x6) (h1 := h1) [(0, .ptr p0), (1, .str p1), (4, .int .i64 x2), (7, .int .i64 (p1.length : Int)), (8, .int .i64 x2), (20, .ptr p0), (24, .int .i64 x6)] H (fun fr => by kernel_rfl) (fun fr => .of (s_ld (by kernel_rfl) (ldI_eq hx))) ?_
          intro fr t H
          refine at_seg [(5, [])] [(0, .ptr p0), (1, .str p1), (4, .int .i64 x2), (5, .int .i64 x6), (7, .int .i64 (p1.length : Int)), (8, .int .i64 x2), (20, .ptr p0)] H (noU_all rfl) (fun fr => by kernel_rfl) ?_
          intro fr H
          obtain ⟨a4, hx, hm⟩ := bind_some hm
          refine at_step (v := .ptr (some a4)) (h1 := h1) [(0, .ptr p0), (1, .str p1), (4, .int .i64 x2), (5, .int .i64 x6), (7, .int .i64 (p1.length : Int)), (8, .int .i64 x2), (25, .ptr (some (a4.1, a4.2)))] H (fun fr => by kernel_rfl) (fun fr => .of (s_nc (by kernel_rfl) hx)) ?_
          intro fr t H
          refine at_seg [(7, [])] [(0, .ptr p0), (1, .str p1), (4, .int .i64 x2), (5, .int .i64 x6), (7, .int .i64 (p1.length : Int)), (8, .int .i64 x2), (26, .ptr (some (a4.1, a4.2 + 2)))] H (noU_all rfl) (fun fr => by kernel_rfl) ?_
          intro fr H
          obtain ⟨h2, hx, hm⟩ := bind_some hm
          refine at_step (v := .tuple []) (h1 := h2) [(0, .ptr p0), (1, .str p1), (4, .int .i64 x2), (5, .int .i64 x6), (7, .int .i64 (p1.length : Int)), (8, .int .i64 x2)] H (fun fr => by kernel_rfl) (fun fr => .of (s_st (by kernel_rfl) rfl hx)) ?_
          intro fr t H
          refine at_nil ?_
          exact Or.inl ⟨x6, rfl, Option.some.inj hm, rfl, H.less _ (fun fr => by kernel_rfl)⟩
        · replace H := H.know 19 hb (by kernel_rfl)
          refine aw_false (x := .tmp 19) (by kernel_rfl) H (fun fr => by kernel_rfl) ?_
          refine aw_skip (by kernel_rfl) ?_
          exact Or.inl ⟨x3, rfl, Option.some.inj hm, rfl, H.less _ (fun fr => by kernel_rfl)⟩
      · clear ho
        intro e fr h3 hQ
        rcases hQ with ⟨x4, rfl, rfl, _, H⟩ | hF
        · skip
          show AW cfg 69 g (right (right (right (left (left (right (right (left (left (right (bodyC cfg.P 69))))))))))) fr h3 _
          refine aw_draw (id := 6) (n := 15) (by kernel_rfl) [(0, []), (1, []), (2, []), (3, []), (4, []), (5, []), (6, []), (7, []), (8, []), (9, [4]), (10, []), (11, []), (12, []), (13, []), (14, [])] (by kernel_rfl) ?_
          refine at_seg [(0, []), (1, [])] [(0, .ptr p0), (1, .str p1), (4, .int .i64 x2), (5, .int .i64 x4), (7, .int .i64 (p1.length : Int)), (8, .int .i64 x2), (27, .ptr p0), (28, .ptr p0)] H (noU_all rfl) (fun fr => by kernel_rfl) ?_
          intro fr H
          obtain ⟨a5, hx, hm⟩ := bind_some hm
          refine at_stepT (v := .ptr (some a5)) (h1 := h3) (tch' := []) (g.prot) [(0, .ptr p0), (1, .str p1), (4, .int .i64 x2), (5, .int .i64 x4), (7, .int .i64 (p1.length : Int)), (8, .int .i64 x2), (27, .ptr p0), (29, .ptr (some (a5.1, a5.2)))] H (fun fr => by kernel_rfl) (by kernel_rfl) (fun fr => by kernel_rfl) (fun fr => .of (s_nc (by kernel_rfl) hx)) ?_
          intro fr H
          refine at_seg [(3, [])] [(0, .ptr p0), (1, .str p1), (4, .int .i64 x2), (5, .int .i64 x4), (7, .int .i64 (p1.length : Int)), (8, .int .i64 x2), (27, .ptr p0), (30, .ptr (some (a5.1, a5.2 + 0)))] H (noU_all rfl) (fun fr => by kernel_rfl) ?_
          intro fr H
          obtain ⟨x7, hx, hm⟩ := bind_some hm
          refine at_stepT (v := .slice x7.r x7.n) (h1 := h3) (tch' := [(4, a5.1)]) (g.prot) [(0, .ptr p0), (1, .str p1), (4, .int .i64 x2), (5, .int .i64 x4), (7, .int .i64 (p1.length : Int)), (8, .int .i64 x2), (27, .ptr p0), (31, .slice x7.r x7.n)] H (fun fr => by kernel_rfl) (by kernel_rfl) (fun fr => by kernel_rfl) (fun fr => .of (s_ld (by kernel_rfl) (ldL_eq hx))) ?_
          intro fr H
          refine at_seg [(5, []), (6, [])] [(0, .ptr p0), (1, .str p1), (5, .int .i64 x4), (7, .int .i64 (p1.length : Int)), (8, .int .i64 x2), (27, .ptr p0), (31, .slice x7.r x7.n), (32, .str p1), (33, .int .i64 x2)] H (noU_all rfl) (fun fr => by kernel_rfl) ?_
          intro fr H
          obtain ⟨x8, hx, hm⟩ := bind_some hm
          refine at_stepT (v := .int .u8 x8) (h1 := h3) (tch' := [(4, a5.1)]) (g.prot) [(0, .ptr p0), (1, .str p1), (5, .int .i64 x4), (7, .int .i64 (p1.length : Int)), (8, .int .i64 x2), (27, .ptr p0), (31, .slice x7.r x7.n), (34, .int .u8 x8)] H (fun fr => by kernel_rfl) (by kernel_rfl) (fun fr => by kernel_rfl) (fun fr => .of (s_ixS (by kernel_rfl) hx)) ?_
          intro fr H
          refine at_seg [(8, [])] [(0, .ptr p0), (1, .str p1), (7, .int .i64 (p1.length : Int)), (8, .int .i64 x2), (27, .ptr p0), (31, .slice x7.r x7.n), (34, .int .u8 x8), (35, .int .i64 x4)] H (noU_all rfl) (fun fr => by kernel_rfl) ?_
          intro fr H
          obtain ⟨x9, hx, hm⟩ := bind_some hm
          refine at_stepT (v := .int .u8 x9) (h1 := h3) (tch' := [(4, a5.1)]) (a5.1 :: g.prot) [(0, .ptr p0), (1, .str p1), (7, .int .i64 (p1.length : Int)), (8, .int .i64 x2), (27, .ptr p0), (31, .slice x7.r x7.n), (36, .int .u8 x9)] H (fun fr => by kernel_rfl) (by kernel_rfl) (fun fr => by kernel_rfl) (fun fr => Steps.call (by kernel_rfl) (ok_subst_letter hx)) ?_
          intro fr H
          obtain ⟨h4, hx, hm⟩ := bind_some hm
          refine at_stepT (v := .slice (some (h3.size, 0)) 1) (h1 := h4) (tch' := [(10, h3.size), (4, a5.1)]) (g.prot) [(0, .ptr p0), (1, .str p1), (7, .int .i64 (p1.length : Int)), (8, .int .i64 x2), (27, .ptr p0), (31, .slice x7.r x7.n), (37, .slice (some (h3.size, 0)) 1)] H (fun fr => by kernel_rfl) (by kernel_rfl) (fun fr => by kernel_rfl) (fun fr => .of (s_n' (by kernel_rfl) hx)) ?_
          intro fr H
          obtain ⟨⟨x10, h5⟩, hx, hm⟩ := bind_some hm
          refine at_stepT (v := .slice x10.r x10.n) (h1 := h5) (tch' := [(10, h3.size), (4, a5.1)]) (g.prot) [(0, .ptr p0), (1, .str p1), (7, .int .i64 (p1.length : Int)), (8, .int .i64 x2), (27, .ptr p0), (38, .slice x10.r x10.n)] H (fun fr => by kernel_rfl) (by kernel_rfl) (fun fr => by kernel_rfl) (fun fr => .of (s_app (s := x7) (by kernel_rfl) hx)) ?_
          intro fr H
          obtain ⟨a6, hx, hm⟩ := bind_some hm
          refine at_stepT (v := .ptr (some a6)) (h1 := h5) (tch' := [(10, h3.size), (4, a5.1)]) (g.prot) [(0, .ptr p0), (1, .str p1), (7, .int .i64 (p1.length : Int)), (8, .int .i64 x2), (38, .slice x10.r x10.n), (39, .ptr (some (a6.1, a6.2)))] H (fun fr => by kernel_rfl) (by kernel_rfl) (fun fr => by kernel_rfl) (fun fr => .of (s_nc (by kernel_rfl) hx)) ?_
          intro fr H
          refine at_seg [(13, [])] [(0, .ptr p0), (1, .str p1), (7, .int .i64 (p1.length : Int)), (8, .int .i64 x2), (38, .slice x10.r x10.n), (40, .ptr (some (a6.1, a6.2 + 0)))] H (noU_all rfl) (fun fr => by kernel_rfl) ?_
          intro fr H
          obtain ⟨h6, hx, hm⟩ := bind_some hm
          refine at_stepT (v := .tuple []) (h1 := h6) (tch' := [(10, h3.size), (4, a5.1)]) (g.prot) [(0, .ptr p0), (1, .str p1), (7, .int .i64 (p1.length : Int)), (8, .int .i64 x2)] H (fun fr => by kernel_rfl) (by kernel_rfl) (fun fr => by kernel_rfl) (fun fr => .of (s_st (by kernel_rfl) rfl hx)) ?_
          intro fr H
          refine at_nil ?_
          show AW cfg 69 g (right (right (right (left (left (right (bodyC cfg.P 69))))))) fr h6 _
          refine aw_reg (id := 7) (n := 2) [(0, []), (1, [])] (by kernel_rfl) (by kernel_rfl) ?_
          refine at_seg [(0, []), (1, [])] [(0, .ptr p0), (1, .str p1), (7, .int .i64 (p1.length : Int)), (8, .int .i64 (IntKind.i64.wrap (x2 + (1 : Int))))] H (noU_all rfl) (fun fr => by kernel_rfl) ?_
          intro fr H
          refine at_nil ?_
          exact Exists.intro (IntKind.i64.wrap (x2 + (1 : Int)), h6) (And.intro (Option.some.inj hm).symm ⟨IntKind.i64.wrap (x2 + (1 : Int)), rfl, rfl, H.less _ (fun fr => by kernel_rfl)⟩)
        · exact hF.elim
    · replace H := H.know 9 hb (by kernel_rfl)
      refine aw_false (x := .tmp 9) (by kernel_rfl) H (fun fr => by kernel_rfl) ?_
      refine aw_exit (i := 0) (by kernel_rfl) ?_
      exact Exists.intro _ (And.intro (Option.some.inj hm).symm (fun e => Or.inl ⟨rfl, e, rfl, H.less _ (fun fr => by kernel_rfl)⟩))
  · clear ho
    intro e fr h7 hQ
    rcases hQ with ⟨rfl, rfl, _, H⟩ | hF
    · skip
      obtain ⟨e1, e2⟩ := inj2 hm
      subst e2
      exact (done_normal H (fun fr => by kernel_rfl) rfl : doneQ cfg.P _ _ _ _ fr _)
    · exact hF.elim
/-! ### boulter/subst.put -/
noncomputable def M_subst_put (g : Gd) (h : AHeap) (p0 : Sl) (p1 : Int) : Option ((Sl) × AHeap) :=
 (iteB (decide (((p0.n : Nat) : Int) > (0 : Int))) ((ixL p0 3 (IntKind.i64.wrap (((p0.n : Nat) : Int) - (1 : Int)))).bind fun a1 => (ldI h (a1.1, a1.2 + 0) .i64).bind fun x2 => some (x2 == (0 : Int))) (some false) : Option (Bool)).bind fun x1 => iteB x1 ((ixL p0 3 (IntKind.i64.wrap (((p0.n : Nat) : Int) - (1 : Int)))).bind fun a2 => (ldS h (a2.1, a2.2 + 2)).bind fun x3 => (some (h.push (.cells (some 5) 2 [.int .u8 p1]))).bind fun h1 => (byL h1 (⟨some (h.size, 0), 1⟩ : Sl)).bind fun x4 => need (decide (x3.length + x4.length ≤ 9223372036854775807)) <| (ixL p0 3 (IntKind.i64.wrap (((p0.n : Nat) : Int) - (1 : Int)))).bind fun a3 => (st g h1 (a3.1, a3.2 + 2) [.str (x3 ++ x4)]).bind fun h2 => some (p0, h2)) ((some (h.push (.cells (some 5) 2 [.int .u8 p1]))).bind fun h3 => (byL h3 (⟨some (h.size, 0), 1⟩ : Sl)).bind fun x5 => (some (h3.push (.cells (some 50) 2 [.int .i64 (0 : Int), .int .i64 (0 : Int), .str x5]))).bind fun h4 => (app 50 3 32 g h4 p0 1 (.slice (some (h3.size, 0)) 1)).bind fun (x6, h5) => some (x6, h5))
theorem ok_subst_put {g : Gd} {h h' : AHeap} {p0 : Sl} {p1 : Int} {r0 : Sl} (hm : M_subst_put g h p0 p1 = some (r0, h')) : Runs cfg g h 79 [.slice p0.r p0.n, .int .u8 p1] (.slice r0.r r0.n) h' := by
  refine runs1 (by kernel_rfl) (body_of (n := 39) (rs := [.tmp 4]) (by kernel_rfl) ?_)
  unfold M_subst_put at hm
  refine start (n := 39) [(0, .slice p0.r p0.n), (1, .int .u8 p1)] (by kernel_rfl) (by kernel_rfl) ?_
  intro fr H
  refine aw_seq (by kernel_rfl) ?_
  refine aw_reg (id := 0) (n := 1) [(0, [])] (by kernel_rfl) (by kernel_rfl) ?_
  refine at_seg [(0, [])] [(0, .slice p0.r p0.n), (1, .int .u8 p1)] H (noU_all rfl) (fun fr => by kernel_rfl) ?_
  intro fr H
  refine at_nil ?_
  show AW cfg 79 g (right (bodyC cfg.P 79)) fr h _
  refine aw_seq (by kernel_rfl) ?_
  refine aw_seq (by kernel_rfl) ?_
  refine aw_reg (id := 1) (n := 3) [(0, []), (1, []), (2, [])] (by kernel_rfl) (by kernel_rfl) ?_
  refine at_seg [(0, []), (1, []), (2, [])] [(0, .slice p0.r p0.n), (1, .int .u8 p1), (5, .int .i64 ((p0.n : Nat) : Int))] H (noU_all rfl) (fun fr => by kernel_rfl) ?_
  intro fr H
  refine at_nil ?_
  show AW cfg 79 g (right (left (right (bodyC cfg.P 79)))) fr h _
  refine aw_seq (by kernel_rfl) ?_
  refine aw_reg (id := 2) (n := 11) [(0, []), (1, []), (2, []), (3, []), (4, []), (5, []), (6, []), (7, []), (8, []), (9, []), (10, [])] (by kernel_rfl) (by kernel_rfl) ?_
  refine at_seg [(0, []), (1, []), (2, [])] [(0, .slice p0.r p0.n), (1, .int .u8 p1), (5, .int .i64 ((p0.n : Nat) : Int)), (10, .bool (decide (((p0.n : Nat) : Int) > (0 : Int))))] H (noU_all rfl) (fun fr => by kernel_rfl) ?_
  intro fr H
  obtain ⟨x1, ho, hm⟩ := bind_some hm
  refine at_cut [(3, []), (4, []), (5, []), (6, []), (7, []), (8, []), (9, []), (10, [])] (fun fr' h' => h = h' ∧ Has fr' 39 [(0, .slice p0.r p0.n), (1, .int .u8 p1), (5, .int .i64 ((p0.n : Nat) : Int)), (18, .bool x1)]) ?_ ?_
  · rcases iteB_some ho with ⟨hb, hm⟩ | ⟨hb, hm⟩
    · replace H := H.know 10 hb (by kernel_rfl)
      refine at_seg [(3, []), (4, []), (5, [])] [(0, .slice p0.r p0.n), (1, .int .u8 p1), (5, .int .i64 ((p0.n : Nat) : Int)), (10, .bool true), (11, .slice p0.r p0.n), (13, .int .i64 (IntKind.i64.wrap (((p0.n : Nat) : Int) - (1 : Int))))] H (noU_all rfl) (fun fr => by kernel_rfl) ?_
      intro fr H
      obtain ⟨a1, hx, hm⟩ := bind_some hm
      refine at_step (v := .ptr (some a1)) (h1 := h) [(0, .slice p0.r p0.n), (1, .int .u8 p1), (5, .int .i64 ((p0.n : Nat) : Int)), (10, .bool true), (14, .ptr (some (a1.1, a1.2)))] H (fun fr => by kernel_rfl) (fun fr => .of (s_ixL (s := p0) (by kernel_rfl) hx)) ?_
      intro fr t H
      refine at_seg [(7, [])] [(0, .slice p0.r p0.n), (1, .int .u8 p1), (5, .int .i64 ((p0.n : Nat) : Int)), (10, .bool true), (15, .ptr (some (a1.1, a1.2 + 0)))] H (noU_all rfl) (fun fr => by kernel_rfl) ?_
      intro fr H
      obtain ⟨x2, hx, hm⟩ := bind_some hm
      refine at_step (v := .int .i64 x2) (h1 := h) [(0, .slice p0.r p0.n), (1, .int .u8 p1), (5, .int .i64 ((p0.n : Nat) : Int)), (10, .bool true), (16, .int .i64 x2)] H (fun fr => by kernel_rfl) (fun fr => .of (s_ld (by kernel_rfl) (ldI_eq hx))) ?_
      intro fr t H
      refine at_seg [(9, []), (10, [])] [(0, .slice p0.r p0.n), (1, .int .u8 p1), (5, .int .i64 ((p0.n : Nat) : Int)), (18, .bool (x2 == (0 : Int)))] H (noU_all rfl) (fun fr => by kernel_rfl) ?_
      intro fr H
      have e1 := Option.some.inj hm
      subst e1
      exact at_nil ⟨rfl, H.less _ (fun fr => by kernel_rfl)⟩
    · replace H := H.know 10 hb (by kernel_rfl)
      refine at_seg [(3, []), (4, []), (5, []), (6, []), (7, []), (8, []), (9, []), (10, [])] [(0, .slice p0.r p0.n), (1, .int .u8 p1), (5, .int .i64 ((p0.n : Nat) : Int)), (18, .bool false)] H (noU_all rfl) (fun fr => by kernel_rfl) ?_
      intro fr H
      have e1 := Option.some.inj hm
      subst e1
      exact at_nil ⟨rfl, H.less _ (fun fr => by kernel_rfl)⟩
  · intro t fr h' hK
    obtain ⟨e, H⟩ := hK
    subst e
    refine at_nil ?_
    show AW cfg 79 g (right (right (left (right (bodyC cfg.P 79))))) fr h _
    rcases iteB_some hm with ⟨hb, hm⟩ | ⟨hb, hm⟩
    · replace H := H.know 18 hb (by kernel_rfl)
      refine aw_true (x := .tmp 18) (by kernel_rfl) H (fun fr => by kernel_rfl) ?_
      refine aw_seq (by kernel_rfl) ?_
      refine aw_draw (id := 3) (n := 13) (by kernel_rfl) [(0, []), (1, []), (2, []), (3, []), (4, []), (5, []), (6, []), (7, []), (8, []), (9, []), (10, []), (11, []), (12, [])] (by kernel_rfl) ?_
      refine at_seg [(0, []), (1, []), (2, [])] [(0, .slice p0.r p0.n), (1, .int .u8 p1), (19, .slice p0.r p0.n), (21, .int .i64 (IntKind.i64.wrap (((p0.n : Nat) : Int) - (1 : Int))))] H (noU_all rfl) (fun fr => by kernel_rfl) ?_
      intro fr H
      obtain ⟨a2, hx, hm⟩ := bind_some hm
      refine at_step (v := .ptr (some a2)) (h1 := h) [(0, .slice p0.r p0.n), (1, .int .u8 p1), (19, .slice p0.r p0.n), (21, .int .i64 (IntKind.i64.wrap (((p0.n : Nat) : Int) - (1 : Int)))), (22, .ptr (some (a2.1, a2.2)))] H (fun fr => by kernel_rfl) (fun fr => .of (s_ixL (s := p0) (by kernel_rfl) hx)) ?_
      intro fr t H
      refine at_seg [(4, [])] [(0, .slice p0.r p0.n), (1, .int .u8 p1), (19, .slice p0.r p0.n), (21, .int .i64 (IntKind.i64.wrap (((p0.n : Nat) : Int) - (1 : Int)))), (23, .ptr (some (a2.1, a2.2 + 2)))] H (noU_all rfl) (fun fr => by kernel_rfl) ?_
      intro fr H
      obtain ⟨x3, hx, hm⟩ := bind_some hm
      refine at_step (v := .str x3) (h1 := h) [(0, .slice p0.r p0.n), (1, .int .u8 p1), (19, .slice p0.r p0.n), (21, .int .i64 (IntKind.i64.wrap (((p0.n : Nat) : Int) - (1 : Int)))), (24, .str x3)] H (fun fr => by kernel_rfl) (fun fr => .of (s_ld (by kernel_rfl) (ldS_eq hx))) ?_
      intro fr t H
      refine at_seg [(6, [])] [(0, .slice p0.r p0.n), (19, .slice p0.r p0.n), (21, .int .i64 (IntKind.i64.wrap (((p0.n : Nat) : Int) - (1 : Int)))), (24, .str x3), (25, .int .u8 p1)] H (noU_all rfl) (fun fr => by kernel_rfl) ?_
      intro fr H
      obtain ⟨h1, hx, hm⟩ := bind_some hm
      refine at_step (v := .slice (some (h.size, 0)) 1) (h1 := h1) [(0, .slice p0.r p0.n), (19, .slice p0.r p0.n), (21, .int .i64 (IntKind.i64.wrap (((p0.n : Nat) : Int) - (1 : Int)))), (24, .str x3), (26, .slice (some (h.size, 0)) 1)] H (fun fr => by kernel_rfl) (fun fr => .of (s_n' (by kernel_rfl) hx)) ?_
      intro fr t H
      obtain ⟨x4, hx, hm⟩ := bind_some hm
      refine at_step (v := .str x4) (h1 := h1) [(0, .slice p0.r p0.n), (19, .slice p0.r p0.n), (21, .int .i64 (IntKind.i64.wrap (((p0.n : Nat) : Int) - (1 : Int)))), (24, .str x3), (27, .str x4)] H (fun fr => by kernel_rfl) (fun fr => .of (s_byL (s := (⟨some (h.size, 0), 1⟩ : Sl)) (by kernel_rfl) hx)) ?_
      intro fr t H
      obtain ⟨hb, hm⟩ := need_some hm
      refine at_step (v := .str (x3 ++ x4)) (h1 := h1) [(0, .slice p0.r p0.n), (19, .slice p0.r p0.n), (21, .int .i64 (IntKind.i64.wrap (((p0.n : Nat) : Int) - (1 : Int)))), (28, .str (x3 ++ x4))] H (fun fr => by kernel_rfl) (fun fr => .of (s_cat (by kernel_rfl) hb)) ?_
      intro fr t H
      obtain ⟨a3, hx, hm⟩ := bind_some hm
      refine at_step (v := .ptr (some a3)) (h1 := h1) [(0, .slice p0.r p0.n), (28, .str (x3 ++ x4)), (29, .ptr (some (a3.1, a3.2)))] H (fun fr => by kernel_rfl) (fun fr => .of (s_ixL (s := p0) (by kernel_rfl) hx)) ?_
      intro fr t H
      refine at_seg [(11, [])] [(0, .slice p0.r p0.n), (28, .str (x3 ++ x4)), (30, .ptr (some (a3.1, a3.2 + 2)))] H (noU_all rfl) (fun fr => by kernel_rfl) ?_
      intro fr H
      obtain ⟨h2, hx, hm⟩ := bind_some hm
      refine at_step (v := .tuple []) (h1 := h2) [(0, .slice p0.r p0.n)] H (fun fr => by kernel_rfl) (fun fr => .of (s_st (by kernel_rfl) rfl hx)) ?_
      intro fr t H
      refine at_nil ?_
      show AW cfg 79 g (right (left (right (right (left (right (bodyC cfg.P 79))))))) fr h2 _
      refine aw_seq (by kernel_rfl) ?_
      refine aw_reg (id := 4) (n := 2) [(0, []), (1, [])] (by kernel_rfl) (by kernel_rfl) ?_
      refine at_seg [(0, []), (1, [])] [(4, .slice p0.r p0.n)] H (noU_all rfl) (fun fr => by kernel_rfl) ?_
      intro fr H
      refine at_nil ?_
      show AW cfg 79 g (right (right (left (right (right (left (right (bodyC cfg.P 79)))))))) fr h2 _
      refine aw_ret (by kernel_rfl) ?_
      obtain ⟨e1, e2⟩ := inj2 hm
      subst e2
      subst e1
      exact (done_ret H (fun fr => by kernel_rfl) rfl : doneQ cfg.P _ _ _ _ fr _)
    · replace H := H.know 18 hb (by kernel_rfl)
      refine aw_false (x := .tmp 18) (by kernel_rfl) H (fun fr => by kernel_rfl) ?_
      refine aw_skip (by kernel_rfl) ?_
      show AW cfg 79 g (right (right (bodyC cfg.P 79))) fr h _
      refine aw_seq (by kernel_rfl) ?_
      refine aw_reg (id := 5) (n := 8) [(0, []), (1, []), (2, []), (3, []), (4, []), (5, []), (6, []), (7, [])] (by kernel_rfl) (by kernel_rfl) ?_
      refine at_seg [(0, []), (1, [])] [(32, .slice p0.r p0.n), (33, .int .u8 p1)] H (noU_all rfl) (fun fr => by kernel_rfl) ?_
      intro fr H
      obtain ⟨h3, hx, hm⟩ := bind_some hm
      refine at_step (v := .slice (some (h.size, 0)) 1) (h1 := h3) [(32, .slice p0.r p0.n), (34, .slice (some (h.size, 0)) 1)] H (fun fr => by kernel_rfl) (fun fr => .of (s_n' (by kernel_rfl) hx)) ?_
      intro fr t H
      obtain ⟨x5, hx, hm⟩ := bind_some hm
      refine at_step (v := .str x5) (h1 := h3) [(32, .slice p0.r p0.n), (35, .str x5)] H (fun fr => by kernel_rfl) (fun fr => .of (s_byL (s := (⟨some (h.size, 0), 1⟩ : Sl)) (by kernel_rfl) hx)) ?_
      intro fr t H
      refine at_seg [(4, [])] [(32, .slice p0.r p0.n), (36, .agg [.int .i64 (0 : Int), .int .i64 (0 : Int), .str x5])] H (noU_all rfl) (fun fr => by kernel_rfl) ?_
      intro fr H
      obtain ⟨h4, hx, hm⟩ := bind_some hm
      refine at_step (v := .slice (some (h3.size, 0)) 1) (h1 := h4) [(32, .slice p0.r p0.n), (37, .slice (some (h3.size, 0)) 1)] H (fun fr => by kernel_rfl) (fun fr => .of (s_n' (by kernel_rfl) hx)) ?_
      intro fr t H
      obtain ⟨⟨x6, h5⟩, hx, hm⟩ := bind_some hm
      refine at_step (v := .slice x6.r x6.n) (h1 := h5) [(38, .slice x6.r x6.n)] H (fun fr => by kernel_rfl) (fun fr => .of (s_app (s := p0) (by kernel_rfl) hx)) ?_
      intro fr t H
      refine at_seg [(7, [])] [(4, .slice x6.r x6.n)] H (noU_all rfl) (fun fr => by kernel_rfl) ?_
      intro fr H
      refine at_nil ?_
      show AW cfg 79 g (right (right (right (bodyC cfg.P 79)))) fr h5 _
      refine aw_ret (by kernel_rfl) ?_
      obtain ⟨e1, e2⟩ := inj2 hm
      subst e2
      subst e1
      exact (done_ret H (fun fr => by kernel_rfl) rfl : doneQ cfg.P _ _ _ _ fr _)
/-! ### boulter/subst.sign -/
noncomputable def M_subst_sign (g : Gd) (h : AHeap) (p0 : Int) : Option (((List AVal) × Bool) × AHeap) :=
 (some (h.push (.cells none 2 [.int .i64 (0 : Int), .int .i64 (0 : Int), .str ([] : List UInt8)]))).bind fun h1 => iteB ((decide (p0 ≥ (49 : Int))) && (decide (p0 ≤ (57 : Int)))) ((stG 3 g h1 (h.size, 0) [.int .i64 (1 : Int), .int .i64 (IntKind.i64.wrap (IntKind.u8.wrap (p0 - (48 : Int)))), .str ([] : List UInt8)]).bind fun h2 => (ldA h2 (h.size, 0) 3).bind fun x1 => some ((x1, true), h2)) ((some (h1.push (.map 2 []))).bind fun h3 => (mpS cfg.P g h3 120 (some h1.size) (.int .u8 (85 : Int)) (.int .i64 (2 : Int))).bind fun h4 => (mpS cfg.P g h4 120 (some h1.size) (.int .u8 (76 : Int)) (.int .i64 (3 : Int))).bind fun h5 => (mpS cfg.P g h5 120 (some h1.size) (.int .u8 (69 : Int)) (.int .i64 (4 : Int))).bind fun h6 => (mpS cfg.P g h6 120 (some h1.size) (.int .u8 (117 : Int)) (.int .i64 (5 : Int))).bind fun h7 => (mpS cfg.P g h7 120 (some h1.size) (.int .u8 (108 : Int)) (.int .i64 (6 : Int))).bind fun h8 => ((mpL cfg.P h8 120 (some h1.size) (.int .u8 p0)).bind fun r => (asI .i64 r.1).map fun x => (x, r.2)).bind fun (x2, x3) => (stG 3 g h8 (h.size, 0) [.int .i64 x2, .int .i64 (0 : Int), .str ([] : List UInt8)]).bind fun h9 => (ldA h9 (h.size, 0) 3).bind fun x4 => some ((x4, x3), h9))
theorem ok_subst_sign {g : Gd} {h h' : AHeap} {p0 : Int} {r0 : List AVal} {r1 : Bool} (hm : M_subst_sign g h p0 = some ((r0, r1), h')) : Runs cfg g h 80 [.int .u8 p0] (.tuple [.agg r0, .bool r1]) h' := by
  refine runs1 (by kernel_rfl) (body_of (n := 28) (rs := [.cell 2 50, .tmp 3]) (by kernel_rfl) ?_)
  unfold M_subst_sign at hm
  refine start (n := 28) [(0, .int .u8 p0)] (by kernel_rfl) (by kernel_rfl) ?_
  intro fr H
  refine aw_seq (by kernel_rfl) ?_
  refine aw_reg (id := 0) (n := 2) [(0, []), (1, [])] (by kernel_rfl) (by kernel_rfl) ?_
  obtain ⟨h1, hx, hm⟩ := bind_some hm
  refine at_step (v := .ptr (some (h.size, 0))) (h1 := h1) [(0, .int .u8 p0), (2, .ptr (some (h.size, 0)))] H (fun fr => by kernel_rfl) (fun fr => .of (s_n' (by kernel_rfl) hx)) ?_
  intro fr t H
  refine at_seg [(1, [])] [(0, .int .u8 p0), (2, .ptr (some (h.size, 0)))] H (noU_all rfl) (fun fr => by kernel_rfl) ?_
  intro fr H
  refine at_nil ?_
  show AW cfg 80 g (right (bodyC cfg.P 80)) fr h1 _
  refine aw_seq (by kernel_rfl) ?_
  refine aw_seq (by kernel_rfl) ?_
  refine aw_reg (id := 1) (n := 6) [(0, []), (1, []), (2, []), (3, []), (4, []), (5, [])] (by kernel_rfl) (by kernel_rfl) ?_
  refine at_seg [(0, []), (1, []), (2, [])] [(0, .int .u8 p0), (2, .ptr (some (h.size, 0))), (9, .bool (decide (p0 ≥ (49 : Int))))] H (noU_all rfl) (fun fr => by kernel_rfl) ?_
  intro fr H
  refine at_cut [(3, []), (4, []), (5, [])] (fun fr' h' => h1 = h' ∧ Has fr' 28 [(0, .int .u8 p0), (2, .ptr (some (h.size, 0))), (12, .bool ((decide (p0 ≥ (49 : Int))) && (decide (p0 ≤ (57 : Int)))))]) ?_ ?_
  · cases hb : (decide (p0 ≥ (49 : Int)) : Bool) with
    | true =>
      replace H := H.know 9 hb (by kernel_rfl)
      refine at_seg [(3, []), (4, []), (5, [])] [(0, .int .u8 p0), (2, .ptr (some (h.size, 0))), (12, .bool (decide (p0 ≤ (57 : Int))))] H (noU_all rfl) (fun fr => by kernel_rfl) ?_
      intro fr H
      exact at_nil ⟨rfl, by first | exact H.less _ (fun fr => by rfl) | exact H.less _ (fun fr => by rw [hb]; rfl)⟩
    | false =>
      replace H := H.know 9 hb (by kernel_rfl)
      refine at_seg [(3, []), (4, []), (5, [])] [(0, .int .u8 p0), (2, .ptr (some (h.size, 0))), (12, .bool false)] H (noU_all rfl) (fun fr => by kernel_rfl) ?_
      intro fr H
      exact at_nil ⟨rfl, by first | exact H.less _ (fun fr => by rfl) | exact H.less _ (fun fr => by rw [hb]; rfl)⟩
  · intro t fr h' hK
    obtain ⟨e, H⟩ := hK
    subst e
    refine at_nil ?_
    show AW cfg 80 g (right (left (right (bodyC cfg.P 80)))) fr h1 _
    rcases iteB_some hm with ⟨hb, hm⟩ | ⟨hb, hm⟩
    · replace H := H.know 12 hb (by kernel_rfl)
      refine aw_true (x := .tmp 12) (by kernel_rfl) H (fun fr => by kernel_rfl) ?_
      refine aw_seq (by kernel_rfl) ?_
      refine aw_reg (id := 2) (n := 6) [(0, []), (1, []), (2, []), (3, []), (4, []), (5, [])] (by kernel_rfl) (by kernel_rfl) ?_
      refine at_seg [(0, []), (1, []), (2, []), (3, [])] [(2, .ptr (some (h.size, 0))), (16, .agg [.int .i64 (1 : Int), .int .i64 (IntKind.i64.wrap (IntKind.u8.wrap (p0 - (48 : Int)))), .str ([] : List UInt8)])] H (noU_all rfl) (fun fr => by kernel_rfl) ?_
      intro fr H
      obtain ⟨h2, hx, hm⟩ := bind_some hm
      refine at_step (v := .tuple []) (h1 := h2) [(2, .ptr (some (h.size, 0)))] H (fun fr => by kernel_rfl) (fun fr => .of (s_stG (by kernel_rfl) hx)) ?_
      intro fr t H
      refine at_seg [(5, [])] [(2, .ptr (some (h.size, 0))), (3, .bool true)] H (noU_all rfl) (fun fr => by kernel_rfl) ?_
      intro fr H
      refine at_nil ?_
      show AW cfg 80 g (right (left (right (left (right (bodyC cfg.P 80)))))) fr h2 _
      refine aw_ret (by kernel_rfl) ?_
      obtain ⟨x1, hy0, hm⟩ := bind_some hm
      obtain ⟨e1, e2⟩ := inj2 hm
      subst e2
      obtain ⟨u0, v0⟩ := Prod.mk.inj e1
      subst u0
      subst v0
      exact (done_ret H (fun fr => resL_many (.cell (by kernel_rfl) (load_ldA (by kernel_rfl) (by kernel_rfl) hy0) (.tmp (by kernel_rfl) .nil))) rfl : doneQ cfg.P _ _ _ _ fr _)
    · replace H := H.know 12 hb (by kernel_rfl)
      refine aw_false (x := .tmp 12) (by kernel_rfl) H (fun fr => by kernel_rfl) ?_
      refine aw_skip (by kernel_rfl) ?_
      show AW cfg 80 g (right (right (bodyC cfg.P 80))) fr h1 _
      refine aw_seq (by kernel_rfl) ?_
      refine aw_reg (id := 3) (n := 8) [(0, []), (1, []), (2, []), (3, []), (4, []), (5, []), (6, []), (7, [])] (by kernel_rfl) (by kernel_rfl) ?_
      obtain ⟨h3, hx, hm⟩ := bind_some hm
      refine at_step (v := .map (some h1.size)) (h1 := h3) [(0, .int .u8 p0), (2, .ptr (some (h.size, 0))), (17, .map (some h1.size))] H (fun fr => by kernel_rfl) (fun fr => .of (s_n' (by kernel_rfl) hx)) ?_
      intro fr t H
      obtain ⟨h4, hx, hm⟩ := bind_some hm
      refine at_step (v := .tuple []) (h1 := h4) [(0, .int .u8 p0), (2, .ptr (some (h.size, 0))), (17, .map (some h1.size))] H (fun fr => by kernel_rfl) (fun fr => .of (s_ms (by kernel_rfl) hx)) ?_
      intro fr t H
      obtain ⟨h5, hx, hm⟩ := bind_some hm
      refine at_step (v := .tuple []) (h1 := h5) [(0, .int .u8 p0), (2, .ptr (some (h.size, 0))), (17, .map (some h1.size))] H (fun fr => by kernel_rfl) (fun fr => .of (s_ms (by kernel_rfl) hx)) ?_
      intro fr t H
      obtain ⟨h6, hx, hm⟩ := bind_some hm
      refine at_step (v := .tuple []) (h1 := h6) [(0, .int .u8 p0), (2, .ptr (some (h.size, 0))), (17, .map (some h1.size))] H (fun fr => by kernel_rfl) (fun fr => .of (s_ms (by kernel_rfl) hx)) ?_
      intro fr t H
      obtain ⟨h7, hx, hm⟩ := bind_some hm
      refine at_step (v := .tuple []) (h1 := h7) [(0, .int .u8 p0), (2, .ptr (some (h.size, 0))), (17, .map (some h1.size))] H (fun fr => by kernel_rfl) (fun fr => .of (s_ms (by kernel_rfl) hx)) ?_
      intro fr t H
      obtain ⟨h8, hx, hm⟩ := bind_some hm
      refine at_step (v := .tuple []) (h1 := h8) [(0, .int .u8 p0), (2, .ptr (some (h.size, 0))), (17, .map (some h1.size))] H (fun fr => by kernel_rfl) (fun fr => .of (s_ms (by kernel_rfl) hx)) ?_
      intro fr t H
      refine at_seg [(6, []), (7, [])] [(0, .int .u8 p0), (2, .ptr (some (h.size, 0))), (4, .map (some h1.size))] H (noU_all rfl) (fun fr => by kernel_rfl) ?_
      intro fr H
      refine at_nil ?_
      show AW cfg 80 g (right (right (right (bodyC cfg.P 80)))) fr h8 _
      refine aw_seq (by kernel_rfl) ?_
      refine aw_reg (id := 4) (n := 8) [(0, []), (1, []), (2, []), (3, []), (4, []), (5, []), (6, []), (7, [])] (by kernel_rfl) (by kernel_rfl) ?_
      refine at_seg [(0, []), (1, [])] [(2, .ptr (some (h.size, 0))), (20, .map (some h1.size)), (21, .int .u8 p0)] H (noU_all rfl) (fun fr => by kernel_rfl) ?_
      intro fr H
      obtain ⟨⟨x2, x3⟩, hx, hm⟩ := bind_some hm
      obtain ⟨u, hx, hu⟩ := mpL_as hx
      have hu := asI_eq hu
      subst hu
      refine at_step (v := .tuple [.int .i64 x2, .bool x3]) (h1 := h8) [(2, .ptr (some (h.size, 0))), (22, .tuple [.int .i64 x2, .bool x3])] H (fun fr => by kernel_rfl) (fun fr => .of (s_lkT (by kernel_rfl) hx)) ?_
      intro fr t H
      refine at_seg [(3, []), (4, []), (5, []), (6, []), (7, [])] [(2, .ptr (some (h.size, 0))), (5, .int .i64 x2), (6, .bool x3)] H (noU_all rfl) (fun fr => by kernel_rfl) ?_
      intro fr H
      refine at_nil ?_
      show AW cfg 80 g (right (right (right (right (bodyC cfg.P 80))))) fr h8 _
      refine aw_seq (by kernel_rfl) ?_
      refine aw_reg (id := 5) (n := 5) [(0, []), (1, []), (2, []), (3, []), (4, [])] (by kernel_rfl) (by kernel_rfl) ?_
      refine at_seg [(0, []), (1, []), (2, [])] [(2, .ptr (some (h.size, 0))), (26, .agg [.int .i64 x2, .int .i64 (0 : Int), .str ([] : List UInt8)]), (27, .bool x3)] H (noU_all rfl) (fun fr => by kernel_rfl) ?_
      intro fr H
      obtain ⟨h9, hx, hm⟩ := bind_some hm
      refine at_step (v := .tuple []) (h1 := h9) [(2, .ptr (some (h.size, 0))), (27, .bool x3)] H (fun fr => by kernel_rfl) (fun fr => .of (s_stG (by kernel_rfl) hx)) ?_
      intro fr t H
      refine at_seg [(4, [])] [(2, .ptr (some (h.size, 0))), (3, .bool x3)] H (noU_all rfl) (fun fr => by kernel_rfl) ?_
      intro fr H
      refine at_nil ?_
      show AW cfg 80 g (right (right (right (right (right (bodyC cfg.P 80)))))) fr h9 _
      refine aw_ret (by kernel_rfl) ?_
      obtain ⟨x4, hy0, hm⟩ := bind_some hm
      obtain ⟨e1, e2⟩ := inj2 hm
      subst e2
      obtain ⟨u0, v0⟩ := Prod.mk.inj e1
      subst u0
      subst v0
      exact (done_ret H (fun fr => resL_many (.cell (by kernel_rfl) (load_ldA (by kernel_rfl) (by kernel_rfl) hy0) (.tmp (by kernel_rfl) .nil))) rfl : doneQ cfg.P _ _ _ _ fr _)
/-! ### boulter/subst.Parse -/
noncomputable def M_subst_Parse_L0 (g : Gd) (p0 : List UInt8) (s : Sl × Int × AHeap) : Option ((Sl × Int × AHeap) ⊕ ((Sl × AHeap) ⊕ (Sl × Int × Int × AHeap))) :=
  match s with
  | (x7, x8, h1) => iteB (decide (x8 < (p0.length : Int))) (((ixS p0 x8).bind fun x14 => iteB (x14 == (38 : Int)) ((some (h1.push (.cells (some 50) 2 [.int .i64 (1 : Int), .int .i64 (0 : Int), .str ([] : List UInt8)]))).bind fun h2 => (app 50 3 32 g h2 x7 1 (.slice (some (h1.size, 0)) 1)).bind fun (x15, h3) => some (.inl (x15, x8, h3))) (iteB (x14 != (92 : Int)) ((M_subst_put g h1 x7 x14).bind fun (x16, h4) => some (.inl (x16, x8, h4))) (iteB ((IntKind.i64.wrap (x8 + (1 : Int))) == (p0.length : Int)) (some (.inr ((⟨none, 0⟩ : Sl), x8, (11 : Int), h1))) ((ixS p0 (IntKind.i64.wrap (x8 + (1 : Int)))).bind fun x17 => (M_subst_sign g h1 x17).bind fun ((x18, x19), h5) => (some (h5.push (.cells none 2 [.int .i64 (0 : Int), .int .i64 (0 : Int), .str ([] : List UInt8)]))).bind fun h6 => (stG 3 g h6 (h5.size, 0) x18).bind fun h7 => (iteB x19 ((ldA h7 (h5.size, 0) 3).bind fun x24 => need (Nat.beq x24.length 3 && x24.all AVal.one) <| (some (h7.push (.cells (some 50) 2 x24))).bind fun h8 => (app 50 3 32 g h8 x7 1 (.slice (some (h7.size, 0)) 1)).bind fun (x25, h9) => some (.inl (x25, h9))) (iteB (((x17 == (38 : Int)) || (x17 == (92 : Int))) || (x17 == (47 : Int))) ((M_subst_put g h7 x7 x17).bind fun (x26, h10) => some (.inl (x26, h10))) (some (.inr ((⟨none, 0⟩ : Sl), x8, (11 : Int), h7)))) : Option ((Sl × AHeap) ⊕ (Sl × Int × Int × AHeap))).bind fun o3 => (match o3 with | .inl (x20, h11) => some (.inl (x20, IntKind.i64.wrap (x8 + (1 : Int)), h11)) | .inr (x21, x22, x23, h11) => some (.inr (x21, x22, x23, h11)))))) : Option ((Sl × Int × AHeap) ⊕ (Sl × Int × Int × AHeap))).bind fun o2 => (match o2 with | .inl (x9, x10, h12) => some (.inl (x9, IntKind.i64.wrap (x10 + (1 : Int)), h12)) | .inr (x11, x12, x13, h12) => some (.inr (.inr (x11, x12, x13, h12))))) (some (.inr (.inl (x7, h1))))
noncomputable def M_subst_Parse (g : Gd) (h : AHeap) (p0 : List UInt8) : Option ((Sl × Int × Int) × AHeap) :=
 iteB (decide ((p0.length : Int) > (8192 : Int))) (some (((⟨none, 0⟩ : Sl), (0 : Int), (12 : Int)), h)) ((loop (M_subst_Parse_L0 g p0) ((⟨none, 0⟩ : Sl), (0 : Int), h)).bind fun o1 => (match o1 with | .inl (x3, h13) => some ((x3, (0 : Int), (0 : Int)), h13) | .inr (x4, x5, x6, h13) => some ((x4, x5, x6), h13)))
theorem ok_subst_Parse {g : Gd} {h h' : AHeap} {p0 : List UInt8} {r0 : Sl} {r1 : Int} {r2 : Int} (hm : M_subst_Parse g h p0 = some ((r0, r1, r2), h')) : Runs cfg g h 42 [.str p0] (.tuple [.slice r0.r r0.n, .int .i64 r1, .int .i64 r2]) h' := by
  refine runs1 (by kernel_rfl) (body_of (n := 76) (rs := [.tmp 2, .tmp 3, .tmp 4]) (by kernel_rfl) ?_)
  unfold M_subst_Parse at hm
  refine start (n := 76) [(0, .str p0)] (by kernel_rfl) (by kernel_rfl) ?_
  intro fr H
  refine aw_seq (by kernel_rfl) ?_
  refine aw_reg (id := 0) (n := 3) [(0, []), (1, []), (2, [])] (by kernel_rfl) (by kernel_rfl) ?_
  refine at_seg [(0, []), (1, []), (2, [])] [(0, .str p0)] H (noU_all rfl) (fun fr => by kernel_rfl) ?_
  intro fr H
  refine at_nil ?_
  show AW cfg 42 g (right (bodyC cfg.P 42)) fr h _
  refine aw_scope (by kernel_rfl) ?_
  refine aw_seq (by kernel_rfl) ?_
  refine aw_seq (by kernel_rfl) ?_
  refine aw_reg (id := 1) (n := 3) [(0, []), (1, []), (2, [])] (by kernel_rfl) (by kernel_rfl) ?_
  refine at_seg [(0, []), (1, []), (2, [])] [(0, .str p0), (13, .bool (decide ((p0.length : Int) > (8192 : Int))))] H (noU_all rfl) (fun fr => by kernel_rfl) ?_
  intro fr H
  refine at_nil ?_
  show AW cfg 42 g (right (left (left (right (bodyC cfg.P 42))))) fr h _
  rcases iteB_some hm with ⟨hb, hm⟩ | ⟨hb, hm⟩
  · replace H := H.know 13 hb (by kernel_rfl)
    refine aw_true (x := .tmp 13) (by kernel_rfl) H (fun fr => by kernel_rfl) ?_
    refine aw_seq (by kernel_rfl) ?_
    refine aw_reg (id := 2) (n := 3) [(0, []), (1, []), (2, [])] (by kernel_rfl) (by kernel_rfl) ?_
    refine at_seg [(0, []), (1, []), (2, [])] [(2, .slice none 0), (3, .int .i64 (0 : Int)), (4, .int .i64 (12 : Int))] H (noU_all rfl) (fun fr => by kernel_rfl) ?_
    intro fr H
    refine at_nil ?_
    show AW cfg 42 g (right (left (right (left (left (right (bodyC cfg.P 42))))))) fr h _
    refine aw_ret (by kernel_rfl) ?_
    obtain ⟨e1, e2⟩ := inj2 hm
    subst e2
    obtain ⟨u0, v0⟩ := Prod.mk.inj e1
    obtain ⟨u1, v1⟩ := Prod.mk.inj v0
    subst u0
    subst u1
    subst v1
    exact (done_ret H (fun fr => by kernel_rfl) rfl : doneQ cfg.P _ _ _ _ fr _)
  · replace H := H.know 13 hb (by kernel_rfl)
    refine aw_false (x := .tmp 13) (by kernel_rfl) H (fun fr => by kernel_rfl) ?_
    refine aw_skip (by kernel_rfl) ?_
    show AW cfg 42 g (right (left (right (bodyC cfg.P 42)))) fr h _
    refine aw_seq (by kernel_rfl) ?_
    refine aw_reg (id := 3) (n := 1) [(0, [])] (by kernel_rfl) (by kernel_rfl) ?_
    refine at_seg [(0, [])] [(0, .str p0), (5, .slice none 0)] H (noU_all rfl) (fun fr => by kernel_rfl) ?_
    intro fr H
    refine at_nil ?_
    show AW cfg 42 g (right (right (left (right (bodyC cfg.P 42))))) fr h _
    refine aw_seq (by kernel_rfl) ?_
    refine aw_label (by kernel_rfl) ?_
    show AW cfg 42 g (right (right (right (left (right (bodyC cfg.P 42)))))) fr h _
    refine aw_seq (by kernel_rfl) ?_
    refine aw_seq (by kernel_rfl) ?_
    refine aw_reg (id := 4) (n := 1) [(0, [])] (by kernel_rfl) (by kernel_rfl) ?_
    refine at_seg [(0, [])] [(0, .str p0), (5, .slice none 0), (6, .int .i64 (0 : Int))] H (noU_all rfl) (fun fr => by kernel_rfl) ?_
    intro fr H
    refine at_nil ?_
    show AW cfg 42 g (right (left (right (right (right (left (right (bodyC cfg.P 42)))))))) fr h _
    refine aw_block (id := 0) (by kernel_rfl) ?_
    obtain ⟨o1, ho, hm⟩ := bind_some hm
    refine aw_mono (Q' := fun e fr' h' => (∃ (x3 : Sl), e = .exit 0 ∧ .inl (x3, h') = o1 ∧ h' = h' ∧ Has fr' 76 [(5, .slice x3.r x3.n)]) ∨ (∃ (x4 : Sl) (x5 : Int) (x6 : Int), e = .ret ∧ .inr (x4, x5, x6, h') = o1 ∧ h' = h' ∧ Has fr' 76 [(2, .slice x4.r x4.n), (3, .int .i64 x5), (4, .int .i64 x6)]) ∨ False) ?_ ?_
    · refine aw_loop (by kernel_rfl) (fun (s : Sl × Int × AHeap) fr' h' => ∃ (x7 : Sl) (x8 : Int), (x7, x8, h') = s ∧ h' = h' ∧ Has fr' 76 [(0, .str p0), (5, .slice x7.r x7.n), (6, .int .i64 x8)]) ho ⟨(⟨none, 0⟩ : Sl), (0 : Int), rfl, rfl, H.less _ (fun fr => by kernel_rfl)⟩ ?_
      clear ho hm H
      intro s q fr h1 hI hm
      obtain ⟨x7, x8, rfl, _, H⟩ := hI
      unfold M_subst_Parse_L0 at hm
      refine aw_seq (by kernel_rfl) ?_
      refine aw_seq (by kernel_rfl) ?_
      refine aw_reg (id := 5) (n := 4) [(0, []), (1, []), (2, []), (3, [])] (by kernel_rfl) (by kernel_rfl) ?_
      refine at_seg [(0, []), (1, []), (2, []), (3, [])] [(0, .str p0), (5, .slice x7.r x7.n), (6, .int .i64 x8), (17, .bool (decide (x8 < (p0.length : Int))))] H (noU_all rfl) (fun fr => by kernel_rfl) ?_
      intro fr H
      refine at_nil ?_
      show AW cfg 42 g (right (left (left (left (right (left (right (right (right (left (right (bodyC cfg.P 42)))))))))))) fr h1 _
      rcases iteB_some hm with ⟨hb, hm⟩ | ⟨hb, hm⟩
      · replace H := H.know 17 hb (by kernel_rfl)
        refine aw_true (x := .tmp 17) (by kernel_rfl) H (fun fr => by kernel_rfl) ?_
        refine aw_skip (by kernel_rfl) ?_
        show AW cfg 42 g (right (left (left (right (left (right (right (right (left (right (bodyC cfg.P 42))))))))))) fr h1 _
        refine aw_seq (by kernel_rfl) ?_
        obtain ⟨o2, ho, hm⟩ := bind_some hm
        refine aw_mono (Q' := fun e fr' h' => (∃ (x9 : Sl) (x10 : Int), e = .normal ∧ .inl (x9, x10, h') = o2 ∧ h' = h' ∧ Has fr' 76 [(0, .str p0), (5, .slice x9.r x9.n), (6, .int .i64 x10)]) ∨ (∃ (x11 : Sl) (x12 : Int) (x13 : Int), e = .ret ∧ .inr (x11, x12, x13, h') = o2 ∧ h' = h' ∧ Has fr' 76 [(2, .slice x11.r x11.n), (3, .int .i64 x12), (4, .int .i64 x13)]) ∨ False) ?_ ?_
        · replace hm := ho
          clear ho
          refine aw_block (id := 1) (by kernel_rfl) ?_
          refine aw_seq (by kernel_rfl) ?_
          refine aw_seq (by kernel_rfl) ?_
          refine aw_reg (id := 7) (n := 4) [(0, []), (1, []), (2, []), (3, [])] (by kernel_rfl) (by kernel_rfl) ?_
          refine at_seg [(0, []), (1, [])] [(0, .str p0), (5, .slice x7.r x7.n), (6, .int .i64 x8), (20, .str p0), (21, .int .i64 x8)] H (noU_all rfl) (fun fr => by kernel_rfl) ?_
          intro fr H
          obtain ⟨x14, hx, hm⟩ := bind_some hm
          refine at_step (v := .int .u8 x14) (h1 := h1) [(0, .str p0), (5, .slice x7.r x7.n), (6, .int .i64 x8), (22, .int .u8 x14)] H (fun fr => by kernel_rfl) (fun fr => .of (s_ixS (by kernel_rfl) hx)) ?_
          intro fr t H
          refine at_seg [(3, [])] [(0, .str p0), (5, .slice x7.r x7.n), (6, .int .i64 x8), (7, .int .u8 x14)] H (noU_all rfl) (fun fr => by kernel_rfl) ?_
          intro fr H
          refine at_nil ?_
          show AW cfg 42 g (right (left (left (left (right (left (left (right (left (right (right (right (left (right (bodyC cfg.P 42))))))))))))))) fr h1 _
          refine aw_block (id := 2) (by kernel_rfl) ?_
          refine aw_seq (by kernel_rfl) ?_
          refine aw_reg (id := 8) (n := 3) [(0, []), (1, []), (2, [])] (by kernel_rfl) (by kernel_rfl) ?_
          refine at_seg [(0, []), (1, []), (2, [])] [(0, .str p0), (5, .slice x7.r x7.n), (6, .int .i64 x8), (7, .int .u8 x14), (23, .bool (x14 == (38 : Int)))] H (noU_all rfl) (fun fr => by kernel_rfl) ?_
          intro fr H
          refine at_nil ?_
          show AW cfg 42 g (right (left (right (left (left (left (right (left (left (right (left (right (right (right (left (right (bodyC cfg.P 42))))))))))))))))) fr h1 _
          rcases iteB_some hm with ⟨hb, hm⟩ | ⟨hb, hm⟩
          · replace H := H.know 23 hb (by kernel_rfl)
            refine aw_true (x := .tmp 23) (by kernel_rfl) H (fun fr => by kernel_rfl) ?_
            refine aw_seq (by kernel_rfl) ?_
            refine aw_reg (id := 9) (n := 5) [(0, []), (1, []), (2, []), (3, []), (4, [])] (by kernel_rfl) (by kernel_rfl) ?_
            refine at_seg [(0, []), (1, [])] [(0, .str p0), (6, .int .i64 x8), (26, .slice x7.r x7.n), (27, .agg [.int .i64 (1 : Int), .int .i64 (0 : Int), .str ([] : List UInt8)])] H (noU_all rfl) (fun fr => by kernel_rfl) ?_
            intro fr H
            obtain ⟨h2, hx, hm⟩ := bind_some hm
            refine at_step (v := .slice (some (h1.size, 0)) 1) (h1 := h2) [(0, .str p0), (6, .int .i64 x8), (26, .slice x7.r x7.n), (28, .slice (some (h1.size, 0)) 1)] H (fun fr => by kernel_rfl) (fun fr => .of (s_n' (by kernel_rfl) hx)) ?_
            intro fr t H
            obtain ⟨⟨x15, h3⟩, hx, hm⟩ := bind_some hm
            refine at_step (v := .slice x15.r x15.n) (h1 := h3) [(0, .str p0), (6, .int .i64 x8), (29, .slice x15.r x15.n)] H (fun fr => by kernel_rfl) (fun fr => .of (s_app (s := x7) (by kernel_rfl) hx)) ?_
            intro fr t H
            refine at_seg [(4, [])] [(0, .str p0), (5, .slice x15.r x15.n), (6, .int .i64 x8)] H (noU_all rfl) (fun fr => by kernel_rfl) ?_
            intro fr H
            refine at_nil ?_
            show AW cfg 42 g (right (left (right (left (right (left (left (left (right (left (left (right (left (right (right (right (left (right (bodyC cfg.P 42))))))))))))))))))) fr h3 _
            refine aw_exit (i := 1) (by kernel_rfl) ?_
            exact Or.inl ⟨x15, x8, rfl, Option.some.inj hm, rfl, H.less _ (fun fr => by kernel_rfl)⟩
          · replace H := H.know 23 hb (by kernel_rfl)
            refine aw_false (x := .tmp 23) (by kernel_rfl) H (fun fr => by kernel_rfl) ?_
            refine aw_seq (by kernel_rfl) ?_
            refine aw_reg (id := 10) (n := 3) [(0, []), (1, []), (2, [])] (by kernel_rfl) (by kernel_rfl) ?_
            refine at_seg [(0, []), (1, []), (2, [])] [(0, .str p0), (5, .slice x7.r x7.n), (6, .int .i64 x8), (7, .int .u8 x14), (30, .bool (x14 != (92 : Int)))] H (noU_all rfl) (fun fr => by kernel_rfl) ?_
            intro fr H
            refine at_nil ?_
            show AW cfg 42 g (right (right (right (left (right (left (left (left (right (left (left (right (left (right (right (right (left (right (bodyC cfg.P 42))))))))))))))))))) fr h1 _
            rcases iteB_some hm with ⟨hb, hm⟩ | ⟨hb, hm⟩
            · replace H := H.know 30 hb (by kernel_rfl)
              refine aw_true (x := .tmp 30) (by kernel_rfl) H (fun fr => by kernel_rfl) ?_
              refine aw_seq (by kernel_rfl) ?_
              refine aw_reg (id := 11) (n := 4) [(0, []), (1, []), (2, []), (3, [])] (by kernel_rfl) (by kernel_rfl) ?_
              refine at_seg [(0, []), (1, [])] [(0, .str p0), (6, .int .i64 x8), (33, .slice x7.r x7.n), (34, .int .u8 x14)] H (noU_all rfl) (fun fr => by kernel_rfl) ?_
              intro fr H
              obtain ⟨⟨x16, h4⟩, hx, hm⟩ := bind_some hm
              refine at_step (v := .slice x16.r x16.n) (h1 := h4) [(0, .str p0), (6, .int .i64 x8), (35, .slice x16.r x16.n)] H (fun fr => by kernel_rfl) (fun fr => Steps.call (by kernel_rfl) (ok_subst_put hx)) ?_
              intro fr t H
              refine at_seg [(3, [])] [(0, .str p0), (5, .slice x16.r x16.n), (6, .int .i64 x8)] H (noU_all rfl) (fun fr => by kernel_rfl) ?_
              intro fr H
              refine at_nil ?_
              show AW cfg 42 g (right (left (right (right (right (left (right (left (left (left (right (left (left (right (left (right (right (right (left (right (bodyC cfg.P 42))))))))))))))))))))) fr h4 _
              refine aw_exit (i := 1) (by kernel_rfl) ?_
              exact Or.inl ⟨x16, x8, rfl, Option.some.inj hm, rfl, H.less _ (fun fr => by kernel_rfl)⟩
            · replace H := H.know 30 hb (by kernel_rfl)
              refine aw_false (x := .tmp 30) (by kernel_rfl) H (fun fr => by kernel_rfl) ?_
              refine aw_seq (by kernel_rfl) ?_
              refine aw_reg (id := 12) (n := 6) [(0, []), (1, []), (2, []), (3, []), (4, []), (5, [])] (by kernel_rfl) (by kernel_rfl) ?_
              refine at_seg [(0, []), (1, []), (2, []), (3, []), (4, []), (5, [])] [(0, .str p0), (5, .slice x7.r x7.n), (6, .int .i64 x8), (36, .bool ((IntKind.i64.wrap (x8 + (1 : Int))) == (p0.length : Int)))] H (noU_all rfl) (fun fr => by kernel_rfl) ?_
              intro fr H
              refine at_nil ?_
              show AW cfg 42 g (right (right (right (right (right (left (right (left (left (left (right (left (left (right (left (right (right (right (left (right (bodyC cfg.P 42))))))))))))))))))))) fr h1 _
              rcases iteB_some hm with ⟨hb, hm⟩ | ⟨hb, hm⟩
              · replace H := H.know 36 hb (by kernel_rfl)
                refine aw_true (x := .tmp 36) (by kernel_rfl) H (fun fr => by kernel_rfl) ?_
                refine aw_seq (by kernel_rfl) ?_
                refine aw_reg (id := 13) (n := 4) [(0, []), (1, []), (2, []), (3, [])] (by kernel_rfl) (by kernel_rfl) ?_
                refine at_seg [(0, []), (1, []), (2, []), (3, [])] [(2, .slice none 0), (3, .int .i64 x8), (4, .int .i64 (11 : Int))] H (noU_all rfl) (fun fr => by kernel_rfl) ?_
                intro fr H
                refine at_nil ?_
                show AW cfg 42 g (right (left (right (right (right (right (right (left (right (left (left (left (right (left (left (right (left (right (right (right (left (right (bodyC cfg.P 42))))))))))))))))))))))) fr h1 _
                refine aw_ret (by kernel_rfl) ?_
                exact Or.inr (Or.inl ⟨(⟨none, 0⟩ : Sl), x8, (11 : Int), rfl, Option.some.inj hm, rfl, H.less _ (fun fr => by kernel_rfl)⟩)
              · replace H := H.know 36 hb (by kernel_rfl)
                refine aw_false (x := .tmp 36) (by kernel_rfl) H (fun fr => by kernel_rfl) ?_
                refine aw_skip (by kernel_rfl) ?_
                show AW cfg 42 g (right (left (left (right (left (left (right (left (right (right (right (left (right (bodyC cfg.P 42)))))))))))))) fr h1 _
                refine aw_seq (by kernel_rfl) ?_
                refine aw_reg (id := 14) (n := 5) [(0, []), (1, []), (2, []), (3, []), (4, [])] (by kernel_rfl) (by kernel_rfl) ?_
                refine at_seg [(0, []), (1, []), (2, [])] [(0, .str p0), (5, .slice x7.r x7.n), (6, .int .i64 x8), (43, .str p0), (45, .int .i64 (IntKind.i64.wrap (x8 + (1 : Int))))] H (noU_all rfl) (fun fr => by kernel_rfl) ?_
                intro fr H
                obtain ⟨x17, hx, hm⟩ := bind_some hm
                refine at_step (v := .int .u8 x17) (h1 := h1) [(0, .str p0), (5, .slice x7.r x7.n), (6, .int .i64 x8), (46, .int .u8 x17)] H (fun fr => by kernel_rfl) (fun fr => .of (s_ixS (by kernel_rfl) hx)) ?_
                intro fr t H
                refine at_seg [(4, [])] [(0, .str p0), (5, .slice x7.r x7.n), (6, .int .i64 x8), (8, .int .u8 x17)] H (noU_all rfl) (fun fr => by kernel_rfl) ?_
                intro fr H
                refine at_nil ?_
                show AW cfg 42 g (right (right (left (left (right (left (left (right (left (right (right (right (left (right (bodyC cfg.P 42))))))))))))))) fr h1 _
                refine aw_seq (by kernel_rfl) ?_
                refine aw_reg (id := 15) (n := 8) [(0, []), (1, []), (2, []), (3, []), (4, []), (5, []), (6, []), (7, [])] (by kernel_rfl) (by kernel_rfl) ?_
                refine at_seg [(0, [])] [(0, .str p0), (5, .slice x7.r x7.n), (6, .int .i64 x8), (8, .int .u8 x17), (48, .int .u8 x17)] H (noU_all rfl) (fun fr => by kernel_rfl) ?_
                intro fr H
                obtain ⟨⟨⟨x18, x19⟩, h5⟩, hx, hm⟩ := bind_some hm
                refine at_step (v := .tuple [.agg x18, .bool x19]) (h1 := h5) [(0, .str p0), (5, .slice x7.r x7.n), (6, .int .i64 x8), (8, .int .u8 x17), (49, .tuple [.agg x18, .bool x19])] H (fun fr => by kernel_rfl) (fun fr => Steps.call (by kernel_rfl) (ok_subst_sign hx)) ?_
                intro fr t H
                refine at_seg [(2, []), (3, []), (4, [])] [(0, .str p0), (5, .slice x7.r x7.n), (6, .int .i64 x8), (8, .int .u8 x17), (50, .agg x18), (51, .bool x19)] H (noU_all rfl) (fun fr => by kernel_rfl) ?_
                intro fr H
                obtain ⟨h6, hx, hm⟩ := bind_some hm
                refine at_step (v := .ptr (some (h5.size, 0))) (h1 := h6) [(0, .str p0), (5, .slice x7.r x7.n), (6, .int .i64 x8), (8, .int .u8 x17), (9, .ptr (some (h5.size, 0))), (50, .agg x18), (51, .bool x19)] H (fun fr => by kernel_rfl) (fun fr => .of (s_n' (by kernel_rfl) hx)) ?_
                intro fr t H
                obtain ⟨h7, hx, hm⟩ := bind_some hm
                refine at_step (v := .tuple []) (h1 := h7) [(0, .str p0), (5, .slice x7.r x7.n), (6, .int .i64 x8), (8, .int .u8 x17), (9, .ptr (some (h5.size, 0))), (51, .bool x19)] H (fun fr => by kernel_rfl) (fun fr => .of (s_stG (by kernel_rfl) hx)) ?_
                intro fr t H
                refine at_seg [(7, [])] [(0, .str p0), (5, .slice x7.r x7.n), (6, .int .i64 x8), (8, .int .u8 x17), (9, .ptr (some (h5.size, 0))), (10, .bool x19)] H (noU_all rfl) (fun fr => by kernel_rfl) ?_
                intro fr H
                refine at_nil ?_
                show AW cfg 42 g (right (right (right (left (left (right (left (left (right (left (right (right (right (left (right (bodyC cfg.P 42)))))))))))))))) fr h7 _
                refine aw_seq (by kernel_rfl) ?_
                obtain ⟨o3, ho, hm⟩ := bind_some hm
                refine aw_mono (Q' := fun e fr' h' => (∃ (x20 : Sl), e = .normal ∧ .inl (x20, h') = o3 ∧ h' = h' ∧ Has fr' 76 [(0, .str p0), (5, .slice x20.r x20.n), (6, .int .i64 x8)]) ∨ (∃ (x21 : Sl) (x22 : Int) (x23 : Int), e = .ret ∧ .inr (x21, x22, x23, h') = o3 ∧ h' = h' ∧ Has fr' 76 [(2, .slice x21.r x21.n), (3, .int .i64 x22), (4, .int .i64 x23)]) ∨ False) ?_ ?_
                · replace hm := ho
                  clear ho
                  refine aw_block (id := 3) (by kernel_rfl) ?_
                  refine aw_seq (by kernel_rfl) ?_
                  refine aw_reg (id := 17) (n := 2) [(0, []), (1, [])] (by kernel_rfl) (by kernel_rfl) ?_
                  refine at_seg [(0, []), (1, [])] [(0, .str p0), (5, .slice x7.r x7.n), (6, .int .i64 x8), (8, .int .u8 x17), (9, .ptr (some (h5.size, 0))), (53, .bool x19)] H (noU_all rfl) (fun fr => by kernel_rfl) ?_
                  intro fr H
                  refine at_nil ?_
                  show AW cfg 42 g (right (left (left (right (right (right (left (left (right (left (left (right (left (right (right (right (left (right (bodyC cfg.P 42))))))))))))))))))) fr h7 _
                  rcases iteB_some hm with ⟨hb, hm⟩ | ⟨hb, hm⟩
                  · replace H := H.know 53 hb (by kernel_rfl)
                    refine aw_true (x := .tmp 53) (by kernel_rfl) H (fun fr => by kernel_rfl) ?_
                    refine aw_reg (id := 18) (n := 5) [(0, []), (1, []), (2, []), (3, []), (4, [])] (by kernel_rfl) (by kernel_rfl) ?_
                    refine at_seg [(0, [])] [(0, .str p0), (6, .int .i64 x8), (9, .ptr (some (h5.size, 0))), (55, .slice x7.r x7.n)] H (noU_all rfl) (fun fr => by kernel_rfl) ?_
                    intro fr H
                    obtain ⟨x24, hx, hm⟩ := bind_some hm
                    refine at_step (v := .agg x24) (h1 := h7) [(0, .str p0), (6, .int .i64 x8), (55, .slice x7.r x7.n), (56, .agg x24)] H (fun fr => by kernel_rfl) (fun fr => .of (s_ldA (by kernel_rfl) hx)) ?_
                    intro fr t H
                    obtain ⟨hb, hm⟩ := need_some hm
                    obtain ⟨h8, hx, hm⟩ := bind_some hm
                    refine at_step (v := .slice (some (h7.size, 0)) 1) (h1 := h8) [(0, .str p0), (6, .int .i64 x8), (55, .slice x7.r x7.n), (57, .slice (some (h7.size, 0)) 1)] H (fun fr => by kernel_rfl) (fun fr => .of (s_one (by kernel_rfl) hb hx)) ?_
                    intro fr t H
                    obtain ⟨⟨x25, h9⟩, hx, hm⟩ := bind_some hm
                    refine at_step (v := .slice x25.r x25.n) (h1 := h9) [(0, .str p0), (6, .int .i64 x8), (58, .slice x25.r x25.n)] H (fun fr => by kernel_rfl) (fun fr => .of (s_app (s := x7) (by kernel_rfl) hx)) ?_
                    intro fr t H
                    refine at_seg [(4, [])] [(0, .str p0), (5, .slice x25.r x25.n), (6, .int .i64 x8)] H (noU_all rfl) (fun fr => by kernel_rfl) ?_
                    intro fr H
                    refine at_nil ?_
                    exact Or.inl ⟨x25, rfl, Option.some.inj hm, rfl, H.less _ (fun fr => by kernel_rfl)⟩
                  · replace H := H.know 53 hb (by kernel_rfl)
                    refine aw_false (x := .tmp 53) (by kernel_rfl) H (fun fr => by kernel_rfl) ?_
                    refine aw_seq (by kernel_rfl) ?_
                    refine aw_reg (id := 19) (n := 11) [(0, []), (1, []), (2, []), (3, []), (4, []), (5, []), (6, []), (7, []), (8, []), (9, []), (10, [])] (by kernel_rfl) (by kernel_rfl) ?_
                    refine at_seg [(0, []), (1, []), (2, [])] [(0, .str p0), (5, .slice x7.r x7.n), (6, .int .i64 x8), (8, .int .u8 x17), (62, .bool (x17 == (38 : Int)))] H (noU_all rfl) (fun fr => by kernel_rfl) ?_
                    intro fr H
                    refine at_cut [(3, []), (4, []), (5, [])] (fun fr' h' => h7 = h' ∧ Has fr' 76 [(0, .str p0), (5, .slice x7.r x7.n), (6, .int .i64 x8), (8, .int .u8 x17), (65, .bool ((x17 == (38 : Int)) || (x17 == (92 : Int))))]) ?_ ?_
                    · cases hb : (x17 == (38 : Int) : Bool) with
                      | true =>
                        replace H := H.know 62 hb (by kernel_rfl)
                        refine at_seg [(3, []), (4, []), (5, [])] [(0, .str p0), (5, .slice x7.r x7.n), (6, .int .i64 x8), (8, .int .u8 x17), (65, .bool true)] H (noU_all rfl) (fun fr => by kernel_rfl) ?_
                        intro fr H
                        exact at_nil ⟨rfl, by first | exact H.less _ (fun fr => by rfl) | exact H.less _ (fun fr => by rw [hb]; rfl)⟩
                      | false =>
                        replace H := H.know 62 hb (by kernel_rfl)
                        refine at_seg [(3, []), (4, []), (5, [])] [(0, .str p0), (5, .slice x7.r x7.n), (6, .int .i64 x8), (8, .int .u8 x17), (65, .bool (x17 == (92 : Int)))] H (noU_all rfl) (fun fr => by kernel_rfl) ?_
                        intro fr H
                        exact at_nil ⟨rfl, by first | exact H.less _ (fun fr => by rfl) | exact H.less _ (fun fr => by rw [hb]; rfl)⟩
                    · intro t fr h' hK
                      obtain ⟨e, H⟩ := hK
                      subst e
                      refine at_seg [(6, [])] [(0, .str p0), (5, .slice x7.r x7.n), (6, .int .i64 x8), (8, .int .u8 x17), (66, .bool ((x17 == (38 : Int)) || (x17 == (92 : Int))))] H (noU_all rfl) (fun fr => by kernel_rfl) ?_
                      intro fr H
                      refine at_cut [(7, []), (8, []), (9, [])] (fun fr' h' => h7 = h' ∧ Has fr' 76 [(0, .str p0), (5, .slice x7.r x7.n), (6, .int .i64 x8), (8, .int .u8 x17), (69, .bool (((x17 == (38 : Int)) || (x17 == (92 : Int))) || (x17 == (47 : Int))))]) ?_ ?_
                      · cases hb : ((x17 == (38 : Int)) || (x17 == (92 : Int)) : Bool) with
                        | true =>
                          replace H := H.know 66 hb (by kernel_rfl)
                          refine at_seg [(7, []), (8, []), (9, [])] [(0, .str p0), (5, .slice x7.r x7.n), (6, .int .i64 x8), (8, .int .u8 x17), (69, .bool true)] H (noU_all rfl) (fun fr => by kernel_rfl) ?_
                          intro fr H
                          exact at_nil ⟨rfl, by first | exact H.less _ (fun fr => by rfl) | exact H.less _ (fun fr => by rw [hb]; rfl)⟩
                        | false =>
                          replace H := H.know 66 hb (by kernel_rfl)
                          refine at_seg [(7, []), (8, []), (9, [])] [(0, .str p0), (5, .slice x7.r x7.n), (6, .int .i64 x8), (8, .int .u8 x17), (69, .bool (x17 == (47 : Int)))] H (noU_all rfl) (fun fr => by kernel_rfl) ?_
                          intro fr H
                          exact at_nil ⟨rfl, by first | exact H.less _ (fun fr => by rfl) | exact H.less _ (fun fr => by rw [hb]; rfl)⟩
                      · intro t fr h' hK
                        obtain ⟨e, H⟩ := hK
                        subst e
                        refine at_seg [(10, [])] [(0, .str p0), (5, .slice x7.r x7.n), (6, .int .i64 x8), (8, .int .u8 x17), (59, .bool (((x17 == (38 : Int)) || (x17 == (92 : Int))) || (x17 == (47 : Int))))] H (noU_all rfl) (fun fr => by kernel_rfl) ?_
                        intro fr H
                        refine at_nil ?_
                        show AW cfg 42 g (right (right (right (left (left (right (right (right (left (left (right (left (left (right (left (right (right (right (left (right (bodyC cfg.P 42))))))))))))))))))))) fr h7 _
                        rcases iteB_some hm with ⟨hb, hm⟩ | ⟨hb, hm⟩
                        · replace H := H.know 59 hb (by kernel_rfl)
                          refine aw_true (x := .tmp 59) (by kernel_rfl) H (fun fr => by kernel_rfl) ?_
                          refine aw_reg (id := 20) (n := 4) [(0, []), (1, []), (2, []), (3, [])] (by kernel_rfl) (by kernel_rfl) ?_
                          refine at_seg [(0, []), (1, [])] [(0, .str p0), (6, .int .i64 x8), (70, .slice x7.r x7.n), (71, .int .u8 x17)] H (noU_all rfl) (fun fr => by kernel_rfl) ?_
                          intro fr H
                          obtain ⟨⟨x26, h10⟩, hx, hm⟩ := bind_some hm
                          refine at_step (v := .slice x26.r x26.n) (h1 := h10) [(0, .str p0), (6, .int .i64 x8), (72, .slice x26.r x26.n)] H (fun fr => by kernel_rfl) (fun fr => Steps.call (by kernel_rfl) (ok_subst_put hx)) ?_
                          intro fr t H
                          refine at_seg [(3, [])] [(0, .str p0), (5, .slice x26.r x26.n), (6, .int .i64 x8)] H (noU_all rfl) (fun fr => by kernel_rfl) ?_
                          intro fr H
                          refine at_nil ?_
                          exact Or.inl ⟨x26, rfl, Option.some.inj hm, rfl, H.less _ (fun fr => by kernel_rfl)⟩
                        · replace H := H.know 59 hb (by kernel_rfl)
                          refine aw_false (x := .tmp 59) (by kernel_rfl) H (fun fr => by kernel_rfl) ?_
                          refine aw_seq (by kernel_rfl) ?_
                          refine aw_reg (id := 16) (n := 4) [(0, []), (1, []), (2, []), (3, [])] (by kernel_rfl) (by kernel_rfl) ?_
                          refine at_seg [(0, []), (1, []), (2, []), (3, [])] [(2, .slice none 0), (3, .int .i64 x8), (4, .int .i64 (11 : Int))] H (noU_all rfl) (fun fr => by kernel_rfl) ?_
                          intro fr H
                          refine at_nil ?_
                          show AW cfg 42 g (right (right (right (right (right (left (left (right (right (right (left (left (right (left (left (right (left (right (right (right (left (right (bodyC cfg.P 42))))))))))))))))))))))) fr h7 _
                          refine aw_ret (by kernel_rfl) ?_
                          exact Or.inr (Or.inl ⟨(⟨none, 0⟩ : Sl), x8, (11 : Int), rfl, Option.some.inj hm, rfl, H.less _ (fun fr => by kernel_rfl)⟩)
                · clear ho
                  intro e fr h11 hQ
                  rcases hQ with ⟨x20, rfl, rfl, _, H⟩ | ⟨x21, x22, x23, rfl, rfl, _, H⟩ | hF
                  · skip
                    show AW cfg 42 g (right (right (right (right (left (left (right (left (left (right (left (right (right (right (left (right (bodyC cfg.P 42))))))))))))))))) fr h11 _
                    refine aw_reg (id := 21) (n := 3) [(0, []), (1, []), (2, [])] (by kernel_rfl) (by kernel_rfl) ?_
                    refine at_seg [(0, []), (1, []), (2, [])] [(0, .str p0), (5, .slice x20.r x20.n), (6, .int .i64 (IntKind.i64.wrap (x8 + (1 : Int))))] H (noU_all rfl) (fun fr => by kernel_rfl) ?_
                    intro fr H
                    refine at_nil ?_
                    exact Or.inl ⟨x20, IntKind.i64.wrap (x8 + (1 : Int)), rfl, Option.some.inj hm, rfl, H.less _ (fun fr => by kernel_rfl)⟩
                  · skip
                    exact Or.inr (Or.inl ⟨x21, x22, x23, rfl, Option.some.inj hm, rfl, H.less _ (fun fr => by kernel_rfl)⟩)
                  · exact hF.elim
        · clear ho
          intro e fr h12 hQ
          rcases hQ with ⟨x9, x10, rfl, rfl, _, H⟩ | ⟨x11, x12, x13, rfl, rfl, _, H⟩ | hF
          · skip
            show AW cfg 42 g (right (right (left (left (right (left (right (right (right (left (right (bodyC cfg.P 42)))))))))))) fr h12 _
            refine aw_reg (id := 6) (n := 3) [(0, []), (1, []), (2, [])] (by kernel_rfl) (by kernel_rfl) ?_
            refine at_seg [(0, []), (1, []), (2, [])] [(0, .str p0), (5, .slice x9.r x9.n), (6, .int .i64 (IntKind.i64.wrap (x10 + (1 : Int))))] H (noU_all rfl) (fun fr => by kernel_rfl) ?_
            intro fr H
            refine at_nil ?_
            exact Exists.intro (x9, IntKind.i64.wrap (x10 + (1 : Int)), h12) (And.intro (Option.some.inj hm).symm ⟨x9, IntKind.i64.wrap (x10 + (1 : Int)), rfl, rfl, H.less _ (fun fr => by kernel_rfl)⟩)
          · skip
            exact Exists.intro _ (And.intro (Option.some.inj hm).symm (fun e => Or.inr (Or.inl ⟨x11, x12, x13, rfl, e, rfl, H.less _ (fun fr => by kernel_rfl)⟩)))
          · exact hF.elim
      · replace H := H.know 17 hb (by kernel_rfl)
        refine aw_false (x := .tmp 17) (by kernel_rfl) H (fun fr => by kernel_rfl) ?_
        refine aw_exit (i := 0) (by kernel_rfl) ?_
        exact Exists.intro _ (And.intro (Option.some.inj hm).symm (fun e => Or.inl ⟨x7, rfl, e, rfl, H.less _ (fun fr => by kernel_rfl)⟩))
    · clear ho
      intro e fr h13 hQ
      rcases hQ with ⟨x3, rfl, rfl, _, H⟩ | ⟨x4, x5, x6, rfl, rfl, _, H⟩ | hF
      · skip
        show AW cfg 42 g (right (right (right (right (left (right (bodyC cfg.P 42))))))) fr h13 _
        refine aw_seq (by kernel_rfl) ?_
        refine aw_reg (id := 22) (n := 4) [(0, []), (1, []), (2, []), (3, [])] (by kernel_rfl) (by kernel_rfl) ?_
        refine at_seg [(0, []), (1, []), (2, []), (3, [])] [(2, .slice x3.r x3.n), (3, .int .i64 (0 : Int)), (4, .int .i64 (0 : Int))] H (noU_all rfl) (fun fr => by kernel_rfl) ?_
        intro fr H
        refine at_nil ?_
        show AW cfg 42 g (right (right (right (right (right (left (right (bodyC cfg.P 42)))))))) fr h13 _
        refine aw_ret (by kernel_rfl) ?_
        obtain ⟨e1, e2⟩ := inj2 hm
        subst e2
        obtain ⟨u0, v0⟩ := Prod.mk.inj e1
        obtain ⟨u1, v1⟩ := Prod.mk.inj v0
        subst u0
        subst u1
        subst v1
        exact (done_ret H (fun fr => by kernel_rfl) rfl : doneQ cfg.P _ _ _ _ fr _)
      · skip
        obtain ⟨e1, e2⟩ := inj2 hm
        subst e2
        obtain ⟨u0, v0⟩ := Prod.mk.inj e1
        obtain ⟨u1, v1⟩ := Prod.mk.inj v0
        subst u0
        subst u1
        subst v1
        exact (done_ret H (fun fr => by kernel_rfl) rfl : doneQ cfg.P _ _ _ _ fr _)
      · exact hF.elim
/-! ### boulter/subst.Highest -/
noncomputable def M_subst_Highest_L0 (h : AHeap) (p0 : Sl) (s : Int × Int × AHeap) : Option ((Int × Int × AHeap) ⊕ ((Int × AHeap))) :=
  match s with
  | (x4, x5, h1) => iteB (decide (x5 < ((p0.n : Nat) : Int))) (((ixL p0 3 x5).bind fun a1 => (ldA h1 (a1.1, a1.2) 3).bind fun x7 => (some (h1.push (.cells none 2 [.int .i64 (0 : Int), .int .i64 (0 : Int), .str ([] : List UInt8)]))).bind fun h2 => (stG 3 (⟨h.size, []⟩ : Gd) h2 (h1.size, 0) x7).bind fun h3 => (ldI h3 (h1.size, 0) .i64).bind fun x8 => iteB (x8 == (1 : Int)) ((ldI h3 (h1.size, 1) .i64).bind fun x9 => some (mx x4 x9, h3)) (some (x4, h3)) : Option ((Int × AHeap))).bind fun (x6, h4) => some (.inl (x6, IntKind.i64.wrap (x5 + (1 : Int)), h4))) (some (.inr (x4, h1)))
noncomputable def M_subst_Highest (h : AHeap) (p0 : Sl) : Option (Int) :=
 (loop (M_subst_Highest_L0 h p0) ((0 : Int), (0 : Int), h)).bind fun (x3, h5) => some x3
theorem ok_subst_Highest {g : Gd} {h : AHeap} {p0 : Sl} {r0 : Int} (hm : M_subst_Highest h p0 = some r0) : Runs cfg g h 44 [.slice p0.r p0.n] (.int .i64 r0) h := by
  refine runs2E (by kernel_rfl) (by kernel_rfl) (body_ofE (n := 21) (rs := [.tmp 2]) (by kernel_rfl) ?_)
  unfold M_subst_Highest at hm
  refine start (n := 21) [(0, .slice p0.r p0.n)] (by kernel_rfl) (by kernel_rfl) ?_
  intro fr H
  refine aw_seq (by kernel_rfl) ?_
  refine aw_reg (id := 0) (n := 1) [(0, [])] (by kernel_rfl) (by kernel_rfl) ?_
  refine at_seg [(0, [])] [(0, .slice p0.r p0.n)] H (noU_all rfl) (fun fr => by kernel_rfl) ?_
  intro fr H
  refine at_nil ?_
  show AW cfg 44 (⟨h.size, []⟩ : Gd) (right (bodyC cfg.P 44)) fr h _
  refine aw_seq (by kernel_rfl) ?_
  refine aw_reg (id := 1) (n := 1) [(0, [])] (by kernel_rfl) (by kernel_rfl) ?_
  refine at_seg [(0, [])] [(0, .slice p0.r p0.n), (3, .int .i64 (0 : Int))] H (noU_all rfl) (fun fr => by kernel_rfl) ?_
  intro fr H
  refine at_nil ?_
  show AW cfg 44 (⟨h.size, []⟩ : Gd) (right (right (bodyC cfg.P 44))) fr h _
  refine aw_seq (by kernel_rfl) ?_
  refine aw_seq (by kernel_rfl) ?_
  refine aw_reg (id := 2) (n := 3) [(0, []), (1, []), (2, [])] (by kernel_rfl) (by kernel_rfl) ?_
  refine at_seg [(0, []), (1, []), (2, [])] [(3, .int .i64 (0 : Int)), (6, .slice p0.r p0.n), (7, .int .i64 ((p0.n : Nat) : Int)), (8, .int .i64 (0 : Int))] H (noU_all rfl) (fun fr => by kernel_rfl) ?_
  intro fr H
  refine at_nil ?_
  show AW cfg 44 (⟨h.size, []⟩ : Gd) (right (left (right (right (bodyC cfg.P 44))))) fr h _
  refine aw_block (id := 0) (by kernel_rfl) ?_
  obtain ⟨o1, ho, hm⟩ := bind_some hm
  refine aw_mono (Q' := fun e fr' h' => (∃ (x3 : Int), e = .exit 0 ∧ (x3, h') = o1 ∧ h' = h' ∧ Has fr' 21 [(3, .int .i64 x3)]) ∨ False) ?_ ?_
  · refine aw_loop (by kernel_rfl) (fun (s : Int × Int × AHeap) fr' h' => ∃ (x4 : Int) (x5 : Int), (x4, x5, h') = s ∧ h' = h' ∧ Has fr' 21 [(3, .int .i64 x4), (6, .slice p0.r p0.n), (7, .int .i64 ((p0.n : Nat) : Int)), (8, .int .i64 x5)]) ho ⟨(0 : Int), (0 : Int), rfl, rfl, H.less _ (fun fr => by kernel_rfl)⟩ ?_
    clear ho hm H
    intro s q fr h1 hI hm
    obtain ⟨x4, x5, rfl, _, H⟩ := hI
    unfold M_subst_Highest_L0 at hm
    refine aw_seq (by kernel_rfl) ?_
    refine aw_reg (id := 3) (n := 1) [(0, [])] (by kernel_rfl) (by kernel_rfl) ?_
    refine at_seg [(0, [])] [(3, .int .i64 x4), (6, .slice p0.r p0.n), (7, .int .i64 ((p0.n : Nat) : Int)), (8, .int .i64 x5), (9, .bool (decide (x5 < ((p0.n : Nat) : Int))))] H (noU_all rfl) (fun fr => by kernel_rfl) ?_
    intro fr H
    refine at_nil ?_
    show AW cfg 44 (⟨h.size, []⟩ : Gd) (right (left (left (right (left (right (right (bodyC cfg.P 44)))))))) fr h1 _
    refine aw_seq (by kernel_rfl) ?_
    rcases iteB_some hm with ⟨hb, hm⟩ | ⟨hb, hm⟩
    · replace H := H.know 9 hb (by kernel_rfl)
      refine aw_true (x := .tmp 9) (by kernel_rfl) H (fun fr => by kernel_rfl) ?_
      refine aw_skip (by kernel_rfl) ?_
      show AW cfg 44 (⟨h.size, []⟩ : Gd) (right (right (left (left (right (left (right (right (bodyC cfg.P 44))))))))) fr h1 _
      refine aw_seq (by kernel_rfl) ?_
      obtain ⟨o2, ho, hm⟩ := bind_some hm
      refine aw_mono (Q' := fun e fr' h' => (∃ (x6 : Int), e = .normal ∧ (x6, h') = o2 ∧ h' = h' ∧ Has fr' 21 [(3, .int .i64 x6), (6, .slice p0.r p0.n), (7, .int .i64 ((p0.n : Nat) : Int)), (8, .int .i64 x5)]) ∨ False) ?_ ?_
      · replace hm := ho
        clear ho
        refine aw_block (id := 1) (by kernel_rfl) ?_
        refine aw_seq (by kernel_rfl) ?_
        refine aw_reg (id := 4) (n := 4) [(0, []), (1, []), (2, []), (3, [])] (by kernel_rfl) (by kernel_rfl) ?_
        obtain ⟨a1, hx, hm⟩ := bind_some hm
        refine at_step (v := .ptr (some a1)) (h1 := h1) [(3, .int .i64 x4), (6, .slice p0.r p0.n), (7, .int .i64 ((p0.n : Nat) : Int)), (8, .int .i64 x5), (10, .ptr (some (a1.1, a1.2)))] H (fun fr => by kernel_rfl) (fun fr => .of (s_ixL (s := p0) (by kernel_rfl) hx)) ?_
        intro fr t H
        obtain ⟨x7, hx, hm⟩ := bind_some hm
        refine at_step (v := .agg x7) (h1 := h1) [(3, .int .i64 x4), (6, .slice p0.r p0.n), (7, .int .i64 ((p0.n : Nat) : Int)), (8, .int .i64 x5), (11, .agg x7)] H (fun fr => by kernel_rfl) (fun fr => .of (s_ldA (by kernel_rfl) hx)) ?_
        intro fr t H
        obtain ⟨h2, hx, hm⟩ := bind_some hm
        refine at_step (v := .ptr (some (h1.size, 0))) (h1 := h2) [(3, .int .i64 x4), (5, .ptr (some (h1.size, 0))), (6, .slice p0.r p0.n), (7, .int .i64 ((p0.n : Nat) : Int)), (8, .int .i64 x5), (11, .agg x7)] H (fun fr => by kernel_rfl) (fun fr => .of (s_n' (by kernel_rfl) hx)) ?_
        intro fr t H
        obtain ⟨h3, hx, hm⟩ := bind_some hm
        refine at_step (v := .tuple []) (h1 := h3) [(3, .int .i64 x4), (5, .ptr (some (h1.size, 0))), (6, .slice p0.r p0.n), (7, .int .i64 ((p0.n : Nat) : Int)), (8, .int .i64 x5)] H (fun fr => by kernel_rfl) (fun fr => .of (s_stG (by kernel_rfl) hx)) ?_
        intro fr t H
        refine at_nil ?_
        show AW cfg 44 (⟨h.size, []⟩ : Gd) (right (left (left (right (right (left (left (right (left (right (right (bodyC cfg.P 44)))))))))))) fr h3 _
        refine aw_seq (by kernel_rfl) ?_
        refine aw_reg (id := 5) (n := 3) [(0, []), (1, []), (2, [])] (by kernel_rfl) (by kernel_rfl) ?_
        refine at_seg [(0, [])] [(3, .int .i64 x4), (5, .ptr (some (h1.size, 0))), (6, .slice p0.r p0.n), (7, .int .i64 ((p0.n : Nat) : Int)), (8, .int .i64 x5), (12, .ptr (some (h1.size, 0)))] H (noU_all rfl) (fun fr => by kernel_rfl) ?_
        intro fr H
        obtain ⟨x8, hx, hm⟩ := bind_some hm
        refine at_step (v := .int .i64 x8) (h1 := h3) [(3, .int .i64 x4), (5, .ptr (some (h1.size, 0))), (6, .slice p0.r p0.n), (7, .int .i64 ((p0.n : Nat) : Int)), (8, .int .i64 x5), (13, .int .i64 x8)] H (fun fr => by kernel_rfl) (fun fr => .of (s_ld (by kernel_rfl) (ldI_eq hx))) ?_
        intro fr t H
        refine at_seg [(2, [])] [(3, .int .i64 x4), (5, .ptr (some (h1.size, 0))), (6, .slice p0.r p0.n), (7, .int .i64 ((p0.n : Nat) : Int)), (8, .int .i64 x5), (14, .bool (x8 == (1 : Int)))] H (noU_all rfl) (fun fr => by kernel_rfl) ?_
        intro fr H
        refine at_nil ?_
        show AW cfg 44 (⟨h.size, []⟩ : Gd) (right (right (left (left (right (right (left (left (right (left (right (right (bodyC cfg.P 44))))))))))))) fr h3 _
        rcases iteB_some hm with ⟨hb, hm⟩ | ⟨hb, hm⟩
        · replace H := H.know 14 hb (by kernel_rfl)
          refine aw_true (x := .tmp 14) (by kernel_rfl) H (fun fr => by kernel_rfl) ?_
          refine aw_reg (id := 6) (n := 5) [(0, []), (1, []), (2, []), (3, []), (4, [])] (by kernel_rfl) (by kernel_rfl) ?_
          refine at_seg [(0, []), (1, [])] [(6, .slice p0.r p0.n), (7, .int .i64 ((p0.n : Nat) : Int)), (8, .int .i64 x5), (15, .int .i64 x4), (16, .ptr (some (h1.size, 1)))] H (noU_all rfl) (fun fr => by kernel_rfl) ?_
          intro fr H
          obtain ⟨x9, hx, hm⟩ := bind_some hm
          refine at_step (v := .int .i64 x9) (h1 := h3) [(6, .slice p0.r p0.n), (7, .int .i64 ((p0.n : Nat) : Int)), (8, .int .i64 x5), (15, .int .i64 x4), (17, .int .i64 x9)] H (fun fr => by kernel_rfl) (fun fr => .of (s_ld (by kernel_rfl) (ldI_eq hx))) ?_
          intro fr t H
          refine at_seg [(3, []), (4, [])] [(3, .int .i64 (mx x4 x9)), (6, .slice p0.r p0.n), (7, .int .i64 ((p0.n : Nat) : Int)), (8, .int .i64 x5)] H (noU_all rfl) (fun fr => by kernel_rfl) ?_
          intro fr H
          refine at_nil ?_
          exact Or.inl ⟨mx x4 x9, rfl, Option.some.inj hm, rfl, H.less _ (fun fr => by kernel_rfl)⟩
        · replace H := H.know 14 hb (by kernel_rfl)
          refine aw_false (x := .tmp 14) (by kernel_rfl) H (fun fr => by kernel_rfl) ?_
          refine aw_skip (by kernel_rfl) ?_
          exact Or.inl ⟨x4, rfl, Option.some.inj hm, rfl, H.less _ (fun fr => by kernel_rfl)⟩
      · clear ho
        intro e fr h4 hQ
        rcases hQ with ⟨x6, rfl, rfl, _, H⟩ | hF
        · skip
          show AW cfg 44 (⟨h.size, []⟩ : Gd) (right (right (right (left (left (right (left (right (right (bodyC cfg.P 44)))))))))) fr h4 _
          refine aw_reg (id := 7) (n := 2) [(0, []), (1, [])] (by kernel_rfl) (by kernel_rfl) ?_
          refine at_seg [(0, []), (1, [])] [(3, .int .i64 x6), (6, .slice p0.r p0.n), (7, .int .i64 ((p0.n : Nat) : Int)), (8, .int .i64 (IntKind.i64.wrap (x5 + (1 : Int))))] H (noU_all rfl) (fun fr => by kernel_rfl) ?_
          intro fr H
          refine at_nil ?_
          exact Exists.intro (x6, IntKind.i64.wrap (x5 + (1 : Int)), h4) (And.intro (Option.some.inj hm).symm ⟨x6, IntKind.i64.wrap (x5 + (1 : Int)), rfl, rfl, H.less _ (fun fr => by kernel_rfl)⟩)
        · exact hF.elim
    · replace H := H.know 9 hb (by kernel_rfl)
      refine aw_false (x := .tmp 9) (by kernel_rfl) H (fun fr => by kernel_rfl) ?_
      refine aw_exit (i := 0) (by kernel_rfl) ?_
      exact Exists.intro _ (And.intro (Option.some.inj hm).symm (fun e => Or.inl ⟨x4, rfl, e, rfl, H.less _ (fun fr => by kernel_rfl)⟩))
  · clear ho
    intro e fr h5 hQ
    rcases hQ with ⟨x3, rfl, rfl, _, H⟩ | hF
    · skip
      show AW cfg 44 (⟨h.size, []⟩ : Gd) (right (right (right (bodyC cfg.P 44)))) fr h5 _
      refine aw_seq (by kernel_rfl) ?_
      refine aw_reg (id := 8) (n := 2) [(0, []), (1, [])] (by kernel_rfl) (by kernel_rfl) ?_
      refine at_seg [(0, []), (1, [])] [(2, .int .i64 x3)] H (noU_all rfl) (fun fr => by kernel_rfl) ?_
      intro fr H
      refine at_nil ?_
      show AW cfg 44 (⟨h.size, []⟩ : Gd) (right (right (right (right (bodyC cfg.P 44))))) fr h5 _
      refine aw_ret (by kernel_rfl) ?_
      have e1 := Option.some.inj hm
      subst e1
      exact (doneE_of .ret H (fun fr => by kernel_rfl) (.inl rfl) : doneE cfg.P _ _ _ fr _)
    · exact hF.elim
/-! ### boulter/subst.Quote -/
noncomputable def M_subst_Quote_L0 (h : AHeap) (p0 : List UInt8) (s : Sl × Int × AHeap) : Option ((Sl × Int × AHeap) ⊕ ((Sl × AHeap))) :=
  match s with
  | (x4, x5, h1) => iteB (decide (x5 < (p0.length : Int))) (((ixS p0 x5).bind fun x7 => (iteB (x7 == (38 : Int)) (some true) ((ixS p0 x5).bind fun x9 => some (x9 == (92 : Int))) : Option (Bool)).bind fun x8 => iteB x8 ((some (h1.push (.cells (some 5) 2 [.int .u8 (92 : Int)]))).bind fun h2 => (app 5 1 1 (⟨h.size, []⟩ : Gd) h2 x4 1 (.slice (some (h1.size, 0)) 1)).bind fun (x10, h3) => some (x10, h3)) (some (x4, h1)) : Option ((Sl × AHeap))).bind fun (x6, h4) => (ixS p0 x5).bind fun x11 => (some (h4.push (.cells (some 5) 2 [.int .u8 x11]))).bind fun h5 => (app 5 1 1 (⟨h.size, []⟩ : Gd) h5 x6 1 (.slice (some (h4.size, 0)) 1)).bind fun (x12, h6) => some (.inl (x12, IntKind.i64.wrap (x5 + (1 : Int)), h6))) (some (.inr (x4, h1)))
noncomputable def M_subst_Quote (h : AHeap) (p0 : List UInt8) : Option ((List UInt8)) :=
 (loop (M_subst_Quote_L0 h p0) ((⟨none, 0⟩ : Sl), (0 : Int), h)).bind fun (x3, h7) => (byL h7 x3).bind fun x13 => some x13
theorem ok_subst_Quote {g : Gd} {h : AHeap} {p0 : List UInt8} {r0 : List UInt8} (hm : M_subst_Quote h p0 = some r0) : Runs cfg g h 45 [.str p0] (.str r0) h := by
  refine runs2E (by kernel_rfl) (by kernel_rfl) (body_ofE (n := 32) (rs := [.tmp 2]) (by kernel_rfl) ?_)
  unfold M_subst_Quote at hm
  refine start (n := 32) [(0, .str p0)] (by kernel_rfl) (by kernel_rfl) ?_
  intro fr H
  refine aw_seq (by kernel_rfl) ?_
  refine aw_reg (id := 0) (n := 1) [(0, [])] (by kernel_rfl) (by kernel_rfl) ?_
  refine at_seg [(0, [])] [(0, .str p0)] H (noU_all rfl) (fun fr => by kernel_rfl) ?_
  intro fr H
  refine at_nil ?_
  show AW cfg 45 (⟨h.size, []⟩ : Gd) (right (bodyC cfg.P 45)) fr h _
  refine aw_seq (by kernel_rfl) ?_
  refine aw_reg (id := 1) (n := 1) [(0, [])] (by kernel_rfl) (by kernel_rfl) ?_
  refine at_seg [(0, [])] [(0, .str p0), (3, .slice none 0)] H (noU_all rfl) (fun fr => by kernel_rfl) ?_
  intro fr H
  refine at_nil ?_
  show AW cfg 45 (⟨h.size, []⟩ : Gd) (right (right (bodyC cfg.P 45))) fr h _
  refine aw_seq (by kernel_rfl) ?_
  refine aw_seq (by kernel_rfl) ?_
  refine aw_reg (id := 2) (n := 3) [(0, []), (1, []), (2, [])] (by kernel_rfl) (by kernel_rfl) ?_
  refine at_seg [(0, []), (1, []), (2, [])] [(0, .str p0), (3, .slice none 0), (6, .int .i64 (p0.length : Int)), (7, .int .i64 (0 : Int))] H (noU_all rfl) (fun fr => by kernel_rfl) ?_
  intro fr H
  refine at_nil ?_
  show AW cfg 45 (⟨h.size, []⟩ : Gd) (right (left (right (right (bodyC cfg.P 45))))) fr h _
  refine aw_block (id := 0) (by kernel_rfl) ?_
  obtain ⟨o1, ho, hm⟩ := bind_some hm
  refine aw_mono (Q' := fun e fr' h' => (∃ (x3 : Sl), e = .exit 0 ∧ (x3, h') = o1 ∧ h' = h' ∧ Has fr' 32 [(3, .slice x3.r x3.n)]) ∨ False) ?_ ?_
  · refine aw_loop (by kernel_rfl) (fun (s : Sl × Int × AHeap) fr' h' => ∃ (x4 : Sl) (x5 : Int), (x4, x5, h') = s ∧ h' = h' ∧ Has fr' 32 [(0, .str p0), (3, .slice x4.r x4.n), (6, .int .i64 (p0.length : Int)), (7, .int .i64 x5)]) ho ⟨(⟨none, 0⟩ : Sl), (0 : Int), rfl, rfl, H.less _ (fun fr => by kernel_rfl)⟩ ?_
    clear ho hm H
    intro s q fr h1 hI hm
    obtain ⟨x4, x5, rfl, _, H⟩ := hI
    unfold M_subst_Quote_L0 at hm
    refine aw_seq (by kernel_rfl) ?_
    refine aw_reg (id := 3) (n := 1) [(0, [])] (by kernel_rfl) (by kernel_rfl) ?_
    refine at_seg [(0, [])] [(0, .str p0), (3, .slice x4.r x4.n), (6, .int .i64 (p0.length : Int)), (7, .int .i64 x5), (8, .bool (decide (x5 < (p0.length : Int))))] H (noU_all rfl) (fun fr => by kernel_rfl) ?_
    intro fr H
    refine at_nil ?_
    show AW cfg 45 (⟨h.size, []⟩ : Gd) (right (left (left (right (left (right (right (bodyC cfg.P 45)))))))) fr h1 _
    refine aw_seq (by kernel_rfl) ?_
    rcases iteB_some hm with ⟨hb, hm⟩ | ⟨hb, hm⟩
    · replace H := H.know 8 hb (by kernel_rfl)
      refine aw_true (x := .tmp 8) (by kernel_rfl) H (fun fr => by kernel_rfl) ?_
      refine aw_skip (by kernel_rfl) ?_
      show AW cfg 45 (⟨h.size, []⟩ : Gd) (right (right (left (left (right (left (right (right (bodyC cfg.P 45))))))))) fr h1 _
      refine aw_seq (by kernel_rfl) ?_
      refine aw_block (id := 1) (by kernel_rfl) ?_
      refine aw_seq (by kernel_rfl) ?_
      refine aw_reg (id := 4) (n := 2) [(0, []), (1, [])] (by kernel_rfl) (by kernel_rfl) ?_
      refine at_seg [(0, []), (1, [])] [(0, .str p0), (3, .slice x4.r x4.n), (4, .int .i64 x5), (6, .int .i64 (p0.length : Int)), (7, .int .i64 x5)] H (noU_all rfl) (fun fr => by kernel_rfl) ?_
      intro fr H
      refine at_nil ?_
      show AW cfg 45 (⟨h.size, []⟩ : Gd) (right (left (left (right (right (left (left (right (left (right (right (bodyC cfg.P 45)))))))))))) fr h1 _
      refine aw_seq (by kernel_rfl) ?_
      obtain ⟨o2, ho, hm⟩ := bind_some hm
      refine aw_mono (Q' := fun e fr' h' => (∃ (x6 : Sl), e = .normal ∧ (x6, h') = o2 ∧ h' = h' ∧ Has fr' 32 [(0, .str p0), (3, .slice x6.r x6.n), (4, .int .i64 x5), (6, .int .i64 (p0.length : Int)), (7, .int .i64 x5)]) ∨ False) ?_ ?_
      · replace hm := ho
        clear ho
        refine aw_seq (by kernel_rfl) ?_
        refine aw_reg (id := 5) (n := 10) [(0, []), (1, []), (2, []), (3, []), (4, []), (5, []), (6, []), (7, []), (8, []), (9, [])] (by kernel_rfl) (by kernel_rfl) ?_
        refine at_seg [(0, []), (1, [])] [(0, .str p0), (3, .slice x4.r x4.n), (4, .int .i64 x5), (6, .int .i64 (p0.length : Int)), (7, .int .i64 x5), (10, .str p0), (11, .int .i64 x5)] H (noU_all rfl) (fun fr => by kernel_rfl) ?_
        intro fr H
        obtain ⟨x7, hx, hm⟩ := bind_some hm
        refine at_step (v := .int .u8 x7) (h1 := h1) [(0, .str p0), (3, .slice x4.r x4.n), (4, .int .i64 x5), (6, .int .i64 (p0.length : Int)), (7, .int .i64 x5), (12, .int .u8 x7)] H (fun fr => by kernel_rfl) (fun fr => .of (s_ixS (by kernel_rfl) hx)) ?_
        intro fr t H
        refine at_seg [(3, []), (4, [])] [(0, .str p0), (3, .slice x4.r x4.n), (4, .int .i64 x5), (6, .int .i64 (p0.length : Int)), (7, .int .i64 x5), (14, .bool (x7 == (38 : Int)))] H (noU_all rfl) (fun fr => by kernel_rfl) ?_
        intro fr H
        obtain ⟨x8, ho, hm⟩ := bind_some hm
        refine at_cut [(5, []), (6, []), (7, []), (8, []), (9, [])] (fun fr' h' => h1 = h' ∧ Has fr' 32 [(0, .str p0), (3, .slice x4.r x4.n), (4, .int .i64 x5), (6, .int .i64 (p0.length : Int)), (7, .int .i64 x5), (19, .bool x8)]) ?_ ?_
        · rcases iteB_some ho with ⟨hb, hm⟩ | ⟨hb, hm⟩
          · replace H := H.know 14 hb (by kernel_rfl)
            refine at_seg [(5, []), (6, []), (7, []), (8, []), (9, [])] [(0, .str p0), (3, .slice x4.r x4.n), (4, .int .i64 x5), (6, .int .i64 (p0.length : Int)), (7, .int .i64 x5), (19, .bool true)] H (noU_all rfl) (fun fr => by kernel_rfl) ?_
            intro fr H
            have e1 := Option.some.inj hm
            subst e1
            exact at_nil ⟨rfl, H.less _ (fun fr => by kernel_rfl)⟩
          · replace H := H.know 14 hb (by kernel_rfl)
            refine at_seg [(5, []), (6, [])] [(0, .str p0), (3, .slice x4.r x4.n), (4, .int .i64 x5), (6, .int .i64 (p0.length : Int)), (7, .int .i64 x5), (14, .bool false), (15, .str p0), (16, .int .i64 x5)] H (noU_all rfl) (fun fr => by kernel_rfl) ?_
            intro fr H
            obtain ⟨x9, hx, hm⟩ := bind_some hm
            refine at_step (v := .int .u8 x9) (h1 := h1) [(0, .str p0), (3, .slice x4.r x4.n), (4, .int .i64 x5), (6, .int .i64 (p0.length : Int)), (7, .int .i64 x5), (14, .bool false), (17, .int .u8 x9)] H (fun fr => by kernel_rfl) (fun fr => .of (s_ixS (by kernel_rfl) hx)) ?_
            intro fr t H
            refine at_seg [(8, []), (9, [])] [(0, .str p0), (3, .slice x4.r x4.n), (4, .int .i64 x5), (6, .int .i64 (p0.length : Int)), (7, .int .i64 x5), (19, .bool (x9 == (92 : Int)))] H (noU_all rfl) (fun fr => by kernel_rfl) ?_
            intro fr H
            have e1 := Option.some.inj hm
            subst e1
            exact at_nil ⟨rfl, H.less _ (fun fr => by kernel_rfl)⟩
        · intro t fr h' hK
          obtain ⟨e, H⟩ := hK
          subst e
          refine at_nil ?_
          show AW cfg 45 (⟨h.size, []⟩ : Gd) (right (left (right (left (left (right (right (left (left (right (left (right (right (bodyC cfg.P 45)))))))))))))) fr h1 _
          rcases iteB_some hm with ⟨hb, hm⟩ | ⟨hb, hm⟩
          · replace H := H.know 19 hb (by kernel_rfl)
            refine aw_true (x := .tmp 19) (by kernel_rfl) H (fun fr => by kernel_rfl) ?_
            refine aw_reg (id := 6) (n := 4) [(0, []), (1, []), (2, []), (3, [])] (by kernel_rfl) (by kernel_rfl) ?_
            refine at_seg [(0, [])] [(0, .str p0), (4, .int .i64 x5), (6, .int .i64 (p0.length : Int)), (7, .int .i64 x5), (20, .slice x4.r x4.n)] H (noU_all rfl) (fun fr => by kernel_rfl) ?_
            intro fr H
            obtain ⟨h2, hx, hm⟩ := bind_some hm
            refine at_step (v := .slice (some (h1.size, 0)) 1) (h1 := h2) [(0, .str p0), (4, .int .i64 x5), (6, .int .i64 (p0.length : Int)), (7, .int .i64 x5), (20, .slice x4.r x4.n), (21, .slice (some (h1.size, 0)) 1)] H (fun fr => by kernel_rfl) (fun fr => .of (s_n' (by kernel_rfl) hx)) ?_
            intro fr t H
            obtain ⟨⟨x10, h3⟩, hx, hm⟩ := bind_some hm
            refine at_step (v := .slice x10.r x10.n) (h1 := h3) [(0, .str p0), (4, .int .i64 x5), (6, .int .i64 (p0.length : Int)), (7, .int .i64 x5), (22, .slice x10.r x10.n)] H (fun fr => by kernel_rfl) (fun fr => .of (s_app (s := x4) (by kernel_rfl) hx)) ?_
            intro fr t H
            refine at_seg [(3, [])] [(0, .str p0), (3, .slice x10.r x10.n), (4, .int .i64 x5), (6, .int .i64 (p0.length : Int)), (7, .int .i64 x5)] H (noU_all rfl) (fun fr => by kernel_rfl) ?_
            intro fr H
            refine at_nil ?_
            exact Or.inl ⟨x10, rfl, Option.some.inj hm, rfl, H.less _ (fun fr => by kernel_rfl)⟩
          · replace H := H.know 19 hb (by kernel_rfl)
            refine aw_false (x := .tmp 19) (by kernel_rfl) H (fun fr => by kernel_rfl) ?_
            refine aw_skip (by kernel_rfl) ?_
            exact Or.inl ⟨x4, rfl, Option.some.inj hm, rfl, H.less _ (fun fr => by kernel_rfl)⟩
      · clear ho
        intro e fr h4 hQ
        rcases hQ with ⟨x6, rfl, rfl, _, H⟩ | hF
        · skip
          show AW cfg 45 (⟨h.size, []⟩ : Gd) (right (right (left (left (right (right (left (left (right (left (right (right (bodyC cfg.P 45))))))))))))) fr h4 _
          refine aw_reg (id := 7) (n := 7) [(0, []), (1, []), (2, []), (3, []), (4, []), (5, []), (6, [])] (by kernel_rfl) (by kernel_rfl) ?_
          refine at_seg [(0, []), (1, []), (2, [])] [(0, .str p0), (6, .int .i64 (p0.length : Int)), (7, .int .i64 x5), (23, .slice x6.r x6.n), (24, .str p0), (25, .int .i64 x5)] H (noU_all rfl) (fun fr => by kernel_rfl) ?_
          intro fr H
          obtain ⟨x11, hx, hm⟩ := bind_some hm
          refine at_step (v := .int .u8 x11) (h1 := h4) [(0, .str p0), (6, .int .i64 (p0.length : Int)), (7, .int .i64 x5), (23, .slice x6.r x6.n), (26, .int .u8 x11)] H (fun fr => by kernel_rfl) (fun fr => .of (s_ixS (by kernel_rfl) hx)) ?_
          intro fr t H
          obtain ⟨h5, hx, hm⟩ := bind_some hm
          refine at_step (v := .slice (some (h4.size, 0)) 1) (h1 := h5) [(0, .str p0), (6, .int .i64 (p0.length : Int)), (7, .int .i64 x5), (23, .slice x6.r x6.n), (27, .slice (some (h4.size, 0)) 1)] H (fun fr => by kernel_rfl) (fun fr => .of (s_n' (by kernel_rfl) hx)) ?_
          intro fr t H
          obtain ⟨⟨x12, h6⟩, hx, hm⟩ := bind_some hm
          refine at_step (v := .slice x12.r x12.n) (h1 := h6) [(0, .str p0), (6, .int .i64 (p0.length : Int)), (7, .int .i64 x5), (28, .slice x12.r x12.n)] H (fun fr => by kernel_rfl) (fun fr => .of (s_app (s := x6) (by kernel_rfl) hx)) ?_
          intro fr t H
          refine at_seg [(6, [])] [(0, .str p0), (3, .slice x12.r x12.n), (6, .int .i64 (p0.length : Int)), (7, .int .i64 x5)] H (noU_all rfl) (fun fr => by kernel_rfl) ?_
          intro fr H
          refine at_nil ?_
          show AW cfg 45 (⟨h.size, []⟩ : Gd) (right (right (right (left (left (right (left (right (right (bodyC cfg.P 45)))))))))) fr h6 _
          refine aw_reg (id := 8) (n := 2) [(0, []), (1, [])] (by kernel_rfl) (by kernel_rfl) ?_
          refine at_seg [(0, []), (1, [])] [(0, .str p0), (3, .slice x12.r x12.n), (6, .int .i64 (p0.length : Int)), (7, .int .i64 (IntKind.i64.wrap (x5 + (1 : Int))))] H (noU_all rfl) (fun fr => by kernel_rfl) ?_
          intro fr H
          refine at_nil ?_
          exact Exists.intro (x12, IntKind.i64.wrap (x5 + (1 : Int)), h6) (And.intro (Option.some.inj hm).symm ⟨x12, IntKind.i64.wrap (x5 + (1 : Int)), rfl, rfl, H.less _ (fun fr => by kernel_rfl)⟩)
        · exact hF.elim
    · replace H := H.know 8 hb (by kernel_rfl)
      refine aw_false (x := .tmp 8) (by kernel_rfl) H (fun fr => by kernel_rfl) ?_
      refine aw_exit (i := 0) (by kernel_rfl) ?_
      exact Exists.intro _ (And.intro (Option.some.inj hm).symm (fun e => Or.inl ⟨x4, rfl, e, rfl, H.less _ (fun fr => by kernel_rfl)⟩))
  · clear ho
    intro e fr h7 hQ
    rcases hQ with ⟨x3, rfl, rfl, _, H⟩ | hF
    · skip
      show AW cfg 45 (⟨h.size, []⟩ : Gd) (right (right (right (bodyC cfg.P 45)))) fr h7 _
      refine aw_seq (by kernel_rfl) ?_
      refine aw_reg (id := 9) (n := 3) [(0, []), (1, []), (2, [])] (by kernel_rfl) (by kernel_rfl) ?_
      refine at_seg [(0, [])] [(30, .slice x3.r x3.n)] H (noU_all rfl) (fun fr => by kernel_rfl) ?_
      intro fr H
      obtain ⟨x13, hx, hm⟩ := bind_some hm
      refine at_step (v := .str x13) (h1 := h7) [(31, .str x13)] H (fun fr => by kernel_rfl) (fun fr => .of (s_byL (s := x3) (by kernel_rfl) hx)) ?_
      intro fr t H
      refine at_seg [(2, [])] [(2, .str x13)] H (noU_all rfl) (fun fr => by kernel_rfl) ?_
      intro fr H
      refine at_nil ?_
      show AW cfg 45 (⟨h.size, []⟩ : Gd) (right (right (right (right (bodyC cfg.P 45))))) fr h7 _
      refine aw_ret (by kernel_rfl) ?_
      have e1 := Option.some.inj hm
      subst e1
      exact (doneE_of .ret H (fun fr => by kernel_rfl) (.inl rfl) : doneE cfg.P _ _ _ fr _)
    · exact hF.elim
end Go.Abs.L
