/-
  Models of functions of package law30, and that the abstract run tells them. Written by lift.py.
-/
import Derived.Test.YtimjggadeingjaaLCfg
import Derived.Test.YtimjggadeingjaaLlaw30
import Derived.Test.YtimjggadeingjaaLoccur
import Derived.Test.YtimjggadeingjaaLref16
import Derived.Test.YtimjggadeingjaaLref30
namespace Go.Abs.L
open Go.Abs
set_option linter.unusedVariables false
/-! ### boulter/boulterlaw30.OccurPlays -/
noncomputable def M_boulterlaw30_OccurPlays_L0 (h : AHeap) (p0 : Int) (p1 : Int) (p2 : Sl) (x1 : Option (Nat × Nat)) (s : Sl × Int × AHeap) : Option ((Sl × Int × AHeap) ⊕ ((AHeap) ⊕ (Bool × AHeap))) :=
  match s with
  | (x9, x10, h3) => iteB ((decide (x10 < ((p2.n : Nat) : Int))) && (decide (x10 < (80 : Int)))) (((ixL p2 2 x10).bind fun a1 => (ldA h3 (a1.1, a1.2) 2).bind fun x13 => (some (h3.push (.cells none 2 [.int .i64 (0 : Int), .int .i64 (0 : Int)]))).bind fun h4 => (stG 2 (⟨h.size, []⟩ : Gd) h4 (h3.size, 0) x13).bind fun h5 => (ldI h5 (h3.size, 1) .i64).bind fun x14 => (iteB (decide (x14 ≥ (0 : Int))) ((ldI h5 (h3.size, 1) .i64).bind fun x16 => some (decide (x16 < p1))) (some false) : Option (Bool)).bind fun x15 => ((ldI h5 (h3.size, 0) .i64).bind fun x20 => iteB (x20 == (1 : Int)) ((ldI h5 (h3.size, 1) .i64).bind fun x21 => (M_occur_Picker_Take (⟨h.size, []⟩ : Gd) h5 x1 x21).bind fun ((x22, x23), h6) => iteB (!x15) (iteB (x22 || (x23 != (9 : Int))) (some (.inr (.inr (false, h6)))) (some (.inr (.inl (x9, h6))))) ((ldI h6 (h3.size, 1) .i64).bind fun x24 => (M_boulterref30_Take (⟨h.size, []⟩ : Gd) h6 x9 x24).bind fun (x25, h7) => (iteB (x23 != (0 : Int)) (some true) ((iteB (p0 == (0 : Int)) (some true) ((ldI h7 (h3.size, 1) .i64).bind fun x28 => (ixL x25 1 x28).bind fun a2 => (ldI h7 (a2.1, a2.2) .i64).bind fun x29 => some (x29 == p0)) : Option (Bool)).bind fun x27 => some (!(x22 == x27))) : Option (Bool)).bind fun x26 => iteB x26 (some (.inr (.inr (false, h7)))) (some (.inl (x25, h7))))) (iteB (x20 == (2 : Int)) ((iteB x15 ((ldI h5 (h3.size, 1) .i64).bind fun x31 => (ixL x9 1 x31).bind fun a3 => (ldI h5 (a3.1, a3.2) .i64).bind fun x32 => some x32) (some (0 : Int)) : Option ((Int))).bind fun x30 => (ldI h5 (h3.size, 1) .i64).bind fun x33 => (M_occur_Picker_Count h5 x1 x33).bind fun x34 => iteB (x34 != x30) (some (.inr (.inr (false, h5)))) (some (.inl (x9, h5)))) (iteB (x20 == (3 : Int)) ((M_occur_Picker_Reset (⟨h.size, []⟩ : Gd) h5 x1).bind fun (_, h8) => (mkL 8 [.int .i64 (0 : Int)] p1 p1).bind fun x35 => (some (h8.push (.cells (some 3) 2 x35))).bind fun h9 => some (.inl ((⟨some (h8.size, 0), (p1).toNat⟩ : Sl), h9))) (some (.inl (x9, h5))))) : Option ((Sl × AHeap) ⊕ (Sl × AHeap) ⊕ (Bool × AHeap))).bind fun o3 => (match o3 with | .inl (x17, h10) => (M_occur_Picker_Missing (⟨h.size, []⟩ : Gd) h10 x1).bind fun (x36, h11) => (M_boulterref30_Missing (⟨h.size, []⟩ : Gd) h11 x17 p0).bind fun (x37, h12) => (M_boulterref16_Same h12 x36 x37).bind fun x38 => (iteB (!x38) (some true) ((M_occur_Picker_Rows h12 x1).bind fun x40 => some (x40 != p1)) : Option (Bool)).bind fun x39 => iteB x39 (some (.inr (false, h12))) (some (.inl (x17, h12))) | .inr (.inl (x18, h10)) => some (.inl (x18, h10)) | .inr (.inr (x19, h10)) => some (.inr (x19, h10))) : Option ((Sl × AHeap) ⊕ (Bool × AHeap))).bind fun o2 => (match o2 with | .inl (x11, h13) => some (.inl (x11, IntKind.i64.wrap (x10 + (1 : Int)), h13)) | .inr (x12, h13) => some (.inr (.inr (x12, h13))))) (some (.inr (.inl h3)))
noncomputable def M_boulterlaw30_OccurPlays (h : AHeap) (p0 : Int) (p1 : Int) (p2 : Sl) : Option (Bool) :=
 (M_occur_New (⟨h.size, []⟩ : Gd) h p0 p1).bind fun ((x1, x2), h1) => iteB ((((decide (p0 < (0 : Int))) || (decide (p0 > (9007199254740991 : Int)))) || (decide (p1 < (1 : Int)))) || (decide (p1 > (257 : Int)))) ((iteB (x1.isNone && (x2 == (6 : Int))) ((M_boulterlaw30_awake).bind fun x4 => some x4) (some false) : Option (Bool)).bind fun x3 => some x3) (iteB ((x2 != (0 : Int)) || x1.isNone) (some false) ((mkL 8 [.int .i64 (0 : Int)] p1 p1).bind fun x5 => (some (h1.push (.cells (some 3) 2 x5))).bind fun h2 => (loop (M_boulterlaw30_OccurPlays_L0 h p0 p1 p2 x1) ((⟨some (h1.size, 0), (p1).toNat⟩ : Sl), (0 : Int), h2)).bind fun o1 => (match o1 with | .inl h14 => (M_boulterlaw30_awake).bind fun x41 => some x41 | .inr (x8, h14) => some x8)))
theorem ok_boulterlaw30_OccurPlays {g : Gd} {h : AHeap} {p0 : Int} {p1 : Int} {p2 : Sl} {r0 : Bool} (hm : M_boulterlaw30_OccurPlays h p0 p1 p2 = some r0) : Runs cfg g h 5 [.int .i64 p0, .int .i64 p1, .slice p2.r p2.n] (.bool r0) h := by
  refine runs2E (by kernel_rfl) (by kernel_rfl) (body_ofE (n := 149) (rs := [.tmp 6]) (by kernel_rfl) ?_)
  unfold M_boulterlaw30_OccurPlays at hm
  refine start (n := 149) [(0, .int .i64 p0), (1, .int .i64 p1), (2, .slice p2.r p2.n)] (by kernel_rfl) (by kernel_rfl) ?_
  intro fr H
  refine aw_seq (by kernel_rfl) ?_
  refine aw_reg (id := 0) (n := 1) [(0, [])] (by kernel_rfl) (by kernel_rfl) ?_
  refine at_seg [(0, [])] [(0, .int .i64 p0), (1, .int .i64 p1), (2, .slice p2.r p2.n)] H (noU_all rfl) (fun fr => by kernel_rfl) ?_
  intro fr H
  refine at_nil ?_
  show AW cfg 5 (⟨h.size, []⟩ : Gd) (right (bodyC cfg.P 5)) fr h _
  refine aw_seq (by kernel_rfl) ?_
  refine aw_reg (id := 1) (n := 8) [(0, []), (1, []), (2, []), (3, []), (4, []), (5, []), (6, []), (7, [])] (by kernel_rfl) (by kernel_rfl) ?_
  refine at_seg [(0, []), (1, [])] [(0, .int .i64 p0), (1, .int .i64 p1), (2, .slice p2.r p2.n), (17, .int .i64 p0), (18, .int .i64 p1)] H (noU_all rfl) (fun fr => by kernel_rfl) ?_
  intro fr H
  obtain ⟨⟨⟨x1, x2⟩, h1⟩, hx, hm⟩ := bind_some hm
  refine at_step (v := .tuple [.ptr x1, .int .i64 x2]) (h1 := h1) [(0, .int .i64 p0), (1, .int .i64 p1), (2, .slice p2.r p2.n), (19, .tuple [.ptr x1, .int .i64 x2])] H (fun fr => by kernel_rfl) (fun fr => Steps.call (by kernel_rfl) (ok_occur_New hx)) ?_
  intro fr t H
  refine at_seg [(3, []), (4, []), (5, []), (6, []), (7, [])] [(0, .int .i64 p0), (1, .int .i64 p1), (2, .slice p2.r p2.n), (7, .ptr x1), (8, .int .i64 x2)] H (noU_all rfl) (fun fr => by kernel_rfl) ?_
  intro fr H
  refine at_nil ?_
  show AW cfg 5 (⟨h.size, []⟩ : Gd) (right (right (bodyC cfg.P 5))) fr h1 _
  refine aw_seq (by kernel_rfl) ?_
  refine aw_seq (by kernel_rfl) ?_
  refine aw_reg (id := 2) (n := 14) [(0, []), (1, []), (2, []), (3, []), (4, []), (5, []), (6, []), (7, []), (8, []), (9, []), (10, []), (11, []), (12, []), (13, [])] (by kernel_rfl) (by kernel_rfl) ?_
  refine at_seg [(0, []), (1, []), (2, [])] [(0, .int .i64 p0), (1, .int .i64 p1), (2, .slice p2.r p2.n), (7, .ptr x1), (8, .int .i64 x2), (24, .bool (decide (p0 < (0 : Int))))] H (noU_all rfl) (fun fr => by kernel_rfl) ?_
  intro fr H
  refine at_cut [(3, []), (4, []), (5, [])] (fun fr' h' => h1 = h' ∧ Has fr' 149 [(0, .int .i64 p0), (1, .int .i64 p1), (2, .slice p2.r p2.n), (7, .ptr x1), (8, .int .i64 x2), (27, .bool ((decide (p0 < (0 : Int))) || (decide (p0 > (9007199254740991 : Int)))))]) ?_ ?_
  · cases hb : (decide (p0 < (0 : Int)) : Bool) with
    | true =>
      rw [hb] at H
      refine at_seg [(3, []), (4, []), (5, [])] [(0, .int .i64 p0), (1, .int .i64 p1), (2, .slice p2.r p2.n), (7, .ptr x1), (8, .int .i64 x2), (27, .bool true)] H (noU_all rfl) (fun fr => by kernel_rfl) ?_
      intro fr H
      exact at_nil ⟨rfl, by first | exact H.less _ (fun fr => by rfl) | (rw [hb]; exact H.less _ (fun fr => by rfl))⟩
    | false =>
      rw [hb] at H
      refine at_seg [(3, []), (4, []), (5, [])] [(0, .int .i64 p0), (1, .int .i64 p1), (2, .slice p2.r p2.n), (7, .ptr x1), (8, .int .i64 x2), (27, .bool (decide (p0 > (9007199254740991 : Int))))] H (noU_all rfl) (fun fr => by kernel_rfl) ?_
      intro fr H
      exact at_nil ⟨rfl, by first | exact H.less _ (fun fr => by rfl) | (rw [hb]; exact H.less _ (fun fr => by rfl))⟩
  · intro t fr h' hK
    obtain ⟨e, H⟩ := hK
    subst e
    refine at_seg [(6, [])] [(0, .int .i64 p0), (1, .int .i64 p1), (2, .slice p2.r p2.n), (7, .ptr x1), (8, .int .i64 x2), (28, .bool ((decide (p0 < (0 : Int))) || (decide (p0 > (9007199254740991 : Int)))))] H (noU_all rfl) (fun fr => by kernel_rfl) ?_
    intro fr H
    refine at_cut [(7, []), (8, []), (9, [])] (fun fr' h' => h1 = h' ∧ Has fr' 149 [(0, .int .i64 p0), (1, .int .i64 p1), (2, .slice p2.r p2.n), (7, .ptr x1), (8, .int .i64 x2), (31, .bool (((decide (p0 < (0 : Int))) || (decide (p0 > (9007199254740991 : Int)))) || (decide (p1 < (1 : Int)))))]) ?_ ?_
    · cases hb : ((decide (p0 < (0 : Int))) || (decide (p0 > (9007199254740991 : Int))) : Bool) with
      | true =>
        rw [hb] at H
        refine at_seg [(7, []), (8, []), (9, [])] [(0, .int .i64 p0), (1, .int .i64 p1), (2, .slice p2.r p2.n), (7, .ptr x1), (8, .int .i64 x2), (31, .bool true)] H (noU_all rfl) (fun fr => by kernel_rfl) ?_
        intro fr H
        exact at_nil ⟨rfl, by first | exact H.less _ (fun fr => by rfl) | (rw [hb]; exact H.less _ (fun fr => by rfl))⟩
      | false =>
        rw [hb] at H
        refine at_seg [(7, []), (8, []), (9, [])] [(0, .int .i64 p0), (1, .int .i64 p1), (2, .slice p2.r p2.n), (7, .ptr x1), (8, .int .i64 x2), (31, .bool (decide (p1 < (1 : Int))))] H (noU_all rfl) (fun fr => by kernel_rfl) ?_
        intro fr H
        exact at_nil ⟨rfl, by first | exact H.less _ (fun fr => by rfl) | (rw [hb]; exact H.less _ (fun fr => by rfl))⟩
    · intro t fr h' hK
      obtain ⟨e, H⟩ := hK
      subst e
      refine at_seg [(10, [])] [(0, .int .i64 p0), (1, .int .i64 p1), (2, .slice p2.r p2.n), (7, .ptr x1), (8, .int .i64 x2), (32, .bool (((decide (p0 < (0 : Int))) || (decide (p0 > (9007199254740991 : Int)))) || (decide (p1 < (1 : Int)))))] H (noU_all rfl) (fun fr => by kernel_rfl) ?_
      intro fr H
      refine at_cut [(11, []), (12, []), (13, [])] (fun fr' h' => h1 = h' ∧ Has fr' 149 [(0, .int .i64 p0), (1, .int .i64 p1), (2, .slice p2.r p2.n), (7, .ptr x1), (8, .int .i64 x2), (35, .bool ((((decide (p0 < (0 : Int))) || (decide (p0 > (9007199254740991 : Int)))) || (decide (p1 < (1 : Int)))) || (decide (p1 > (257 : Int)))))]) ?_ ?_
      · cases hb : (((decide (p0 < (0 : Int))) || (decide (p0 > (9007199254740991 : Int)))) || (decide (p1 < (1 : Int))) : Bool) with
        | true =>
          rw [hb] at H
          refine at_seg [(11, []), (12, []), (13, [])] [(0, .int .i64 p0), (1, .int .i64 p1), (2, .slice p2.r p2.n), (7, .ptr x1), (8, .int .i64 x2), (35, .bool true)] H (noU_all rfl) (fun fr => by kernel_rfl) ?_
          intro fr H
          exact at_nil ⟨rfl, by first | exact H.less _ (fun fr => by rfl) | (rw [hb]; exact H.less _ (fun fr => by rfl))⟩
        | false =>
          rw [hb] at H
          refine at_seg [(11, []), (12, []), (13, [])] [(0, .int .i64 p0), (1, .int .i64 p1), (2, .slice p2.r p2.n), (7, .ptr x1), (8, .int .i64 x2), (35, .bool (decide (p1 > (257 : Int))))] H (noU_all rfl) (fun fr => by kernel_rfl) ?_
          intro fr H
          exact at_nil ⟨rfl, by first | exact H.less _ (fun fr => by rfl) | (rw [hb]; exact H.less _ (fun fr => by rfl))⟩
      · intro t fr h' hK
        obtain ⟨e, H⟩ := hK
        subst e
        refine at_nil ?_
        show AW cfg 5 (⟨h.size, []⟩ : Gd) (right (left (right (right (bodyC cfg.P 5))))) fr h1 _
        rcases iteB_some hm with ⟨hb, hm⟩ | ⟨hb, hm⟩
        · rw [hb] at H
          refine aw_true (x := .tmp 35) (by kernel_rfl) H (fun fr => by kernel_rfl) ?_
          refine aw_seq (by kernel_rfl) ?_
          refine aw_reg (id := 3) (n := 10) [(0, []), (1, []), (2, []), (3, []), (4, []), (5, []), (6, []), (7, []), (8, []), (9, [])] (by kernel_rfl) (by kernel_rfl) ?_
          refine at_seg [(0, [])] [(8, .int .i64 x2), (36, .ptr x1)] H (noU_all rfl) (fun fr => by kernel_rfl) ?_
          intro fr H
          refine at_step (v := .bool x1.isNone) (h1 := h1) [(8, .int .i64 x2), (37, .bool x1.isNone)] H (fun fr => by kernel_rfl) (fun fr => .of (s_nilT (by kernel_rfl))) ?_
          intro fr t H
          refine at_seg [(2, [])] [(8, .int .i64 x2), (38, .bool x1.isNone)] H (noU_all rfl) (fun fr => by kernel_rfl) ?_
          intro fr H
          refine at_cut [(3, []), (4, []), (5, [])] (fun fr' h' => h1 = h' ∧ Has fr' 149 [(41, .bool (x1.isNone && (x2 == (6 : Int))))]) ?_ ?_
          · cases hb : (x1.isNone : Bool) with
            | true =>
              rw [hb] at H
              refine at_seg [(3, []), (4, []), (5, [])] [(41, .bool (x2 == (6 : Int)))] H (noU_all rfl) (fun fr => by kernel_rfl) ?_
              intro fr H
              exact at_nil ⟨rfl, by first | exact H.less _ (fun fr => by rfl) | (rw [hb]; exact H.less _ (fun fr => by rfl))⟩
            | false =>
              rw [hb] at H
              refine at_seg [(3, []), (4, []), (5, [])] [(41, .bool false)] H (noU_all rfl) (fun fr => by kernel_rfl) ?_
              intro fr H
              exact at_nil ⟨rfl, by first | exact H.less _ (fun fr => by rfl) | (rw [hb]; exact H.less _ (fun fr => by rfl))⟩
          · intro t fr h' hK
            obtain ⟨e, H⟩ := hK
            subst e
            refine at_seg [(6, [])] [(42, .bool (x1.isNone && (x2 == (6 : Int))))] H (noU_all rfl) (fun fr => by kernel_rfl) ?_
            intro fr H
            obtain ⟨x3, ho, hm⟩ := bind_some hm
            refine at_cut [(7, []), (8, [])] (fun fr' h' => h1 = h' ∧ Has fr' 149 [(44, .bool x3)]) ?_ ?_
            · rcases iteB_some ho with ⟨hb, hm⟩ | ⟨hb, hm⟩
              · rw [hb] at H
                obtain ⟨x4, hx, hm⟩ := bind_some hm
                refine at_step (v := .bool x4) (h1 := h1) [(42, .bool true), (43, .bool x4)] H (fun fr => by kernel_rfl) (fun fr => Steps.call (by kernel_rfl) (ok_boulterlaw30_awake hx)) ?_
                intro fr t H
                refine at_seg [(8, [])] [(44, .bool x4)] H (noU_all rfl) (fun fr => by kernel_rfl) ?_
                intro fr H
                have e1 := Option.some.inj hm
                subst e1
                exact at_nil ⟨rfl, H.less _ (fun fr => by kernel_rfl)⟩
              · rw [hb] at H
                refine at_seg [(7, []), (8, [])] [(44, .bool false)] H (noU_all rfl) (fun fr => by kernel_rfl) ?_
                intro fr H
                have e1 := Option.some.inj hm
                subst e1
                exact at_nil ⟨rfl, H.less _ (fun fr => by kernel_rfl)⟩
            · intro t fr h' hK
              obtain ⟨e, H⟩ := hK
              subst e
              refine at_seg [(9, [])] [(6, .bool x3)] H (noU_all rfl) (fun fr => by kernel_rfl) ?_
              intro fr H
              refine at_nil ?_
              show AW cfg 5 (⟨h.size, []⟩ : Gd) (right (left (right (left (right (right (bodyC cfg.P 5))))))) fr h1 _
              refine aw_ret (by kernel_rfl) ?_
              have e1 := Option.some.inj hm
              subst e1
              exact (doneE_of .ret H (fun fr => by kernel_rfl) (.inl rfl) : doneE cfg.P _ _ _ fr _)
        · rw [hb] at H
          refine aw_false (x := .tmp 35) (by kernel_rfl) H (fun fr => by kernel_rfl) ?_
          refine aw_skip (by kernel_rfl) ?_
          show AW cfg 5 (⟨h.size, []⟩ : Gd) (right (right (right (bodyC cfg.P 5)))) fr h1 _
          refine aw_seq (by kernel_rfl) ?_
          refine aw_seq (by kernel_rfl) ?_
          refine aw_reg (id := 4) (n := 6) [(0, []), (1, []), (2, []), (3, []), (4, []), (5, [])] (by kernel_rfl) (by kernel_rfl) ?_
          refine at_seg [(0, []), (1, []), (2, [])] [(0, .int .i64 p0), (1, .int .i64 p1), (2, .slice p2.r p2.n), (7, .ptr x1), (47, .bool (x2 != (0 : Int)))] H (noU_all rfl) (fun fr => by kernel_rfl) ?_
          intro fr H
          refine at_cut [(3, []), (4, []), (5, [])] (fun fr' h' => h1 = h' ∧ Has fr' 149 [(0, .int .i64 p0), (1, .int .i64 p1), (2, .slice p2.r p2.n), (7, .ptr x1), (50, .bool ((x2 != (0 : Int)) || x1.isNone))]) ?_ ?_
          · cases hb : (x2 != (0 : Int) : Bool) with
            | true =>
              rw [hb] at H
              refine at_seg [(3, []), (4, []), (5, [])] [(0, .int .i64 p0), (1, .int .i64 p1), (2, .slice p2.r p2.n), (7, .ptr x1), (50, .bool true)] H (noU_all rfl) (fun fr => by kernel_rfl) ?_
              intro fr H
              exact at_nil ⟨rfl, by first | exact H.less _ (fun fr => by rfl) | (rw [hb]; exact H.less _ (fun fr => by rfl))⟩
            | false =>
              rw [hb] at H
              refine at_seg [(3, [])] [(0, .int .i64 p0), (1, .int .i64 p1), (2, .slice p2.r p2.n), (7, .ptr x1), (47, .bool false), (48, .ptr x1)] H (noU_all rfl) (fun fr => by kernel_rfl) ?_
              intro fr H
              refine at_step (v := .bool x1.isNone) (h1 := h1) [(0, .int .i64 p0), (1, .int .i64 p1), (2, .slice p2.r p2.n), (7, .ptr x1), (47, .bool false), (49, .bool x1.isNone)] H (fun fr => by kernel_rfl) (fun fr => .of (s_nilT (by kernel_rfl))) ?_
              intro fr t H
              refine at_seg [(5, [])] [(0, .int .i64 p0), (1, .int .i64 p1), (2, .slice p2.r p2.n), (7, .ptr x1), (50, .bool x1.isNone)] H (noU_all rfl) (fun fr => by kernel_rfl) ?_
              intro fr H
              exact at_nil ⟨rfl, by first | exact H.less _ (fun fr => by rfl) | (rw [hb]; exact H.less _ (fun fr => by rfl))⟩
          · intro t fr h' hK
            obtain ⟨e, H⟩ := hK
            subst e
            refine at_nil ?_
            show AW cfg 5 (⟨h.size, []⟩ : Gd) (right (left (right (right (right (bodyC cfg.P 5)))))) fr h1 _
            rcases iteB_some hm with ⟨hb, hm⟩ | ⟨hb, hm⟩
            · rw [hb] at H
              refine aw_true (x := .tmp 50) (by kernel_rfl) H (fun fr => by kernel_rfl) ?_
              refine aw_seq (by kernel_rfl) ?_
              refine aw_reg (id := 5) (n := 1) [(0, [])] (by kernel_rfl) (by kernel_rfl) ?_
              refine at_seg [(0, [])] [(6, .bool false)] H (noU_all rfl) (fun fr => by kernel_rfl) ?_
              intro fr H
              refine at_nil ?_
              show AW cfg 5 (⟨h.size, []⟩ : Gd) (right (left (right (left (right (right (right (bodyC cfg.P 5)))))))) fr h1 _
              refine aw_ret (by kernel_rfl) ?_
              have e1 := Option.some.inj hm
              subst e1
              exact (doneE_of .ret H (fun fr => by kernel_rfl) (.inl rfl) : doneE cfg.P _ _ _ fr _)
            · rw [hb] at H
              refine aw_false (x := .tmp 50) (by kernel_rfl) H (fun fr => by kernel_rfl) ?_
              refine aw_skip (by kernel_rfl) ?_
              show AW cfg 5 (⟨h.size, []⟩ : Gd) (right (right (right (right (bodyC cfg.P 5))))) fr h1 _
              refine aw_seq (by kernel_rfl) ?_
              refine aw_reg (id := 6) (n := 3) [(0, []), (1, []), (2, [])] (by kernel_rfl) (by kernel_rfl) ?_
              refine at_seg [(0, [])] [(0, .int .i64 p0), (1, .int .i64 p1), (2, .slice p2.r p2.n), (7, .ptr x1), (51, .int .i64 p1)] H (noU_all rfl) (fun fr => by kernel_rfl) ?_
              intro fr H
              obtain ⟨x5, hx, hm⟩ := bind_some hm
              obtain ⟨h2, hy, hm⟩ := bind_some hm
              refine at_step (v := .slice (some (h1.size, 0)) ((p1).toNat)) (h1 := h2) [(0, .int .i64 p0), (1, .int .i64 p1), (2, .slice p2.r p2.n), (7, .ptr x1), (52, .slice (some (h1.size, 0)) ((p1).toNat))] H (fun fr => by kernel_rfl) (fun fr => .of (s_mk' (by kernel_rfl) hx hy)) ?_
              intro fr t H
              refine at_seg [(2, [])] [(0, .int .i64 p0), (1, .int .i64 p1), (2, .slice p2.r p2.n), (7, .ptr x1), (9, .slice (some (h1.size, 0)) ((p1).toNat))] H (noU_all rfl) (fun fr => by kernel_rfl) ?_
              intro fr H
              refine at_nil ?_
              show AW cfg 5 (⟨h.size, []⟩ : Gd) (right (right (right (right (right (bodyC cfg.P 5)))))) fr h2 _
              refine aw_seq (by kernel_rfl) ?_
              refine aw_seq (by kernel_rfl) ?_
              refine aw_reg (id := 7) (n := 1) [(0, [])] (by kernel_rfl) (by kernel_rfl) ?_
              refine at_seg [(0, [])] [(0, .int .i64 p0), (1, .int .i64 p1), (2, .slice p2.r p2.n), (7, .ptr x1), (9, .slice (some (h1.size, 0)) ((p1).toNat)), (10, .int .i64 (0 : Int))] H (noU_all rfl) (fun fr => by kernel_rfl) ?_
              intro fr H
              refine at_nil ?_
              show AW cfg 5 (⟨h.size, []⟩ : Gd) (right (left (right (right (right (right (right (bodyC cfg.P 5)))))))) fr h2 _
              refine aw_block (id := 0) (by kernel_rfl) ?_
              obtain ⟨o1, ho, hm⟩ := bind_some hm
              refine aw_mono (Q' := fun e fr' h' => (e = .exit 0 ∧ .inl h' = o1 ∧ h' = h' ∧ Has fr' 149 []) ∨ (∃ (x8 : Bool), e = .ret ∧ .inr (x8, h') = o1 ∧ h' = h' ∧ Has fr' 149 [(6, .bool x8)]) ∨ False) ?_ ?_
              · refine aw_loop (by kernel_rfl) (fun (s : Sl × Int × AHeap) fr' h' => ∃ (x9 : Sl) (x10 : Int), (x9, x10, h') = s ∧ h' = h' ∧ Has fr' 149 [(0, .int .i64 p0), (1, .int .i64 p1), (2, .slice p2.r p2.n), (7, .ptr x1), (9, .slice x9.r x9.n), (10, .int .i64 x10)]) ho ⟨(⟨some (h1.size, 0), (p1).toNat⟩ : Sl), (0 : Int), rfl, rfl, H.less _ (fun fr => by kernel_rfl)⟩ ?_
                clear ho hm H
                intro s q fr h3 hI hm
                obtain ⟨x9, x10, rfl, _, H⟩ := hI
                unfold M_boulterlaw30_OccurPlays_L0 at hm
                refine aw_seq (by kernel_rfl) ?_
                refine aw_seq (by kernel_rfl) ?_
                refine aw_reg (id := 8) (n := 8) [(0, []), (1, []), (2, []), (3, []), (4, []), (5, []), (6, []), (7, [])] (by kernel_rfl) (by kernel_rfl) ?_
                refine at_seg [(0, []), (1, []), (2, []), (3, []), (4, [])] [(0, .int .i64 p0), (1, .int .i64 p1), (2, .slice p2.r p2.n), (7, .ptr x1), (9, .slice x9.r x9.n), (10, .int .i64 x10), (57, .bool (decide (x10 < ((p2.n : Nat) : Int))))] H (noU_all rfl) (fun fr => by kernel_rfl) ?_
                intro fr H
                refine at_cut [(5, []), (6, []), (7, [])] (fun fr' h' => h3 = h' ∧ Has fr' 149 [(0, .int .i64 p0), (1, .int .i64 p1), (2, .slice p2.r p2.n), (7, .ptr x1), (9, .slice x9.r x9.n), (10, .int .i64 x10), (60, .bool ((decide (x10 < ((p2.n : Nat) : Int))) && (decide (x10 < (80 : Int)))))]) ?_ ?_
                · cases hb : (decide (x10 < ((p2.n : Nat) : Int)) : Bool) with
                  | true =>
                    rw [hb] at H
                    refine at_seg [(5, []), (6, []), (7, [])] [(0, .int .i64 p0), (1, .int .i64 p1), (2, .slice p2.r p2.n), (7, .ptr x1), (9, .slice x9.r x9.n), (10, .int .i64 x10), (60, .bool (decide (x10 < (80 : Int))))] H (noU_all rfl) (fun fr => by kernel_rfl) ?_
                    intro fr H
                    exact at_nil ⟨rfl, by first | exact H.less _ (fun fr => by rfl) | (rw [hb]; exact H.less _ (fun fr => by rfl))⟩
                  | false =>
                    rw [hb] at H
                    refine at_seg [(5, []), (6, []), (7, [])] [(0, .int .i64 p0), (1, .int .i64 p1), (2, .slice p2.r p2.n), (7, .ptr x1), (9, .slice x9.r x9.n), (10, .int .i64 x10), (60, .bool false)] H (noU_all rfl) (fun fr => by kernel_rfl) ?_
                    intro fr H
                    exact at_nil ⟨rfl, by first | exact H.less _ (fun fr => by rfl) | (rw [hb]; exact H.less _ (fun fr => by rfl))⟩
                · intro t fr h' hK
                  obtain ⟨e, H⟩ := hK
                  subst e
                  refine at_nil ?_
                  show AW cfg 5 (⟨h.size, []⟩ : Gd) (right (left (left (left (right (left (right (right (right (right (right (bodyC cfg.P 5)))))))))))) fr h3 _
                  rcases iteB_some hm with ⟨hb, hm⟩ | ⟨hb, hm⟩
                  · rw [hb] at H
                    refine aw_true (x := .tmp 60) (by kernel_rfl) H (fun fr => by kernel_rfl) ?_
                    refine aw_skip (by kernel_rfl) ?_
                    show AW cfg 5 (⟨h.size, []⟩ : Gd) (right (left (left (right (left (right (right (right (right (right (bodyC cfg.P 5))))))))))) fr h3 _
                    refine aw_seq (by kernel_rfl) ?_
                    obtain ⟨o2, ho, hm⟩ := bind_some hm
                    refine aw_mono (Q' := fun e fr' h' => (∃ (x11 : Sl), e = .normal ∧ .inl (x11, h') = o2 ∧ h' = h' ∧ Has fr' 149 [(0, .int .i64 p0), (1, .int .i64 p1), (2, .slice p2.r p2.n), (7, .ptr x1), (9, .slice x11.r x11.n), (10, .int .i64 x10)]) ∨ (∃ (x12 : Bool), e = .ret ∧ .inr (x12, h') = o2 ∧ h' = h' ∧ Has fr' 149 [(6, .bool x12)]) ∨ False) ?_ ?_
                    · replace hm := ho
                      clear ho
                      refine aw_block (id := 1) (by kernel_rfl) ?_
                      refine aw_seq (by kernel_rfl) ?_
                      refine aw_reg (id := 10) (n := 6) [(0, []), (1, []), (2, []), (3, []), (4, []), (5, [])] (by kernel_rfl) (by kernel_rfl) ?_
                      refine at_seg [(0, []), (1, [])] [(0, .int .i64 p0), (1, .int .i64 p1), (2, .slice p2.r p2.n), (7, .ptr x1), (9, .slice x9.r x9.n), (10, .int .i64 x10), (63, .slice p2.r p2.n), (64, .int .i64 x10)] H (noU_all rfl) (fun fr => by kernel_rfl) ?_
                      intro fr H
                      obtain ⟨a1, hx, hm⟩ := bind_some hm
                      refine at_step (v := .ptr (some a1)) (h1 := h3) [(0, .int .i64 p0), (1, .int .i64 p1), (2, .slice p2.r p2.n), (7, .ptr x1), (9, .slice x9.r x9.n), (10, .int .i64 x10), (65, .ptr (some (a1.1, a1.2)))] H (fun fr => by kernel_rfl) (fun fr => .of (s_ixL (s := p2) (by kernel_rfl) hx)) ?_
                      intro fr t H
                      obtain ⟨x13, hx, hm⟩ := bind_some hm
                      refine at_step (v := .agg x13) (h1 := h3) [(0, .int .i64 p0), (1, .int .i64 p1), (2, .slice p2.r p2.n), (7, .ptr x1), (9, .slice x9.r x9.n), (10, .int .i64 x10), (66, .agg x13)] H (fun fr => by kernel_rfl) (fun fr => .of (s_ldA (by kernel_rfl) hx)) ?_
                      intro fr t H
                      obtain ⟨h4, hx, hm⟩ := bind_some hm
                      refine at_step (v := .ptr (some (h3.size, 0))) (h1 := h4) [(0, .int .i64 p0), (1, .int .i64 p1), (2, .slice p2.r p2.n), (7, .ptr x1), (9, .slice x9.r x9.n), (10, .int .i64 x10), (11, .ptr (some (h3.size, 0))), (66, .agg x13)] H (fun fr => by kernel_rfl) (fun fr => .of (s_n' (by kernel_rfl) hx)) ?_
                      intro fr t H
                      obtain ⟨h5, hx, hm⟩ := bind_some hm
                      refine at_step (v := .tuple []) (h1 := h5) [(0, .int .i64 p0), (1, .int .i64 p1), (2, .slice p2.r p2.n), (7, .ptr x1), (9, .slice x9.r x9.n), (10, .int .i64 x10), (11, .ptr (some (h3.size, 0)))] H (fun fr => by kernel_rfl) (fun fr => .of (s_stG (by kernel_rfl) hx)) ?_
                      intro fr t H
                      refine at_nil ?_
                      show AW cfg 5 (⟨h.size, []⟩ : Gd) (right (left (left (right (left (left (right (left (right (right (right (right (right (bodyC cfg.P 5)))))))))))))) fr h5 _
                      refine aw_seq (by kernel_rfl) ?_
                      refine aw_reg (id := 11) (n := 10) [(0, []), (1, []), (2, []), (3, []), (4, []), (5, []), (6, []), (7, []), (8, []), (9, [])] (by kernel_rfl) (by kernel_rfl) ?_
                      refine at_seg [(0, [])] [(0, .int .i64 p0), (1, .int .i64 p1), (2, .slice p2.r p2.n), (7, .ptr x1), (9, .slice x9.r x9.n), (10, .int .i64 x10), (11, .ptr (some (h3.size, 0))), (67, .ptr (some (h3.size, 1)))] H (noU_all rfl) (fun fr => by kernel_rfl) ?_
                      intro fr H
                      obtain ⟨x14, hx, hm⟩ := bind_some hm
                      refine at_step (v := .int .i64 x14) (h1 := h5) [(0, .int .i64 p0), (1, .int .i64 p1), (2, .slice p2.r p2.n), (7, .ptr x1), (9, .slice x9.r x9.n), (10, .int .i64 x10), (11, .ptr (some (h3.size, 0))), (68, .int .i64 x14)] H (fun fr => by kernel_rfl) (fun fr => .of (s_ld (by kernel_rfl) (ldI_eq hx))) ?_
                      intro fr t H
                      refine at_seg [(2, []), (3, [])] [(0, .int .i64 p0), (1, .int .i64 p1), (2, .slice p2.r p2.n), (7, .ptr x1), (9, .slice x9.r x9.n), (10, .int .i64 x10), (11, .ptr (some (h3.size, 0))), (70, .bool (decide (x14 ≥ (0 : Int))))] H (noU_all rfl) (fun fr => by kernel_rfl) ?_
                      intro fr H
                      obtain ⟨x15, ho, hm⟩ := bind_some hm
                      refine at_cut [(4, []), (5, []), (6, []), (7, []), (8, [])] (fun fr' h' => h5 = h' ∧ Has fr' 149 [(0, .int .i64 p0), (1, .int .i64 p1), (2, .slice p2.r p2.n), (7, .ptr x1), (9, .slice x9.r x9.n), (10, .int .i64 x10), (11, .ptr (some (h3.size, 0))), (75, .bool x15)]) ?_ ?_
                      · rcases iteB_some ho with ⟨hb, hm⟩ | ⟨hb, hm⟩
                        · rw [hb] at H
                          refine at_seg [(4, [])] [(0, .int .i64 p0), (1, .int .i64 p1), (2, .slice p2.r p2.n), (7, .ptr x1), (9, .slice x9.r x9.n), (10, .int .i64 x10), (11, .ptr (some (h3.size, 0))), (70, .bool true), (71, .ptr (some (h3.size, 1)))] H (noU_all rfl) (fun fr => by kernel_rfl) ?_
                          intro fr H
                          obtain ⟨x16, hx, hm⟩ := bind_some hm
                          refine at_step (v := .int .i64 x16) (h1 := h5) [(0, .int .i64 p0), (1, .int .i64 p1), (2, .slice p2.r p2.n), (7, .ptr x1), (9, .slice x9.r x9.n), (10, .int .i64 x10), (11, .ptr (some (h3.size, 0))), (70, .bool true), (72, .int .i64 x16)] H (fun fr => by kernel_rfl) (fun fr => .of (s_ld (by kernel_rfl) (ldI_eq hx))) ?_
                          intro fr t H
                          refine at_seg [(6, []), (7, []), (8, [])] [(0, .int .i64 p0), (1, .int .i64 p1), (2, .slice p2.r p2.n), (7, .ptr x1), (9, .slice x9.r x9.n), (10, .int .i64 x10), (11, .ptr (some (h3.size, 0))), (75, .bool (decide (x16 < p1)))] H (noU_all rfl) (fun fr => by kernel_rfl) ?_
                          intro fr H
                          have e1 := Option.some.inj hm
                          subst e1
                          exact at_nil ⟨rfl, H.less _ (fun fr => by kernel_rfl)⟩
                        · rw [hb] at H
                          refine at_seg [(4, []), (5, []), (6, []), (7, []), (8, [])] [(0, .int .i64 p0), (1, .int .i64 p1), (2, .slice p2.r p2.n), (7, .ptr x1), (9, .slice x9.r x9.n), (10, .int .i64 x10), (11, .ptr (some (h3.size, 0))), (75, .bool false)] H (noU_all rfl) (fun fr => by kernel_rfl) ?_
                          intro fr H
                          have e1 := Option.some.inj hm
                          subst e1
                          exact at_nil ⟨rfl, H.less _ (fun fr => by kernel_rfl)⟩
                      · intro t fr h' hK
                        obtain ⟨e, H⟩ := hK
                        subst e
                        refine at_seg [(9, [])] [(0, .int .i64 p0), (1, .int .i64 p1), (2, .slice p2.r p2.n), (7, .ptr x1), (9, .slice x9.r x9.n), (10, .int .i64 x10), (11, .ptr (some (h3.size, 0))), (12, .bool x15)] H (noU_all rfl) (fun fr => by kernel_rfl) ?_
                        intro fr H
                        refine at_nil ?_
                        show AW cfg 5 (⟨h.size, []⟩ : Gd) (right (right (left (left (right (left (left (right (left (right (right (right (right (right (bodyC cfg.P 5))))))))))))))) fr h5 _
                        refine aw_seq (by kernel_rfl) ?_
                        obtain ⟨o3, ho, hm⟩ := bind_some hm
                        refine aw_mono (Q' := fun e fr' h' => (∃ (x17 : Sl), e = .normal ∧ .inl (x17, h') = o3 ∧ h' = h' ∧ Has fr' 149 [(0, .int .i64 p0), (1, .int .i64 p1), (2, .slice p2.r p2.n), (7, .ptr x1), (9, .slice x17.r x17.n), (10, .int .i64 x10)]) ∨ (∃ (x18 : Sl), e = .exit 1 ∧ .inr (.inl (x18, h')) = o3 ∧ h' = h' ∧ Has fr' 149 [(0, .int .i64 p0), (1, .int .i64 p1), (2, .slice p2.r p2.n), (7, .ptr x1), (9, .slice x18.r x18.n), (10, .int .i64 x10)]) ∨ (∃ (x19 : Bool), e = .ret ∧ .inr (.inr (x19, h')) = o3 ∧ h' = h' ∧ Has fr' 149 [(6, .bool x19)]) ∨ False) ?_ ?_
                        · replace hm := ho
                          clear ho
                          refine aw_seq (by kernel_rfl) ?_
                          refine aw_reg (id := 12) (n := 2) [(0, []), (1, [])] (by kernel_rfl) (by kernel_rfl) ?_
                          refine at_seg [(0, [])] [(0, .int .i64 p0), (1, .int .i64 p1), (2, .slice p2.r p2.n), (7, .ptr x1), (9, .slice x9.r x9.n), (10, .int .i64 x10), (11, .ptr (some (h3.size, 0))), (12, .bool x15), (76, .ptr (some (h3.size, 0)))] H (noU_all rfl) (fun fr => by kernel_rfl) ?_
                          intro fr H
                          obtain ⟨x20, hx, hm⟩ := bind_some hm
                          refine at_step (v := .int .i64 x20) (h1 := h5) [(0, .int .i64 p0), (1, .int .i64 p1), (2, .slice p2.r p2.n), (7, .ptr x1), (9, .slice x9.r x9.n), (10, .int .i64 x10), (11, .ptr (some (h3.size, 0))), (12, .bool x15), (77, .int .i64 x20)] H (fun fr => by kernel_rfl) (fun fr => .of (s_ld (by kernel_rfl) (ldI_eq hx))) ?_
                          intro fr t H
                          refine at_nil ?_
                          show AW cfg 5 (⟨h.size, []⟩ : Gd) (right (left (right (right (left (left (right (left (left (right (left (right (right (right (right (right (bodyC cfg.P 5))))))))))))))))) fr h5 _
                          refine aw_block (id := 2) (by kernel_rfl) ?_
                          refine aw_seq (by kernel_rfl) ?_
                          refine aw_reg (id := 13) (n := 2) [(0, []), (1, [])] (by kernel_rfl) (by kernel_rfl) ?_
                          refine at_seg [(0, []), (1, [])] [(0, .int .i64 p0), (1, .int .i64 p1), (2, .slice p2.r p2.n), (7, .ptr x1), (9, .slice x9.r x9.n), (10, .int .i64 x10), (11, .ptr (some (h3.size, 0))), (12, .bool x15), (77, .int .i64 x20), (78, .bool (x20 == (1 : Int)))] H (noU_all rfl) (fun fr => by kernel_rfl) ?_
                          intro fr H
                          refine at_nil ?_
                          show AW cfg 5 (⟨h.size, []⟩ : Gd) (right (left (right (left (right (right (left (left (right (left (left (right (left (right (right (right (right (right (bodyC cfg.P 5))))))))))))))))))) fr h5 _
                          rcases iteB_some hm with ⟨hb, hm⟩ | ⟨hb, hm⟩
                          · rw [hb] at H
                            refine aw_true (x := .tmp 78) (by kernel_rfl) H (fun fr => by kernel_rfl) ?_
                            refine aw_seq (by kernel_rfl) ?_
                            refine aw_reg (id := 14) (n := 9) [(0, []), (1, []), (2, []), (3, []), (4, []), (5, []), (6, []), (7, []), (8, [])] (by kernel_rfl) (by kernel_rfl) ?_
                            refine at_seg [(0, []), (1, [])] [(0, .int .i64 p0), (1, .int .i64 p1), (2, .slice p2.r p2.n), (7, .ptr x1), (9, .slice x9.r x9.n), (10, .int .i64 x10), (11, .ptr (some (h3.size, 0))), (12, .bool x15), (81, .ptr x1), (82, .ptr (some (h3.size, 1)))] H (noU_all rfl) (fun fr => by kernel_rfl) ?_
                            intro fr H
                            obtain ⟨x21, hx, hm⟩ := bind_some hm
                            refine at_step (v := .int .i64 x21) (h1 := h5) [(0, .int .i64 p0), (1, .int .i64 p1), (2, .slice p2.r p2.n), (7, .ptr x1), (9, .slice x9.r x9.n), (10, .int .i64 x10), (11, .ptr (some (h3.size, 0))), (12, .bool x15), (81, .ptr x1), (83, .int .i64 x21)] H (fun fr => by kernel_rfl) (fun fr => .of (s_ld (by kernel_rfl) (ldI_eq hx))) ?_
                            intro fr t H
                            obtain ⟨⟨⟨x22, x23⟩, h6⟩, hx, hm⟩ := bind_some hm
                            refine at_step (v := .tuple [.bool x22, .int .i64 x23]) (h1 := h6) [(0, .int .i64 p0), (1, .int .i64 p1), (2, .slice p2.r p2.n), (7, .ptr x1), (9, .slice x9.r x9.n), (10, .int .i64 x10), (11, .ptr (some (h3.size, 0))), (12, .bool x15), (84, .tuple [.bool x22, .int .i64 x23])] H (fun fr => by kernel_rfl) (fun fr => Steps.call (by kernel_rfl) (ok_occur_Picker_Take hx)) ?_
                            intro fr t H
                            refine at_seg [(4, []), (5, []), (6, []), (7, []), (8, [])] [(0, .int .i64 p0), (1, .int .i64 p1), (2, .slice p2.r p2.n), (7, .ptr x1), (9, .slice x9.r x9.n), (10, .int .i64 x10), (11, .ptr (some (h3.size, 0))), (12, .bool x15), (13, .bool x22), (14, .int .i64 x23)] H (noU_all rfl) (fun fr => by kernel_rfl) ?_
                            intro fr H
                            refine at_nil ?_
                            show AW cfg 5 (⟨h.size, []⟩ : Gd) (right (left (right (left (right (left (right (right (left (left (right (left (left (right (left (right (right (right (right (right (bodyC cfg.P 5))))))))))))))))))))) fr h6 _
                            refine aw_seq (by kernel_rfl) ?_
                            refine aw_seq (by kernel_rfl) ?_
                            refine aw_reg (id := 15) (n := 2) [(0, []), (1, [])] (by kernel_rfl) (by kernel_rfl) ?_
                            refine at_seg [(0, []), (1, [])] [(0, .int .i64 p0), (1, .int .i64 p1), (2, .slice p2.r p2.n), (7, .ptr x1), (9, .slice x9.r x9.n), (10, .int .i64 x10), (11, .ptr (some (h3.size, 0))), (13, .bool x22), (14, .int .i64 x23), (88, .bool (!x15))] H (noU_all rfl) (fun fr => by kernel_rfl) ?_
                            intro fr H
                            refine at_nil ?_
                            show AW cfg 5 (⟨h.size, []⟩ : Gd) (right (left (right (left (right (left (right (left (right (right (left (left (right (left (left (right (left (right (right (right (right (right (bodyC cfg.P 5))))))))))))))))))))))) fr h6 _
                            rcases iteB_some hm with ⟨hb, hm⟩ | ⟨hb, hm⟩
                            · rw [hb] at H
                              refine aw_true (x := .tmp 88) (by kernel_rfl) H (fun fr => by kernel_rfl) ?_
                              refine aw_seq (by kernel_rfl) ?_
                              refine aw_seq (by kernel_rfl) ?_
                              refine aw_reg (id := 16) (n := 5) [(0, []), (1, []), (2, []), (3, []), (4, [])] (by kernel_rfl) (by kernel_rfl) ?_
                              refine at_seg [(0, []), (1, [])] [(0, .int .i64 p0), (1, .int .i64 p1), (2, .slice p2.r p2.n), (7, .ptr x1), (9, .slice x9.r x9.n), (10, .int .i64 x10), (14, .int .i64 x23), (90, .bool x22)] H (noU_all rfl) (fun fr => by kernel_rfl) ?_
                              intro fr H
                              refine at_cut [(2, []), (3, []), (4, [])] (fun fr' h' => h6 = h' ∧ Has fr' 149 [(0, .int .i64 p0), (1, .int .i64 p1), (2, .slice p2.r p2.n), (7, .ptr x1), (9, .slice x9.r x9.n), (10, .int .i64 x10), (93, .bool (x22 || (x23 != (9 : Int))))]) ?_ ?_
                              · cases hb : (x22 : Bool) with
                                | true =>
                                  rw [hb] at H
                                  refine at_seg [(2, []), (3, []), (4, [])] [(0, .int .i64 p0), (1, .int .i64 p1), (2, .slice p2.r p2.n), (7, .ptr x1), (9, .slice x9.r x9.n), (10, .int .i64 x10), (93, .bool true)] H (noU_all rfl) (fun fr => by kernel_rfl) ?_
                                  intro fr H
                                  exact at_nil ⟨rfl, by first | exact H.less _ (fun fr => by rfl) | (rw [hb]; exact H.less _ (fun fr => by rfl))⟩
                                | false =>
                                  rw [hb] at H
                                  refine at_seg [(2, []), (3, []), (4, [])] [(0, .int .i64 p0), (1, .int .i64 p1), (2, .slice p2.r p2.n), (7, .ptr x1), (9, .slice x9.r x9.n), (10, .int .i64 x10), (93, .bool (x23 != (9 : Int)))] H (noU_all rfl) (fun fr => by kernel_rfl) ?_
                                  intro fr H
                                  exact at_nil ⟨rfl, by first | exact H.less _ (fun fr => by rfl) | (rw [hb]; exact H.less _ (fun fr => by rfl))⟩
                              · intro t fr h' hK
                                obtain ⟨e, H⟩ := hK
                                subst e
                                refine at_nil ?_
                                show AW cfg 5 (⟨h.size, []⟩ : Gd) (right (left (left (right (left (right (left (right (left (right (left (right (right (left (left (right (left (left (right (left (right (right (right (right (right (bodyC cfg.P 5)))))))))))))))))))))))))) fr h6 _
                                rcases iteB_some hm with ⟨hb, hm⟩ | ⟨hb, hm⟩
                                · rw [hb] at H
                                  refine aw_true (x := .tmp 93) (by kernel_rfl) H (fun fr => by kernel_rfl) ?_
                                  refine aw_seq (by kernel_rfl) ?_
                                  refine aw_reg (id := 17) (n := 1) [(0, [])] (by kernel_rfl) (by kernel_rfl) ?_
                                  refine at_seg [(0, [])] [(6, .bool false)] H (noU_all rfl) (fun fr => by kernel_rfl) ?_
                                  intro fr H
                                  refine at_nil ?_
                                  show AW cfg 5 (⟨h.size, []⟩ : Gd) (right (left (right (left (left (right (left (right (left (right (left (right (left (right (right (left (left (right (left (left (right (left (right (right (right (right (right (bodyC cfg.P 5)))))))))))))))))))))))))))) fr h6 _
                                  refine aw_ret (by kernel_rfl) ?_
                                  exact Or.inr (Or.inr (Or.inl ⟨false, rfl, Option.some.inj hm, rfl, H.less _ (fun fr => by kernel_rfl)⟩))
                                · rw [hb] at H
                                  refine aw_false (x := .tmp 93) (by kernel_rfl) H (fun fr => by kernel_rfl) ?_
                                  refine aw_skip (by kernel_rfl) ?_
                                  show AW cfg 5 (⟨h.size, []⟩ : Gd) (right (left (right (left (right (left (right (left (right (left (right (right (left (left (right (left (left (right (left (right (right (right (right (right (bodyC cfg.P 5))))))))))))))))))))))))) fr h6 _
                                  refine aw_exit (i := 1) (by kernel_rfl) ?_
                                  exact Or.inr (Or.inl ⟨x9, rfl, Option.some.inj hm, rfl, H.less _ (fun fr => by kernel_rfl)⟩)
                            · rw [hb] at H
                              refine aw_false (x := .tmp 88) (by kernel_rfl) H (fun fr => by kernel_rfl) ?_
                              refine aw_skip (by kernel_rfl) ?_
                              show AW cfg 5 (⟨h.size, []⟩ : Gd) (right (right (left (right (left (right (left (right (right (left (left (right (left (left (right (left (right (right (right (right (right (bodyC cfg.P 5)))))))))))))))))))))) fr h6 _
                              refine aw_seq (by kernel_rfl) ?_
                              refine aw_reg (id := 18) (n := 5) [(0, []), (1, []), (2, []), (3, []), (4, [])] (by kernel_rfl) (by kernel_rfl) ?_
                              refine at_seg [(0, []), (1, [])] [(0, .int .i64 p0), (1, .int .i64 p1), (2, .slice p2.r p2.n), (7, .ptr x1), (10, .int .i64 x10), (11, .ptr (some (h3.size, 0))), (13, .bool x22), (14, .int .i64 x23), (94, .slice x9.r x9.n), (95, .ptr (some (h3.size, 1)))] H (noU_all rfl) (fun fr => by kernel_rfl) ?_
                              intro fr H
                              obtain ⟨x24, hx, hm⟩ := bind_some hm
                              refine at_step (v := .int .i64 x24) (h1 := h6) [(0, .int .i64 p0), (1, .int .i64 p1), (2, .slice p2.r p2.n), (7, .ptr x1), (10, .int .i64 x10), (11, .ptr (some (h3.size, 0))), (13, .bool x22), (14, .int .i64 x23), (94, .slice x9.r x9.n), (96, .int .i64 x24)] H (fun fr => by kernel_rfl) (fun fr => .of (s_ld (by kernel_rfl) (ldI_eq hx))) ?_
                              intro fr t H
                              obtain ⟨⟨x25, h7⟩, hx, hm⟩ := bind_some hm
                              refine at_step (v := .slice x25.r x25.n) (h1 := h7) [(0, .int .i64 p0), (1, .int .i64 p1), (2, .slice p2.r p2.n), (7, .ptr x1), (10, .int .i64 x10), (11, .ptr (some (h3.size, 0))), (13, .bool x22), (14, .int .i64 x23), (97, .slice x25.r x25.n)] H (fun fr => by kernel_rfl) (fun fr => Steps.call (by kernel_rfl) (ok_boulterref30_Take hx)) ?_
                              intro fr t H
                              refine at_seg [(4, [])] [(0, .int .i64 p0), (1, .int .i64 p1), (2, .slice p2.r p2.n), (7, .ptr x1), (9, .slice x25.r x25.n), (10, .int .i64 x10), (11, .ptr (some (h3.size, 0))), (13, .bool x22), (14, .int .i64 x23)] H (noU_all rfl) (fun fr => by kernel_rfl) ?_
                              intro fr H
                              refine at_nil ?_
                              show AW cfg 5 (⟨h.size, []⟩ : Gd) (right (right (right (left (right (left (right (left (right (right (left (left (right (left (left (right (left (right (right (right (right (right (bodyC cfg.P 5))))))))))))))))))))))) fr h7 _
                              refine aw_seq (by kernel_rfl) ?_
                              refine aw_reg (id := 19) (n := 17) [(0, []), (1, []), (2, []), (3, []), (4, []), (5, []), (6, []), (7, []), (8, []), (9, []), (10, []), (11, []), (12, []), (13, []), (14, []), (15, []), (16, [])] (by kernel_rfl) (by kernel_rfl) ?_
                              refine at_seg [(0, []), (1, []), (2, [])] [(0, .int .i64 p0), (1, .int .i64 p1), (2, .slice p2.r p2.n), (7, .ptr x1), (9, .slice x25.r x25.n), (10, .int .i64 x10), (11, .ptr (some (h3.size, 0))), (13, .bool x22), (100, .bool (x23 != (0 : Int)))] H (noU_all rfl) (fun fr => by kernel_rfl) ?_
                              intro fr H
                              obtain ⟨x26, ho, hm⟩ := bind_some hm
                              refine at_cut [(3, []), (4, []), (5, []), (6, []), (7, []), (8, []), (9, []), (10, []), (11, []), (12, []), (13, []), (14, []), (15, []), (16, [])] (fun fr' h' => h7 = h' ∧ Has fr' 149 [(0, .int .i64 p0), (1, .int .i64 p1), (2, .slice p2.r p2.n), (7, .ptr x1), (9, .slice x25.r x25.n), (10, .int .i64 x10), (114, .bool x26)]) ?_ ?_
                              · rcases iteB_some ho with ⟨hb, hm⟩ | ⟨hb, hm⟩
                                · rw [hb] at H
                                  refine at_seg [(3, []), (4, []), (5, []), (6, []), (7, []), (8, []), (9, []), (10, []), (11, []), (12, []), (13, []), (14, []), (15, []), (16, [])] [(0, .int .i64 p0), (1, .int .i64 p1), (2, .slice p2.r p2.n), (7, .ptr x1), (9, .slice x25.r x25.n), (10, .int .i64 x10), (114, .bool true)] H (noU_all rfl) (fun fr => by kernel_rfl) ?_
                                  intro fr H
                                  have e1 := Option.some.inj hm
                                  subst e1
                                  exact at_nil ⟨rfl, H.less _ (fun fr => by kernel_rfl)⟩
                                · rw [hb] at H
                                  refine at_seg [(3, []), (4, []), (5, []), (6, [])] [(0, .int .i64 p0), (1, .int .i64 p1), (2, .slice p2.r p2.n), (7, .ptr x1), (9, .slice x25.r x25.n), (10, .int .i64 x10), (11, .ptr (some (h3.size, 0))), (100, .bool false), (101, .bool x22), (104, .bool (p0 == (0 : Int)))] H (noU_all rfl) (fun fr => by kernel_rfl) ?_
                                  intro fr H
                                  obtain ⟨x27, ho, hm⟩ := bind_some hm
                                  refine at_cut [(7, []), (8, []), (9, []), (10, []), (11, []), (12, []), (13, []), (14, [])] (fun fr' h' => h7 = h' ∧ Has fr' 149 [(0, .int .i64 p0), (1, .int .i64 p1), (2, .slice p2.r p2.n), (7, .ptr x1), (9, .slice x25.r x25.n), (10, .int .i64 x10), (100, .bool false), (101, .bool x22), (112, .bool x27)]) ?_ ?_
                                  · rcases iteB_some ho with ⟨hb, hm⟩ | ⟨hb, hm⟩
                                    · rw [hb] at H
                                      refine at_seg [(7, []), (8, []), (9, []), (10, []), (11, []), (12, []), (13, []), (14, [])] [(0, .int .i64 p0), (1, .int .i64 p1), (2, .slice p2.r p2.n), (7, .ptr x1), (9, .slice x25.r x25.n), (10, .int .i64 x10), (100, .bool false), (101, .bool x22), (112, .bool true)] H (noU_all rfl) (fun fr => by kernel_rfl) ?_
                                      intro fr H
                                      have e1 := Option.some.inj hm
                                      subst e1
                                      exact at_nil ⟨rfl, H.less _ (fun fr => by kernel_rfl)⟩
                                    · rw [hb] at H
                                      refine at_seg [(7, []), (8, [])] [(0, .int .i64 p0), (1, .int .i64 p1), (2, .slice p2.r p2.n), (7, .ptr x1), (9, .slice x25.r x25.n), (10, .int .i64 x10), (100, .bool false), (101, .bool x22), (104, .bool false), (105, .slice x25.r x25.n), (106, .ptr (some (h3.size, 1)))] H (noU_all rfl) (fun fr => by kernel_rfl) ?_
                                      intro fr H
                                      obtain ⟨x28, hx, hm⟩ := bind_some hm
                                      refine at_step (v := .int .i64 x28) (h1 := h7) [(0, .int .i64 p0), (1, .int .i64 p1), (2, .slice p2.r p2.n), (7, .ptr x1), (9, .slice x25.r x25.n), (10, .int .i64 x10), (100, .bool false), (101, .bool x22), (104, .bool false), (105, .slice x25.r x25.n), (107, .int .i64 x28)] H (fun fr => by kernel_rfl) (fun fr => .of (s_ld (by kernel_rfl) (ldI_eq hx))) ?_
                                      intro fr t H
                                      obtain ⟨a2, hx, hm⟩ := bind_some hm
                                      refine at_step (v := .ptr (some a2)) (h1 := h7) [(0, .int .i64 p0), (1, .int .i64 p1), (2, .slice p2.r p2.n), (7, .ptr x1), (9, .slice x25.r x25.n), (10, .int .i64 x10), (100, .bool false), (101, .bool x22), (104, .bool false), (108, .ptr (some (a2.1, a2.2)))] H (fun fr => by kernel_rfl) (fun fr => .of (s_ixL (s := x25) (by kernel_rfl) hx)) ?_
                                      intro fr t H
                                      obtain ⟨x29, hx, hm⟩ := bind_some hm
                                      refine at_step (v := .int .i64 x29) (h1 := h7) [(0, .int .i64 p0), (1, .int .i64 p1), (2, .slice p2.r p2.n), (7, .ptr x1), (9, .slice x25.r x25.n), (10, .int .i64 x10), (100, .bool false), (101, .bool x22), (104, .bool false), (109, .int .i64 x29)] H (fun fr => by kernel_rfl) (fun fr => .of (s_ld (by kernel_rfl) (ldI_eq hx))) ?_
                                      intro fr t H
                                      refine at_seg [(12, []), (13, []), (14, [])] [(0, .int .i64 p0), (1, .int .i64 p1), (2, .slice p2.r p2.n), (7, .ptr x1), (9, .slice x25.r x25.n), (10, .int .i64 x10), (100, .bool false), (101, .bool x22), (112, .bool (x29 == p0))] H (noU_all rfl) (fun fr => by kernel_rfl) ?_
                                      intro fr H
                                      have e1 := Option.some.inj hm
                                      subst e1
                                      exact at_nil ⟨rfl, H.less _ (fun fr => by kernel_rfl)⟩
                                  · intro t fr h' hK
                                    obtain ⟨e, H⟩ := hK
                                    subst e
                                    refine at_seg [(15, []), (16, [])] [(0, .int .i64 p0), (1, .int .i64 p1), (2, .slice p2.r p2.n), (7, .ptr x1), (9, .slice x25.r x25.n), (10, .int .i64 x10), (114, .bool (!(x22 == x27)))] H (noU_all rfl) (fun fr => by kernel_rfl) ?_
                                    intro fr H
                                    have e1 := Option.some.inj hm
                                    subst e1
                                    exact at_nil ⟨rfl, H.less _ (fun fr => by kernel_rfl)⟩
                              · intro t fr h' hK
                                obtain ⟨e, H⟩ := hK
                                subst e
                                refine at_nil ?_
                                show AW cfg 5 (⟨h.size, []⟩ : Gd) (right (right (right (right (left (right (left (right (left (right (right (left (left (right (left (left (right (left (right (right (right (right (right (bodyC cfg.P 5)))))))))))))))))))))))) fr h7 _
                                rcases iteB_some hm with ⟨hb, hm⟩ | ⟨hb, hm⟩
                                · rw [hb] at H
                                  refine aw_true (x := .tmp 114) (by kernel_rfl) H (fun fr => by kernel_rfl) ?_
                                  refine aw_seq (by kernel_rfl) ?_
                                  refine aw_reg (id := 20) (n := 1) [(0, [])] (by kernel_rfl) (by kernel_rfl) ?_
                                  refine at_seg [(0, [])] [(6, .bool false)] H (noU_all rfl) (fun fr => by kernel_rfl) ?_
                                  intro fr H
                                  refine at_nil ?_
                                  show AW cfg 5 (⟨h.size, []⟩ : Gd) (right (left (right (right (right (right (left (right (left (right (left (right (right (left (left (right (left (left (right (left (right (right (right (right (right (bodyC cfg.P 5)))))))))))))))))))))))))) fr h7 _
                                  refine aw_ret (by kernel_rfl) ?_
                                  exact Or.inr (Or.inr (Or.inl ⟨false, rfl, Option.some.inj hm, rfl, H.less _ (fun fr => by kernel_rfl)⟩))
                                · rw [hb] at H
                                  refine aw_false (x := .tmp 114) (by kernel_rfl) H (fun fr => by kernel_rfl) ?_
                                  refine aw_skip (by kernel_rfl) ?_
                                  exact Or.inl ⟨x25, rfl, Option.some.inj hm, rfl, H.less _ (fun fr => by kernel_rfl)⟩
                          · rw [hb] at H
                            refine aw_false (x := .tmp 78) (by kernel_rfl) H (fun fr => by kernel_rfl) ?_
                            refine aw_seq (by kernel_rfl) ?_
                            refine aw_reg (id := 21) (n := 2) [(0, []), (1, [])] (by kernel_rfl) (by kernel_rfl) ?_
                            refine at_seg [(0, []), (1, [])] [(0, .int .i64 p0), (1, .int .i64 p1), (2, .slice p2.r p2.n), (7, .ptr x1), (9, .slice x9.r x9.n), (10, .int .i64 x10), (11, .ptr (some (h3.size, 0))), (12, .bool x15), (77, .int .i64 x20), (115, .bool (x20 == (2 : Int)))] H (noU_all rfl) (fun fr => by kernel_rfl) ?_
                            intro fr H
                            refine at_nil ?_
                            show AW cfg 5 (⟨h.size, []⟩ : Gd) (right (right (right (left (right (left (right (right (left (left (right (left (left (right (left (right (right (right (right (right (bodyC cfg.P 5))))))))))))))))))))) fr h5 _
                            rcases iteB_some hm with ⟨hb, hm⟩ | ⟨hb, hm⟩
                            · rw [hb] at H
                              refine aw_true (x := .tmp 115) (by kernel_rfl) H (fun fr => by kernel_rfl) ?_
                              refine aw_seq (by kernel_rfl) ?_
                              refine aw_reg (id := 22) (n := 1) [(0, [])] (by kernel_rfl) (by kernel_rfl) ?_
                              refine at_seg [(0, [])] [(0, .int .i64 p0), (1, .int .i64 p1), (2, .slice p2.r p2.n), (7, .ptr x1), (9, .slice x9.r x9.n), (10, .int .i64 x10), (11, .ptr (some (h3.size, 0))), (12, .bool x15), (15, .int .i64 (0 : Int))] H (noU_all rfl) (fun fr => by kernel_rfl) ?_
                              intro fr H
                              refine at_nil ?_
                              show AW cfg 5 (⟨h.size, []⟩ : Gd) (right (left (right (right (right (left (right (left (right (right (left (left (right (left (left (right (left (right (right (right (right (right (bodyC cfg.P 5))))))))))))))))))))))) fr h5 _
                              refine aw_seq (by kernel_rfl) ?_
                              obtain ⟨o4, ho, hm⟩ := bind_some hm
                              refine aw_mono (Q' := fun e fr' h' => (∃ (x30 : Int), e = .normal ∧ x30 = o4 ∧ h5 = h' ∧ Has fr' 149 [(0, .int .i64 p0), (1, .int .i64 p1), (2, .slice p2.r p2.n), (7, .ptr x1), (9, .slice x9.r x9.n), (10, .int .i64 x10), (11, .ptr (some (h3.size, 0))), (15, .int .i64 x30)]) ∨ False) ?_ ?_
                              · replace hm := ho
                                clear ho
                                refine aw_seq (by kernel_rfl) ?_
                                refine aw_reg (id := 23) (n := 1) [(0, [])] (by kernel_rfl) (by kernel_rfl) ?_
                                refine at_seg [(0, [])] [(0, .int .i64 p0), (1, .int .i64 p1), (2, .slice p2.r p2.n), (7, .ptr x1), (9, .slice x9.r x9.n), (10, .int .i64 x10), (11, .ptr (some (h3.size, 0))), (15, .int .i64 (0 : Int)), (117, .bool x15)] H (noU_all rfl) (fun fr => by kernel_rfl) ?_
                                intro fr H
                                refine at_nil ?_
                                show AW cfg 5 (⟨h.size, []⟩ : Gd) (right (left (right (left (right (right (right (left (right (left (right (right (left (left (right (left (left (right (left (right (right (right (right (right (bodyC cfg.P 5))))))))))))))))))))))))) fr h5 _
                                rcases iteB_some hm with ⟨hb, hm⟩ | ⟨hb, hm⟩
                                · rw [hb] at H
                                  refine aw_true (x := .tmp 117) (by kernel_rfl) H (fun fr => by kernel_rfl) ?_
                                  refine aw_reg (id := 24) (n := 6) [(0, []), (1, []), (2, []), (3, []), (4, []), (5, [])] (by kernel_rfl) (by kernel_rfl) ?_
                                  refine at_seg [(0, []), (1, [])] [(0, .int .i64 p0), (1, .int .i64 p1), (2, .slice p2.r p2.n), (7, .ptr x1), (9, .slice x9.r x9.n), (10, .int .i64 x10), (11, .ptr (some (h3.size, 0))), (118, .slice x9.r x9.n), (119, .ptr (some (h3.size, 1)))] H (noU_all rfl) (fun fr => by kernel_rfl) ?_
                                  intro fr H
                                  obtain ⟨x31, hx, hm⟩ := bind_some hm
                                  refine at_step (v := .int .i64 x31) (h1 := h5) [(0, .int .i64 p0), (1, .int .i64 p1), (2, .slice p2.r p2.n), (7, .ptr x1), (9, .slice x9.r x9.n), (10, .int .i64 x10), (11, .ptr (some (h3.size, 0))), (118, .slice x9.r x9.n), (120, .int .i64 x31)] H (fun fr => by kernel_rfl) (fun fr => .of (s_ld (by kernel_rfl) (ldI_eq hx))) ?_
                                  intro fr t H
                                  obtain ⟨a3, hx, hm⟩ := bind_some hm
                                  refine at_step (v := .ptr (some a3)) (h1 := h5) [(0, .int .i64 p0), (1, .int .i64 p1), (2, .slice p2.r p2.n), (7, .ptr x1), (9, .slice x9.r x9.n), (10, .int .i64 x10), (11, .ptr (some (h3.size, 0))), (121, .ptr (some (a3.1, a3.2)))] H (fun fr => by kernel_rfl) (fun fr => .of (s_ixL (s := x9) (by kernel_rfl) hx)) ?_
                                  intro fr t H
                                  obtain ⟨x32, hx, hm⟩ := bind_some hm
                                  refine at_step (v := .int .i64 x32) (h1 := h5) [(0, .int .i64 p0), (1, .int .i64 p1), (2, .slice p2.r p2.n), (7, .ptr x1), (9, .slice x9.r x9.n), (10, .int .i64 x10), (11, .ptr (some (h3.size, 0))), (122, .int .i64 x32)] H (fun fr => by kernel_rfl) (fun fr => .of (s_ld (by kernel_rfl) (ldI_eq hx))) ?_
                                  intro fr t H
                                  refine at_seg [(5, [])] [(0, .int .i64 p0), (1, .int .i64 p1), (2, .slice p2.r p2.n), (7, .ptr x1), (9, .slice x9.r x9.n), (10, .int .i64 x10), (11, .ptr (some (h3.size, 0))), (15, .int .i64 x32)] H (noU_all rfl) (fun fr => by kernel_rfl) ?_
                                  intro fr H
                                  refine at_nil ?_
                                  exact Or.inl ⟨x32, rfl, Option.some.inj hm, rfl, H.less _ (fun fr => by kernel_rfl)⟩
                                · rw [hb] at H
                                  refine aw_false (x := .tmp 117) (by kernel_rfl) H (fun fr => by kernel_rfl) ?_
                                  refine aw_skip (by kernel_rfl) ?_
                                  exact Or.inl ⟨(0 : Int), rfl, Option.some.inj hm, rfl, H.less _ (fun fr => by kernel_rfl)⟩
                              · clear ho
                                intro e fr hz hQ
                                rcases hQ with ⟨x30, rfl, rfl, rfl, H⟩ | hF
                                · skip
                                  show AW cfg 5 (⟨h.size, []⟩ : Gd) (right (right (left (right (right (right (left (right (left (right (right (left (left (right (left (left (right (left (right (right (right (right (right (bodyC cfg.P 5)))))))))))))))))))))))) fr h5 _
                                  refine aw_seq (by kernel_rfl) ?_
                                  refine aw_reg (id := 25) (n := 6) [(0, []), (1, []), (2, []), (3, []), (4, []), (5, [])] (by kernel_rfl) (by kernel_rfl) ?_
                                  refine at_seg [(0, []), (1, [])] [(0, .int .i64 p0), (1, .int .i64 p1), (2, .slice p2.r p2.n), (7, .ptr x1), (9, .slice x9.r x9.n), (10, .int .i64 x10), (15, .int .i64 x30), (123, .ptr x1), (124, .ptr (some (h3.size, 1)))] H (noU_all rfl) (fun fr => by kernel_rfl) ?_
                                  intro fr H
                                  obtain ⟨x33, hx, hm⟩ := bind_some hm
                                  refine at_step (v := .int .i64 x33) (h1 := h5) [(0, .int .i64 p0), (1, .int .i64 p1), (2, .slice p2.r p2.n), (7, .ptr x1), (9, .slice x9.r x9.n), (10, .int .i64 x10), (15, .int .i64 x30), (123, .ptr x1), (125, .int .i64 x33)] H (fun fr => by kernel_rfl) (fun fr => .of (s_ld (by kernel_rfl) (ldI_eq hx))) ?_
                                  intro fr t H
                                  obtain ⟨x34, hx, hm⟩ := bind_some hm
                                  refine at_step (v := .int .i64 x34) (h1 := h5) [(0, .int .i64 p0), (1, .int .i64 p1), (2, .slice p2.r p2.n), (7, .ptr x1), (9, .slice x9.r x9.n), (10, .int .i64 x10), (15, .int .i64 x30), (126, .int .i64 x34)] H (fun fr => by kernel_rfl) (fun fr => Steps.call (by kernel_rfl) (ok_occur_Picker_Count hx)) ?_
                                  intro fr t H
                                  refine at_seg [(4, []), (5, [])] [(0, .int .i64 p0), (1, .int .i64 p1), (2, .slice p2.r p2.n), (7, .ptr x1), (9, .slice x9.r x9.n), (10, .int .i64 x10), (128, .bool (x34 != x30))] H (noU_all rfl) (fun fr => by kernel_rfl) ?_
                                  intro fr H
                                  refine at_nil ?_
                                  show AW cfg 5 (⟨h.size, []⟩ : Gd) (right (right (right (left (right (right (right (left (right (left (right (right (left (left (right (left (left (right (left (right (right (right (right (right (bodyC cfg.P 5))))))))))))))))))))))))) fr h5 _
                                  rcases iteB_some hm with ⟨hb, hm⟩ | ⟨hb, hm⟩
                                  · rw [hb] at H
                                    refine aw_true (x := .tmp 128) (by kernel_rfl) H (fun fr => by kernel_rfl) ?_
                                    refine aw_seq (by kernel_rfl) ?_
                                    refine aw_reg (id := 26) (n := 1) [(0, [])] (by kernel_rfl) (by kernel_rfl) ?_
                                    refine at_seg [(0, [])] [(6, .bool false)] H (noU_all rfl) (fun fr => by kernel_rfl) ?_
                                    intro fr H
                                    refine at_nil ?_
                                    show AW cfg 5 (⟨h.size, []⟩ : Gd) (right (left (right (right (right (left (right (right (right (left (right (left (right (right (left (left (right (left (left (right (left (right (right (right (right (right (bodyC cfg.P 5))))))))))))))))))))))))))) fr h5 _
                                    refine aw_ret (by kernel_rfl) ?_
                                    exact Or.inr (Or.inr (Or.inl ⟨false, rfl, Option.some.inj hm, rfl, H.less _ (fun fr => by kernel_rfl)⟩))
                                  · rw [hb] at H
                                    refine aw_false (x := .tmp 128) (by kernel_rfl) H (fun fr => by kernel_rfl) ?_
                                    refine aw_skip (by kernel_rfl) ?_
                                    exact Or.inl ⟨x9, rfl, Option.some.inj hm, rfl, H.less _ (fun fr => by kernel_rfl)⟩
                                · exact hF.elim
                            · rw [hb] at H
                              refine aw_false (x := .tmp 115) (by kernel_rfl) H (fun fr => by kernel_rfl) ?_
                              refine aw_seq (by kernel_rfl) ?_
                              refine aw_reg (id := 27) (n := 2) [(0, []), (1, [])] (by kernel_rfl) (by kernel_rfl) ?_
                              refine at_seg [(0, []), (1, [])] [(0, .int .i64 p0), (1, .int .i64 p1), (2, .slice p2.r p2.n), (7, .ptr x1), (9, .slice x9.r x9.n), (10, .int .i64 x10), (129, .bool (x20 == (3 : Int)))] H (noU_all rfl) (fun fr => by kernel_rfl) ?_
                              intro fr H
                              refine at_nil ?_
                              show AW cfg 5 (⟨h.size, []⟩ : Gd) (right (right (right (right (right (left (right (left (right (right (left (left (right (left (left (right (left (right (right (right (right (right (bodyC cfg.P 5))))))))))))))))))))))) fr h5 _
                              rcases iteB_some hm with ⟨hb, hm⟩ | ⟨hb, hm⟩
                              · rw [hb] at H
                                refine aw_true (x := .tmp 129) (by kernel_rfl) H (fun fr => by kernel_rfl) ?_
                                refine aw_seq (by kernel_rfl) ?_
                                refine aw_reg (id := 28) (n := 2) [(0, []), (1, [])] (by kernel_rfl) (by kernel_rfl) ?_
                                refine at_seg [(0, [])] [(0, .int .i64 p0), (1, .int .i64 p1), (2, .slice p2.r p2.n), (7, .ptr x1), (10, .int .i64 x10), (131, .ptr x1)] H (noU_all rfl) (fun fr => by kernel_rfl) ?_
                                intro fr H
                                obtain ⟨⟨⟨⟩, h8⟩, hx, hm⟩ := bind_some hm
                                refine at_step (v := .tuple []) (h1 := h8) [(0, .int .i64 p0), (1, .int .i64 p1), (2, .slice p2.r p2.n), (7, .ptr x1), (10, .int .i64 x10)] H (fun fr => by kernel_rfl) (fun fr => Steps.call (by kernel_rfl) (ok_occur_Picker_Reset hx)) ?_
                                intro fr t H
                                refine at_nil ?_
                                show AW cfg 5 (⟨h.size, []⟩ : Gd) (right (left (right (right (right (right (right (left (right (left (right (right (left (left (right (left (left (right (left (right (right (right (right (right (bodyC cfg.P 5))))))))))))))))))))))))) fr h8 _
                                refine aw_reg (id := 29) (n := 3) [(0, []), (1, []), (2, [])] (by kernel_rfl) (by kernel_rfl) ?_
                                refine at_seg [(0, [])] [(0, .int .i64 p0), (1, .int .i64 p1), (2, .slice p2.r p2.n), (7, .ptr x1), (10, .int .i64 x10), (133, .int .i64 p1)] H (noU_all rfl) (fun fr => by kernel_rfl) ?_
                                intro fr H
                                obtain ⟨x35, hx, hm⟩ := bind_some hm
                                obtain ⟨h9, hy, hm⟩ := bind_some hm
                                refine at_step (v := .slice (some (h8.size, 0)) ((p1).toNat)) (h1 := h9) [(0, .int .i64 p0), (1, .int .i64 p1), (2, .slice p2.r p2.n), (7, .ptr x1), (10, .int .i64 x10), (134, .slice (some (h8.size, 0)) ((p1).toNat))] H (fun fr => by kernel_rfl) (fun fr => .of (s_mk' (by kernel_rfl) hx hy)) ?_
                                intro fr t H
                                refine at_seg [(2, [])] [(0, .int .i64 p0), (1, .int .i64 p1), (2, .slice p2.r p2.n), (7, .ptr x1), (9, .slice (some (h8.size, 0)) ((p1).toNat)), (10, .int .i64 x10)] H (noU_all rfl) (fun fr => by kernel_rfl) ?_
                                intro fr H
                                refine at_nil ?_
                                exact Or.inl ⟨(⟨some (h8.size, 0), (p1).toNat⟩ : Sl), rfl, Option.some.inj hm, rfl, H.less _ (fun fr => by kernel_rfl)⟩
                              · rw [hb] at H
                                refine aw_false (x := .tmp 129) (by kernel_rfl) H (fun fr => by kernel_rfl) ?_
                                refine aw_skip (by kernel_rfl) ?_
                                exact Or.inl ⟨x9, rfl, Option.some.inj hm, rfl, H.less _ (fun fr => by kernel_rfl)⟩
                        · clear ho
                          intro e fr h10 hQ
                          rcases hQ with ⟨x17, rfl, rfl, _, H⟩ | ⟨x18, rfl, rfl, _, H⟩ | ⟨x19, rfl, rfl, _, H⟩ | hF
                          · skip
                            show AW cfg 5 (⟨h.size, []⟩ : Gd) (right (right (right (left (left (right (left (left (right (left (right (right (right (right (right (bodyC cfg.P 5)))))))))))))))) fr h10 _
                            refine aw_seq (by kernel_rfl) ?_
                            refine aw_reg (id := 30) (n := 13) [(0, []), (1, []), (2, []), (3, []), (4, []), (5, []), (6, []), (7, []), (8, []), (9, []), (10, []), (11, []), (12, [])] (by kernel_rfl) (by kernel_rfl) ?_
                            refine at_seg [(0, [])] [(0, .int .i64 p0), (1, .int .i64 p1), (2, .slice p2.r p2.n), (7, .ptr x1), (9, .slice x17.r x17.n), (10, .int .i64 x10), (135, .ptr x1)] H (noU_all rfl) (fun fr => by kernel_rfl) ?_
                            intro fr H
                            obtain ⟨⟨x36, h11⟩, hx, hm⟩ := bind_some hm
                            refine at_step (v := .slice x36.r x36.n) (h1 := h11) [(0, .int .i64 p0), (1, .int .i64 p1), (2, .slice p2.r p2.n), (7, .ptr x1), (9, .slice x17.r x17.n), (10, .int .i64 x10), (136, .slice x36.r x36.n)] H (fun fr => by kernel_rfl) (fun fr => Steps.call (by kernel_rfl) (ok_occur_Picker_Missing hx)) ?_
                            intro fr t H
                            refine at_seg [(2, []), (3, [])] [(0, .int .i64 p0), (1, .int .i64 p1), (2, .slice p2.r p2.n), (7, .ptr x1), (9, .slice x17.r x17.n), (10, .int .i64 x10), (136, .slice x36.r x36.n), (137, .slice x17.r x17.n), (138, .int .i64 p0)] H (noU_all rfl) (fun fr => by kernel_rfl) ?_
                            intro fr H
                            obtain ⟨⟨x37, h12⟩, hx, hm⟩ := bind_some hm
                            refine at_step (v := .slice x37.r x37.n) (h1 := h12) [(0, .int .i64 p0), (1, .int .i64 p1), (2, .slice p2.r p2.n), (7, .ptr x1), (9, .slice x17.r x17.n), (10, .int .i64 x10), (136, .slice x36.r x36.n), (139, .slice x37.r x37.n)] H (fun fr => by kernel_rfl) (fun fr => Steps.call (by kernel_rfl) (ok_boulterref30_Missing hx)) ?_
                            intro fr t H
                            obtain ⟨x38, hx, hm⟩ := bind_some hm
                            refine at_step (v := .bool x38) (h1 := h12) [(0, .int .i64 p0), (1, .int .i64 p1), (2, .slice p2.r p2.n), (7, .ptr x1), (9, .slice x17.r x17.n), (10, .int .i64 x10), (140, .bool x38)] H (fun fr => by kernel_rfl) (fun fr => Steps.call (by kernel_rfl) (ok_boulterref16_Same hx)) ?_
                            intro fr t H
                            refine at_seg [(6, []), (7, [])] [(0, .int .i64 p0), (1, .int .i64 p1), (2, .slice p2.r p2.n), (7, .ptr x1), (9, .slice x17.r x17.n), (10, .int .i64 x10), (142, .bool (!x38))] H (noU_all rfl) (fun fr => by kernel_rfl) ?_
                            intro fr H
                            obtain ⟨x39, ho, hm⟩ := bind_some hm
                            refine at_cut [(8, []), (9, []), (10, []), (11, []), (12, [])] (fun fr' h' => h12 = h' ∧ Has fr' 149 [(0, .int .i64 p0), (1, .int .i64 p1), (2, .slice p2.r p2.n), (7, .ptr x1), (9, .slice x17.r x17.n), (10, .int .i64 x10), (147, .bool x39)]) ?_ ?_
                            · rcases iteB_some ho with ⟨hb, hm⟩ | ⟨hb, hm⟩
                              · rw [hb] at H
                                refine at_seg [(8, []), (9, []), (10, []), (11, []), (12, [])] [(0, .int .i64 p0), (1, .int .i64 p1), (2, .slice p2.r p2.n), (7, .ptr x1), (9, .slice x17.r x17.n), (10, .int .i64 x10), (147, .bool true)] H (noU_all rfl) (fun fr => by kernel_rfl) ?_
                                intro fr H
                                have e1 := Option.some.inj hm
                                subst e1
                                exact at_nil ⟨rfl, H.less _ (fun fr => by kernel_rfl)⟩
                              · rw [hb] at H
                                refine at_seg [(8, [])] [(0, .int .i64 p0), (1, .int .i64 p1), (2, .slice p2.r p2.n), (7, .ptr x1), (9, .slice x17.r x17.n), (10, .int .i64 x10), (142, .bool false), (143, .ptr x1)] H (noU_all rfl) (fun fr => by kernel_rfl) ?_
                                intro fr H
                                obtain ⟨x40, hx, hm⟩ := bind_some hm
                                refine at_step (v := .int .i64 x40) (h1 := h12) [(0, .int .i64 p0), (1, .int .i64 p1), (2, .slice p2.r p2.n), (7, .ptr x1), (9, .slice x17.r x17.n), (10, .int .i64 x10), (142, .bool false), (144, .int .i64 x40)] H (fun fr => by kernel_rfl) (fun fr => Steps.call (by kernel_rfl) (ok_occur_Picker_Rows hx)) ?_
                                intro fr t H
                                refine at_seg [(10, []), (11, []), (12, [])] [(0, .int .i64 p0), (1, .int .i64 p1), (2, .slice p2.r p2.n), (7, .ptr x1), (9, .slice x17.r x17.n), (10, .int .i64 x10), (147, .bool (x40 != p1))] H (noU_all rfl) (fun fr => by kernel_rfl) ?_
                                intro fr H
                                have e1 := Option.some.inj hm
                                subst e1
                                exact at_nil ⟨rfl, H.less _ (fun fr => by kernel_rfl)⟩
                            · intro t fr h' hK
                              obtain ⟨e, H⟩ := hK
                              subst e
                              refine at_nil ?_
                              show AW cfg 5 (⟨h.size, []⟩ : Gd) (right (right (right (right (left (left (right (left (left (right (left (right (right (right (right (right (bodyC cfg.P 5))))))))))))))))) fr h12 _
                              rcases iteB_some hm with ⟨hb, hm⟩ | ⟨hb, hm⟩
                              · rw [hb] at H
                                refine aw_true (x := .tmp 147) (by kernel_rfl) H (fun fr => by kernel_rfl) ?_
                                refine aw_seq (by kernel_rfl) ?_
                                refine aw_reg (id := 31) (n := 1) [(0, [])] (by kernel_rfl) (by kernel_rfl) ?_
                                refine at_seg [(0, [])] [(6, .bool false)] H (noU_all rfl) (fun fr => by kernel_rfl) ?_
                                intro fr H
                                refine at_nil ?_
                                show AW cfg 5 (⟨h.size, []⟩ : Gd) (right (left (right (right (right (right (left (left (right (left (left (right (left (right (right (right (right (right (bodyC cfg.P 5))))))))))))))))))) fr h12 _
                                refine aw_ret (by kernel_rfl) ?_
                                exact Or.inr (Or.inl ⟨false, rfl, Option.some.inj hm, rfl, H.less _ (fun fr => by kernel_rfl)⟩)
                              · rw [hb] at H
                                refine aw_false (x := .tmp 147) (by kernel_rfl) H (fun fr => by kernel_rfl) ?_
                                refine aw_skip (by kernel_rfl) ?_
                                exact Or.inl ⟨x17, rfl, Option.some.inj hm, rfl, H.less _ (fun fr => by kernel_rfl)⟩
                          · skip
                            exact Or.inl ⟨x18, rfl, Option.some.inj hm, rfl, H.less _ (fun fr => by kernel_rfl)⟩
                          · skip
                            exact Or.inr (Or.inl ⟨x19, rfl, Option.some.inj hm, rfl, H.less _ (fun fr => by kernel_rfl)⟩)
                          · exact hF.elim
                    · clear ho
                      intro e fr h13 hQ
                      rcases hQ with ⟨x11, rfl, rfl, _, H⟩ | ⟨x12, rfl, rfl, _, H⟩ | hF
                      · skip
                        show AW cfg 5 (⟨h.size, []⟩ : Gd) (right (right (left (left (right (left (right (right (right (right (right (bodyC cfg.P 5)))))))))))) fr h13 _
                        refine aw_reg (id := 9) (n := 3) [(0, []), (1, []), (2, [])] (by kernel_rfl) (by kernel_rfl) ?_
                        refine at_seg [(0, []), (1, []), (2, [])] [(0, .int .i64 p0), (1, .int .i64 p1), (2, .slice p2.r p2.n), (7, .ptr x1), (9, .slice x11.r x11.n), (10, .int .i64 (IntKind.i64.wrap (x10 + (1 : Int))))] H (noU_all rfl) (fun fr => by kernel_rfl) ?_
                        intro fr H
                        refine at_nil ?_
                        exact Exists.intro (x11, IntKind.i64.wrap (x10 + (1 : Int)), h13) (And.intro (Option.some.inj hm).symm ⟨x11, IntKind.i64.wrap (x10 + (1 : Int)), rfl, rfl, H.less _ (fun fr => by kernel_rfl)⟩)
                      · skip
                        exact Exists.intro _ (And.intro (Option.some.inj hm).symm (fun e => Or.inr (Or.inl ⟨x12, rfl, e, rfl, H.less _ (fun fr => by kernel_rfl)⟩)))
                      · exact hF.elim
                  · rw [hb] at H
                    refine aw_false (x := .tmp 60) (by kernel_rfl) H (fun fr => by kernel_rfl) ?_
                    refine aw_exit (i := 0) (by kernel_rfl) ?_
                    exact Exists.intro _ (And.intro (Option.some.inj hm).symm (fun e => Or.inl ⟨rfl, e, rfl, H.less _ (fun fr => by kernel_rfl)⟩))
              · clear ho
                intro e fr h14 hQ
                rcases hQ with ⟨rfl, rfl, _, H⟩ | ⟨x8, rfl, rfl, _, H⟩ | hF
                · skip
                  show AW cfg 5 (⟨h.size, []⟩ : Gd) (right (right (right (right (right (right (bodyC cfg.P 5))))))) fr h14 _
                  refine aw_seq (by kernel_rfl) ?_
                  refine aw_reg (id := 32) (n := 2) [(0, []), (1, [])] (by kernel_rfl) (by kernel_rfl) ?_
                  obtain ⟨x41, hx, hm⟩ := bind_some hm
                  refine at_step (v := .bool x41) (h1 := h14) [(148, .bool x41)] H (fun fr => by kernel_rfl) (fun fr => Steps.call (by kernel_rfl) (ok_boulterlaw30_awake hx)) ?_
                  intro fr t H
                  refine at_seg [(1, [])] [(6, .bool x41)] H (noU_all rfl) (fun fr => by kernel_rfl) ?_
                  intro fr H
                  refine at_nil ?_
                  show AW cfg 5 (⟨h.size, []⟩ : Gd) (right (right (right (right (right (right (right (bodyC cfg.P 5)))))))) fr h14 _
                  refine aw_ret (by kernel_rfl) ?_
                  have e1 := Option.some.inj hm
                  subst e1
                  exact (doneE_of .ret H (fun fr => by kernel_rfl) (.inl rfl) : doneE cfg.P _ _ _ fr _)
                · skip
                  have e1 := Option.some.inj hm
                  subst e1
                  exact (doneE_of .ret H (fun fr => by kernel_rfl) (.inl rfl) : doneE cfg.P _ _ _ fr _)
                · exact hF.elim
end Go.Abs.L
