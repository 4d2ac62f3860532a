/-
  Models of functions of package law03, and that the abstract run tells them. Written by lift.py.
-/
import Derived.Test.YtklabpnclemmoaaLCfg
import Derived.Test.YtklabpnclemmoaaLlaw03
import Derived.Test.YtklabpnclemmoaaLref03
import Derived.Test.YtklabpnclemmoaaLsums
namespace Go.Abs.L
open Go.Abs
set_option linter.unusedVariables false
/-! ### boulter/boulterlaw03.awake -/
noncomputable def M_boulterlaw03_awake (h : AHeap) : Option (Bool) :=
 (mkL 1 [.int .u8 (0 : Int)] (512 : Int) (512 : Int)).bind fun x1 => (some (h.push (.cells (some 5) 2 x1))).bind fun h1 => (byL h1 (⟨some (h.size, 0), ((512 : Int)).toNat⟩ : Sl)).bind fun x2 => (M_sums_Sum h1 x2).bind fun (x3, x4) => (iteB ((x3 == (256 : Int)) && (x4 == (0 : Int))) ((mkL 1 [.int .u8 (0 : Int)] (512 : Int) (512 : Int)).bind fun x6 => (some (h1.push (.cells (some 5) 2 x6))).bind fun h3 => (byL h3 (⟨some (h1.size, 0), ((512 : Int)).toNat⟩ : Sl)).bind fun x7 => (M_sums_Blank h3 x7).bind fun x8 => some (x8, h3)) (some (false, h1)) : Option (Bool × AHeap)).bind fun (x5, h2) => (iteB x5 ((mkL 1 [.int .u8 (0 : Int)] (512 : Int) (512 : Int)).bind fun x10 => (some (h2.push (.cells (some 5) 2 x10))).bind fun h5 => (byL h5 (⟨some (h2.size, 0), ((512 : Int)).toNat⟩ : Sl)).bind fun x11 => (M_sums_Right h5 x11).bind fun x12 => some (!x12, h5)) (some (false, h2)) : Option (Bool × AHeap)).bind fun (x9, h4) => some x9
theorem ok_boulterlaw03_awake {g : Gd} {h : AHeap} {r0 : Bool} (hm : M_boulterlaw03_awake h = some r0) : Runs cfg g h 51 [] (.bool r0) h := by
  refine runs2E (by kernel_rfl) (by kernel_rfl) (body_ofE (n := 26) (rs := [.tmp 0]) (by kernel_rfl) ?_)
  unfold M_boulterlaw03_awake at hm
  refine start (n := 26) [] (by kernel_rfl) (by kernel_rfl) ?_
  intro fr H
  refine aw_seq (by kernel_rfl) ?_
  refine aw_reg (id := 0) (n := 1) [(0, [])] (by kernel_rfl) (by kernel_rfl) ?_
  refine at_seg [(0, [])] [] H (noU_all rfl) (fun fr => by kernel_rfl) ?_
  intro fr H
  refine at_nil ?_
  show AW cfg 51 (⟨h.size, []⟩ : Gd) (right (bodyC cfg.P 51)) fr h _
  refine aw_seq (by kernel_rfl) ?_
  refine aw_reg (id := 1) (n := 8) [(0, []), (1, []), (2, []), (3, []), (4, []), (5, []), (6, []), (7, [])] (by kernel_rfl) (by kernel_rfl) ?_
  obtain ⟨x1, hx, hm⟩ := bind_some hm
  obtain ⟨h1, hy, hm⟩ := bind_some hm
  refine at_step (v := .slice (some (h.size, 0)) (((512 : Int)).toNat)) (h1 := h1) [(4, .slice (some (h.size, 0)) (((512 : Int)).toNat))] H (fun fr => by kernel_rfl) (fun fr => .of (s_mk' (by kernel_rfl) hx hy)) ?_
  intro fr t H
  obtain ⟨x2, hx, hm⟩ := bind_some hm
  refine at_step (v := .str x2) (h1 := h1) [(5, .str x2)] H (fun fr => by kernel_rfl) (fun fr => .of (s_byL (s := (⟨some (h.size, 0), ((512 : Int)).toNat⟩ : Sl)) (by kernel_rfl) hx)) ?_
  intro fr t H
  obtain ⟨⟨x3, x4⟩, hx, hm⟩ := bind_some hm
  refine at_step (v := .tuple [.int .i64 x3, .int .i64 x4]) (h1 := h1) [(6, .tuple [.int .i64 x3, .int .i64 x4])] H (fun fr => by kernel_rfl) (fun fr => Steps.call (by kernel_rfl) (ok_sums_Sum hx)) ?_
  intro fr t H
  refine at_seg [(3, []), (4, []), (5, []), (6, []), (7, [])] [(1, .int .i64 x3), (2, .int .i64 x4)] H (noU_all rfl) (fun fr => by kernel_rfl) ?_
  intro fr H
  refine at_nil ?_
  show AW cfg 51 (⟨h.size, []⟩ : Gd) (right (right (bodyC cfg.P 51))) fr h1 _
  refine aw_seq (by kernel_rfl) ?_
  refine aw_reg (id := 2) (n := 18) [(0, []), (1, []), (2, []), (3, []), (4, []), (5, []), (6, []), (7, []), (8, []), (9, []), (10, []), (11, []), (12, []), (13, []), (14, []), (15, []), (16, []), (17, [])] (by kernel_rfl) (by kernel_rfl) ?_
  refine at_seg [(0, []), (1, []), (2, [])] [(2, .int .i64 x4), (11, .bool (x3 == (256 : Int)))] H (noU_all rfl) (fun fr => by kernel_rfl) ?_
  intro fr H
  refine at_cut [(3, []), (4, []), (5, [])] (fun fr' h' => h1 = h' ∧ Has fr' 26 [(14, .bool ((x3 == (256 : Int)) && (x4 == (0 : Int))))]) ?_ ?_
  · cases hb : (x3 == (256 : Int) : Bool) with
    | true =>
      replace H := H.know 11 hb (by kernel_rfl)
      refine at_seg [(3, []), (4, []), (5, [])] [(14, .bool (x4 == (0 : Int)))] H (noU_all rfl) (fun fr => by kernel_rfl) ?_
      intro fr H
      exact at_nil ⟨rfl, by first | exact H.less _ (fun fr => by rfl) | exact H.less _ (fun fr => by rw [hb]; rfl)⟩
    | false =>
      replace H := H.know 11 hb (by kernel_rfl)
      refine at_seg [(3, []), (4, []), (5, [])] [(14, .bool false)] H (noU_all rfl) (fun fr => by kernel_rfl) ?_
      intro fr H
      exact at_nil ⟨rfl, by first | exact H.less _ (fun fr => by rfl) | exact H.less _ (fun fr => by rw [hb]; rfl)⟩
  · intro t fr h' hK
    obtain ⟨e, H⟩ := hK
    subst e
    refine at_seg [(6, [])] [(15, .bool ((x3 == (256 : Int)) && (x4 == (0 : Int))))] H (noU_all rfl) (fun fr => by kernel_rfl) ?_
    intro fr H
    obtain ⟨⟨x5, h2⟩, ho, hm⟩ := bind_some hm
    refine at_cut [(7, []), (8, []), (9, []), (10, [])] (fun fr' h' => h2 = h' ∧ Has fr' 26 [(19, .bool x5)]) ?_ ?_
    · rcases iteB_some ho with ⟨hb, hm⟩ | ⟨hb, hm⟩
      · replace H := H.know 15 hb (by kernel_rfl)
        obtain ⟨x6, hx, hm⟩ := bind_some hm
        obtain ⟨h3, hy, hm⟩ := bind_some hm
        refine at_step (v := .slice (some (h1.size, 0)) (((512 : Int)).toNat)) (h1 := h3) [(15, .bool true), (16, .slice (some (h1.size, 0)) (((512 : Int)).toNat))] H (fun fr => by kernel_rfl) (fun fr => .of (s_mk' (by kernel_rfl) hx hy)) ?_
        intro fr t H
        obtain ⟨x7, hx, hm⟩ := bind_some hm
        refine at_step (v := .str x7) (h1 := h3) [(15, .bool true), (17, .str x7)] H (fun fr => by kernel_rfl) (fun fr => .of (s_byL (s := (⟨some (h1.size, 0), ((512 : Int)).toNat⟩ : Sl)) (by kernel_rfl) hx)) ?_
        intro fr t H
        obtain ⟨x8, hx, hm⟩ := bind_some hm
        refine at_step (v := .bool x8) (h1 := h3) [(15, .bool true), (18, .bool x8)] H (fun fr => by kernel_rfl) (fun fr => Steps.call (by kernel_rfl) (ok_sums_Blank hx)) ?_
        intro fr t H
        refine at_seg [(10, [])] [(19, .bool x8)] H (noU_all rfl) (fun fr => by kernel_rfl) ?_
        intro fr H
        have e0 := Option.some.inj hm
        obtain ⟨e1, f1⟩ := Prod.mk.inj e0
        subst e1
        subst f1
        exact at_nil ⟨rfl, H.less _ (fun fr => by kernel_rfl)⟩
      · replace H := H.know 15 hb (by kernel_rfl)
        refine at_seg [(7, []), (8, []), (9, []), (10, [])] [(19, .bool false)] H (noU_all rfl) (fun fr => by kernel_rfl) ?_
        intro fr H
        have e0 := Option.some.inj hm
        obtain ⟨e1, f1⟩ := Prod.mk.inj e0
        subst e1
        subst f1
        exact at_nil ⟨rfl, H.less _ (fun fr => by kernel_rfl)⟩
    · intro t fr h' hK
      obtain ⟨e, H⟩ := hK
      subst e
      refine at_seg [(11, [])] [(20, .bool x5)] H (noU_all rfl) (fun fr => by kernel_rfl) ?_
      intro fr H
      obtain ⟨⟨x9, h4⟩, ho, hm⟩ := bind_some hm
      refine at_cut [(12, []), (13, []), (14, []), (15, []), (16, [])] (fun fr' h' => h4 = h' ∧ Has fr' 26 [(25, .bool x9)]) ?_ ?_
      · rcases iteB_some ho with ⟨hb, hm⟩ | ⟨hb, hm⟩
        · replace H := H.know 20 hb (by kernel_rfl)
          obtain ⟨x10, hx, hm⟩ := bind_some hm
          obtain ⟨h5, hy, hm⟩ := bind_some hm
          refine at_step (v := .slice (some (h2.size, 0)) (((512 : Int)).toNat)) (h1 := h5) [(20, .bool true), (21, .slice (some (h2.size, 0)) (((512 : Int)).toNat))] H (fun fr => by kernel_rfl) (fun fr => .of (s_mk' (by kernel_rfl) hx hy)) ?_
          intro fr t H
          obtain ⟨x11, hx, hm⟩ := bind_some hm
          refine at_step (v := .str x11) (h1 := h5) [(20, .bool true), (22, .str x11)] H (fun fr => by kernel_rfl) (fun fr => .of (s_byL (s := (⟨some (h2.size, 0), ((512 : Int)).toNat⟩ : Sl)) (by kernel_rfl) hx)) ?_
          intro fr t H
          obtain ⟨x12, hx, hm⟩ := bind_some hm
          refine at_step (v := .bool x12) (h1 := h5) [(20, .bool true), (23, .bool x12)] H (fun fr => by kernel_rfl) (fun fr => Steps.call (by kernel_rfl) (ok_sums_Right hx)) ?_
          intro fr t H
          refine at_seg [(15, []), (16, [])] [(25, .bool (!x12))] H (noU_all rfl) (fun fr => by kernel_rfl) ?_
          intro fr H
          have e0 := Option.some.inj hm
          obtain ⟨e1, f1⟩ := Prod.mk.inj e0
          subst e1
          subst f1
          exact at_nil ⟨rfl, H.less _ (fun fr => by kernel_rfl)⟩
        · replace H := H.know 20 hb (by kernel_rfl)
          refine at_seg [(12, []), (13, []), (14, []), (15, []), (16, [])] [(25, .bool false)] H (noU_all rfl) (fun fr => by kernel_rfl) ?_
          intro fr H
          have e0 := Option.some.inj hm
          obtain ⟨e1, f1⟩ := Prod.mk.inj e0
          subst e1
          subst f1
          exact at_nil ⟨rfl, H.less _ (fun fr => by kernel_rfl)⟩
      · intro t fr h' hK
        obtain ⟨e, H⟩ := hK
        subst e
        refine at_seg [(17, [])] [(0, .bool x9)] H (noU_all rfl) (fun fr => by kernel_rfl) ?_
        intro fr H
        refine at_nil ?_
        show AW cfg 51 (⟨h.size, []⟩ : Gd) (right (right (right (bodyC cfg.P 51)))) fr h4 _
        refine aw_ret (by kernel_rfl) ?_
        have e1 := Option.some.inj hm
        subst e1
        exact (doneE_of .ret H (fun fr => by kernel_rfl) (.inl rfl) : doneE cfg.P _ _ _ fr _)
/-! ### boulter/boulterlaw03.SumsSeal -/
noncomputable def M_boulterlaw03_SumsSeal (h : AHeap) (p0 : List UInt8) (p1 : List UInt8) : Option (Bool) :=
 (M_boulterlaw03_block h p0 p1).bind fun x1 => (M_sums_Seal h x1).bind fun (x2, x3) => (M_sums_Seal h x2).bind fun (x4, x5) => (iteB (x3 == (0 : Int)) ((M_boulterref03_Seal h x1).bind fun x7 => some (x2 == x7)) (some false) : Option (Bool)).bind fun x6 => (iteB x6 ((M_sums_Right h x2).bind fun x9 => some x9) (some false) : Option (Bool)).bind fun x8 => (iteB ((x8 && (x5 == (0 : Int))) && (x4 == x2)) ((M_sums_Blank h x2).bind fun x11 => some (!x11)) (some false) : Option (Bool)).bind fun x10 => (iteB x10 ((M_boulterlaw03_awake h).bind fun x13 => some x13) (some false) : Option (Bool)).bind fun x12 => some x12
theorem ok_boulterlaw03_SumsSeal {g : Gd} {h : AHeap} {p0 : List UInt8} {p1 : List UInt8} {r0 : Bool} (hm : M_boulterlaw03_SumsSeal h p0 p1 = some r0) : Runs cfg g h 14 [.str p0, .str p1] (.bool r0) h := by
  refine runs2E (by kernel_rfl) (by kernel_rfl) (body_ofE (n := 52) (rs := [.tmp 4]) (by kernel_rfl) ?_)
  unfold M_boulterlaw03_SumsSeal at hm
  refine start (n := 52) [(0, .str p0), (1, .str p1)] (by kernel_rfl) (by kernel_rfl) ?_
  intro fr H
  refine aw_seq (by kernel_rfl) ?_
  refine aw_reg (id := 0) (n := 1) [(0, [])] (by kernel_rfl) (by kernel_rfl) ?_
  refine at_seg [(0, [])] [(0, .str p0), (1, .str p1)] H (noU_all rfl) (fun fr => by kernel_rfl) ?_
  intro fr H
  refine at_nil ?_
  show AW cfg 14 (⟨h.size, []⟩ : Gd) (right (bodyC cfg.P 14)) fr h _
  refine aw_seq (by kernel_rfl) ?_
  refine aw_reg (id := 1) (n := 4) [(0, []), (1, []), (2, []), (3, [])] (by kernel_rfl) (by kernel_rfl) ?_
  refine at_seg [(0, []), (1, [])] [(10, .str p0), (11, .str p1)] H (noU_all rfl) (fun fr => by kernel_rfl) ?_
  intro fr H
  obtain ⟨x1, hx, hm⟩ := bind_some hm
  refine at_step (v := .str x1) (h1 := h) [(12, .str x1)] H (fun fr => by kernel_rfl) (fun fr => Steps.call (by kernel_rfl) (ok_boulterlaw03_block hx)) ?_
  intro fr t H
  refine at_seg [(3, [])] [(5, .str x1)] H (noU_all rfl) (fun fr => by kernel_rfl) ?_
  intro fr H
  refine at_nil ?_
  show AW cfg 14 (⟨h.size, []⟩ : Gd) (right (right (bodyC cfg.P 14))) fr h _
  refine aw_seq (by kernel_rfl) ?_
  refine aw_reg (id := 2) (n := 7) [(0, []), (1, []), (2, []), (3, []), (4, []), (5, []), (6, [])] (by kernel_rfl) (by kernel_rfl) ?_
  refine at_seg [(0, [])] [(5, .str x1), (14, .str x1)] H (noU_all rfl) (fun fr => by kernel_rfl) ?_
  intro fr H
  obtain ⟨⟨x2, x3⟩, hx, hm⟩ := bind_some hm
  refine at_step (v := .tuple [.str x2, .int .i64 x3]) (h1 := h) [(5, .str x1), (15, .tuple [.str x2, .int .i64 x3])] H (fun fr => by kernel_rfl) (fun fr => Steps.call (by kernel_rfl) (ok_sums_Seal hx)) ?_
  intro fr t H
  refine at_seg [(2, []), (3, []), (4, []), (5, []), (6, [])] [(5, .str x1), (6, .str x2), (7, .int .i64 x3)] H (noU_all rfl) (fun fr => by kernel_rfl) ?_
  intro fr H
  refine at_nil ?_
  show AW cfg 14 (⟨h.size, []⟩ : Gd) (right (right (right (bodyC cfg.P 14)))) fr h _
  refine aw_seq (by kernel_rfl) ?_
  refine aw_reg (id := 3) (n := 7) [(0, []), (1, []), (2, []), (3, []), (4, []), (5, []), (6, [])] (by kernel_rfl) (by kernel_rfl) ?_
  refine at_seg [(0, [])] [(5, .str x1), (6, .str x2), (7, .int .i64 x3), (19, .str x2)] H (noU_all rfl) (fun fr => by kernel_rfl) ?_
  intro fr H
  obtain ⟨⟨x4, x5⟩, hx, hm⟩ := bind_some hm
  refine at_step (v := .tuple [.str x4, .int .i64 x5]) (h1 := h) [(5, .str x1), (6, .str x2), (7, .int .i64 x3), (20, .tuple [.str x4, .int .i64 x5])] H (fun fr => by kernel_rfl) (fun fr => Steps.call (by kernel_rfl) (ok_sums_Seal hx)) ?_
  intro fr t H
  refine at_seg [(2, []), (3, []), (4, []), (5, []), (6, [])] [(5, .str x1), (6, .str x2), (7, .int .i64 x3), (8, .str x4), (9, .int .i64 x5)] H (noU_all rfl) (fun fr => by kernel_rfl) ?_
  intro fr H
  refine at_nil ?_
  show AW cfg 14 (⟨h.size, []⟩ : Gd) (right (right (right (right (bodyC cfg.P 14))))) fr h _
  refine aw_seq (by kernel_rfl) ?_
  refine aw_reg (id := 4) (n := 30) [(0, []), (1, []), (2, []), (3, []), (4, []), (5, []), (6, []), (7, []), (8, []), (9, []), (10, []), (11, []), (12, []), (13, []), (14, []), (15, []), (16, []), (17, []), (18, []), (19, []), (20, []), (21, []), (22, []), (23, []), (24, []), (25, []), (26, []), (27, []), (28, []), (29, [])] (by kernel_rfl) (by kernel_rfl) ?_
  refine at_seg [(0, []), (1, []), (2, [])] [(5, .str x1), (6, .str x2), (8, .str x4), (9, .int .i64 x5), (25, .bool (x3 == (0 : Int)))] H (noU_all rfl) (fun fr => by kernel_rfl) ?_
  intro fr H
  obtain ⟨x6, ho, hm⟩ := bind_some hm
  refine at_cut [(3, []), (4, []), (5, []), (6, []), (7, [])] (fun fr' h' => h = h' ∧ Has fr' 52 [(6, .str x2), (8, .str x4), (9, .int .i64 x5), (30, .bool x6)]) ?_ ?_
  · rcases iteB_some ho with ⟨hb, hm⟩ | ⟨hb, hm⟩
    · replace H := H.know 25 hb (by kernel_rfl)
      refine at_seg [(3, []), (4, [])] [(6, .str x2), (8, .str x4), (9, .int .i64 x5), (25, .bool true), (26, .str x2), (27, .str x1)] H (noU_all rfl) (fun fr => by kernel_rfl) ?_
      intro fr H
      obtain ⟨x7, hx, hm⟩ := bind_some hm
      refine at_step (v := .str x7) (h1 := h) [(6, .str x2), (8, .str x4), (9, .int .i64 x5), (25, .bool true), (26, .str x2), (28, .str x7)] H (fun fr => by kernel_rfl) (fun fr => Steps.call (by kernel_rfl) (ok_boulterref03_Seal hx)) ?_
      intro fr t H
      refine at_seg [(6, []), (7, [])] [(6, .str x2), (8, .str x4), (9, .int .i64 x5), (30, .bool (x2 == x7))] H (noU_all rfl) (fun fr => by kernel_rfl) ?_
      intro fr H
      have e1 := Option.some.inj hm
      subst e1
      exact at_nil ⟨rfl, H.less _ (fun fr => by kernel_rfl)⟩
    · replace H := H.know 25 hb (by kernel_rfl)
      refine at_seg [(3, []), (4, []), (5, []), (6, []), (7, [])] [(6, .str x2), (8, .str x4), (9, .int .i64 x5), (30, .bool false)] H (noU_all rfl) (fun fr => by kernel_rfl) ?_
      intro fr H
      have e1 := Option.some.inj hm
      subst e1
      exact at_nil ⟨rfl, H.less _ (fun fr => by kernel_rfl)⟩
  · intro t fr h' hK
    obtain ⟨e, H⟩ := hK
    subst e
    refine at_seg [(8, [])] [(6, .str x2), (8, .str x4), (9, .int .i64 x5), (31, .bool x6)] H (noU_all rfl) (fun fr => by kernel_rfl) ?_
    intro fr H
    obtain ⟨x8, ho, hm⟩ := bind_some hm
    refine at_cut [(9, []), (10, []), (11, [])] (fun fr' h' => h = h' ∧ Has fr' 52 [(6, .str x2), (8, .str x4), (9, .int .i64 x5), (34, .bool x8)]) ?_ ?_
    · rcases iteB_some ho with ⟨hb, hm⟩ | ⟨hb, hm⟩
      · replace H := H.know 31 hb (by kernel_rfl)
        refine at_seg [(9, [])] [(6, .str x2), (8, .str x4), (9, .int .i64 x5), (31, .bool true), (32, .str x2)] H (noU_all rfl) (fun fr => by kernel_rfl) ?_
        intro fr H
        obtain ⟨x9, hx, hm⟩ := bind_some hm
        refine at_step (v := .bool x9) (h1 := h) [(6, .str x2), (8, .str x4), (9, .int .i64 x5), (31, .bool true), (33, .bool x9)] H (fun fr => by kernel_rfl) (fun fr => Steps.call (by kernel_rfl) (ok_sums_Right hx)) ?_
        intro fr t H
        refine at_seg [(11, [])] [(6, .str x2), (8, .str x4), (9, .int .i64 x5), (34, .bool x9)] H (noU_all rfl) (fun fr => by kernel_rfl) ?_
        intro fr H
        have e1 := Option.some.inj hm
        subst e1
        exact at_nil ⟨rfl, H.less _ (fun fr => by kernel_rfl)⟩
      · replace H := H.know 31 hb (by kernel_rfl)
        refine at_seg [(9, []), (10, []), (11, [])] [(6, .str x2), (8, .str x4), (9, .int .i64 x5), (34, .bool false)] H (noU_all rfl) (fun fr => by kernel_rfl) ?_
        intro fr H
        have e1 := Option.some.inj hm
        subst e1
        exact at_nil ⟨rfl, H.less _ (fun fr => by kernel_rfl)⟩
    · intro t fr h' hK
      obtain ⟨e, H⟩ := hK
      subst e
      refine at_seg [(12, [])] [(6, .str x2), (8, .str x4), (9, .int .i64 x5), (35, .bool x8)] H (noU_all rfl) (fun fr => by kernel_rfl) ?_
      intro fr H
      refine at_cut [(13, []), (14, []), (15, [])] (fun fr' h' => h = h' ∧ Has fr' 52 [(6, .str x2), (8, .str x4), (38, .bool (x8 && (x5 == (0 : Int))))]) ?_ ?_
      · cases hb : (x8 : Bool) with
        | true =>
          replace H := H.know 35 hb (by kernel_rfl)
          refine at_seg [(13, []), (14, []), (15, [])] [(6, .str x2), (8, .str x4), (38, .bool (x5 == (0 : Int)))] H (noU_all rfl) (fun fr => by kernel_rfl) ?_
          intro fr H
          exact at_nil ⟨rfl, by first | exact H.less _ (fun fr => by rfl) | exact H.less _ (fun fr => by rw [hb]; rfl)⟩
        | false =>
          replace H := H.know 35 hb (by kernel_rfl)
          refine at_seg [(13, []), (14, []), (15, [])] [(6, .str x2), (8, .str x4), (38, .bool false)] H (noU_all rfl) (fun fr => by kernel_rfl) ?_
          intro fr H
          exact at_nil ⟨rfl, by first | exact H.less _ (fun fr => by rfl) | exact H.less _ (fun fr => by rw [hb]; rfl)⟩
      · intro t fr h' hK
        obtain ⟨e, H⟩ := hK
        subst e
        refine at_seg [(16, [])] [(6, .str x2), (8, .str x4), (39, .bool (x8 && (x5 == (0 : Int))))] H (noU_all rfl) (fun fr => by kernel_rfl) ?_
        intro fr H
        refine at_cut [(17, []), (18, []), (19, []), (20, [])] (fun fr' h' => h = h' ∧ Has fr' 52 [(6, .str x2), (43, .bool ((x8 && (x5 == (0 : Int))) && (x4 == x2)))]) ?_ ?_
        · cases hb : (x8 && (x5 == (0 : Int)) : Bool) with
          | true =>
            replace H := H.know 39 hb (by kernel_rfl)
            refine at_seg [(17, []), (18, []), (19, []), (20, [])] [(6, .str x2), (43, .bool (x4 == x2))] H (noU_all rfl) (fun fr => by kernel_rfl) ?_
            intro fr H
            exact at_nil ⟨rfl, by first | exact H.less _ (fun fr => by rfl) | exact H.less _ (fun fr => by rw [hb]; rfl)⟩
          | false =>
            replace H := H.know 39 hb (by kernel_rfl)
            refine at_seg [(17, []), (18, []), (19, []), (20, [])] [(6, .str x2), (43, .bool false)] H (noU_all rfl) (fun fr => by kernel_rfl) ?_
            intro fr H
            exact at_nil ⟨rfl, by first | exact H.less _ (fun fr => by rfl) | exact H.less _ (fun fr => by rw [hb]; rfl)⟩
        · intro t fr h' hK
          obtain ⟨e, H⟩ := hK
          subst e
          refine at_seg [(21, [])] [(6, .str x2), (44, .bool ((x8 && (x5 == (0 : Int))) && (x4 == x2)))] H (noU_all rfl) (fun fr => by kernel_rfl) ?_
          intro fr H
          obtain ⟨x10, ho, hm⟩ := bind_some hm
          refine at_cut [(22, []), (23, []), (24, []), (25, [])] (fun fr' h' => h = h' ∧ Has fr' 52 [(48, .bool x10)]) ?_ ?_
          · rcases iteB_some ho with ⟨hb, hm⟩ | ⟨hb, hm⟩
            · replace H := H.know 44 hb (by kernel_rfl)
              refine at_seg [(22, [])] [(44, .bool true), (45, .str x2)] H (noU_all rfl) (fun fr => by kernel_rfl) ?_
              intro fr H
              obtain ⟨x11, hx, hm⟩ := bind_some hm
              refine at_step (v := .bool x11) (h1 := h) [(44, .bool true), (46, .bool x11)] H (fun fr => by kernel_rfl) (fun fr => Steps.call (by kernel_rfl) (ok_sums_Blank hx)) ?_
              intro fr t H
              refine at_seg [(24, []), (25, [])] [(48, .bool (!x11))] H (noU_all rfl) (fun fr => by kernel_rfl) ?_
              intro fr H
              have e1 := Option.some.inj hm
              subst e1
              exact at_nil ⟨rfl, H.less _ (fun fr => by kernel_rfl)⟩
            · replace H := H.know 44 hb (by kernel_rfl)
              refine at_seg [(22, []), (23, []), (24, []), (25, [])] [(48, .bool false)] H (noU_all rfl) (fun fr => by kernel_rfl) ?_
              intro fr H
              have e1 := Option.some.inj hm
              subst e1
              exact at_nil ⟨rfl, H.less _ (fun fr => by kernel_rfl)⟩
          · intro t fr h' hK
            obtain ⟨e, H⟩ := hK
            subst e
            refine at_seg [(26, [])] [(49, .bool x10)] H (noU_all rfl) (fun fr => by kernel_rfl) ?_
            intro fr H
            obtain ⟨x12, ho, hm⟩ := bind_some hm
            refine at_cut [(27, []), (28, [])] (fun fr' h' => h = h' ∧ Has fr' 52 [(51, .bool x12)]) ?_ ?_
            · rcases iteB_some ho with ⟨hb, hm⟩ | ⟨hb, hm⟩
              · replace H := H.know 49 hb (by kernel_rfl)
                obtain ⟨x13, hx, hm⟩ := bind_some hm
                refine at_step (v := .bool x13) (h1 := h) [(49, .bool true), (50, .bool x13)] H (fun fr => by kernel_rfl) (fun fr => Steps.call (by kernel_rfl) (ok_boulterlaw03_awake hx)) ?_
                intro fr t H
                refine at_seg [(28, [])] [(51, .bool x13)] H (noU_all rfl) (fun fr => by kernel_rfl) ?_
                intro fr H
                have e1 := Option.some.inj hm
                subst e1
                exact at_nil ⟨rfl, H.less _ (fun fr => by kernel_rfl)⟩
              · replace H := H.know 49 hb (by kernel_rfl)
                refine at_seg [(27, []), (28, [])] [(51, .bool false)] H (noU_all rfl) (fun fr => by kernel_rfl) ?_
                intro fr H
                have e1 := Option.some.inj hm
                subst e1
                exact at_nil ⟨rfl, H.less _ (fun fr => by kernel_rfl)⟩
            · intro t fr h' hK
              obtain ⟨e, H⟩ := hK
              subst e
              refine at_seg [(29, [])] [(4, .bool x12)] H (noU_all rfl) (fun fr => by kernel_rfl) ?_
              intro fr H
              refine at_nil ?_
              show AW cfg 14 (⟨h.size, []⟩ : Gd) (right (right (right (right (right (bodyC cfg.P 14)))))) fr h _
              refine aw_ret (by kernel_rfl) ?_
              have e1 := Option.some.inj hm
              subst e1
              exact (doneE_of .ret H (fun fr => by kernel_rfl) (.inl rfl) : doneE cfg.P _ _ _ fr _)
/-! ### boulter/boulterlaw03.SumsSpoilt -/
noncomputable def M_boulterlaw03_SumsSpoilt (h : AHeap) (p0 : List UInt8) (p1 : Int) (p2 : Int) : Option (Bool) :=
 (M_boulterlaw03_block h p0 ([] : List UInt8)).bind fun x1 => (M_sums_Seal h x1).bind fun (x2, x3) => iteB ((x3 != (0 : Int)) || ((x2.length : Int) != (512 : Int))) (some false) (iteB (((decide ((Int.tmod (IntKind.i64.wrap p1) (512 : Int)) ≥ (148 : Int))) && (decide ((Int.tmod (IntKind.i64.wrap p1) (512 : Int)) < (156 : Int)))) || (p2 == (0 : Int))) ((M_boulterlaw03_awake h).bind fun x4 => some x4) (need (decide (x2.length ≤ 1099511627776)) <| (some (h.push (.cells (some 5) 2 (x2.map fun b => .int .u8 b.toNat)))).bind fun h1 => (ixL (⟨some (h.size, 0), x2.length⟩ : Sl) 1 (Int.tmod (IntKind.i64.wrap p1) (512 : Int))).bind fun a1 => (ldI h1 (a1.1, a1.2) .u8).bind fun x5 => (ixL (⟨some (h.size, 0), x2.length⟩ : Sl) 1 (Int.tmod (IntKind.i64.wrap p1) (512 : Int))).bind fun a2 => (st (⟨h.size, []⟩ : Gd) h1 (a2.1, a2.2) [.int .u8 (IntKind.u8.wrap (x5 + p2))]).bind fun h2 => (byL h2 (⟨some (h.size, 0), x2.length⟩ : Sl)).bind fun x6 => (byL h2 (⟨some (h.size, 0), x2.length⟩ : Sl)).bind fun x7 => (M_sums_Right h2 x6).bind fun x8 => (M_boulterref03_Right h2 x7).bind fun x9 => (iteB (x8 == x9) ((byL h2 (⟨some (h.size, 0), x2.length⟩ : Sl)).bind fun x11 => (byL h2 (⟨some (h.size, 0), x2.length⟩ : Sl)).bind fun x12 => (M_sums_Right h2 x11).bind fun x13 => (M_boulterref03_Sum h2 x12 true).bind fun x14 => (M_boulterref03_Sum h2 x2 false).bind fun x15 => some (x13 == (x14 == x15))) (some false) : Option (Bool)).bind fun x10 => (iteB x10 ((M_boulterlaw03_awake h2).bind fun x17 => some x17) (some false) : Option (Bool)).bind fun x16 => some x16))
theorem ok_boulterlaw03_SumsSpoilt {g : Gd} {h : AHeap} {p0 : List UInt8} {p1 : Int} {p2 : Int} {r0 : Bool} (hm : M_boulterlaw03_SumsSpoilt h p0 p1 p2 = some r0) : Runs cfg g h 15 [.str p0, .int .u16 p1, .int .u8 p2] (.bool r0) h := by
  refine runs2E (by kernel_rfl) (by kernel_rfl) (body_ofE (n := 71) (rs := [.tmp 6]) (by kernel_rfl) ?_)
  unfold M_boulterlaw03_SumsSpoilt at hm
  refine start (n := 71) [(0, .str p0), (1, .int .u16 p1), (2, .int .u8 p2)] (by kernel_rfl) (by kernel_rfl) ?_
  intro fr H
  refine aw_seq (by kernel_rfl) ?_
  refine aw_reg (id := 0) (n := 1) [(0, [])] (by kernel_rfl) (by kernel_rfl) ?_
  refine at_seg [(0, [])] [(0, .str p0), (1, .int .u16 p1), (2, .int .u8 p2)] H (noU_all rfl) (fun fr => by kernel_rfl) ?_
  intro fr H
  refine at_nil ?_
  show AW cfg 15 (⟨h.size, []⟩ : Gd) (right (bodyC cfg.P 15)) fr h _
  refine aw_seq (by kernel_rfl) ?_
  refine aw_reg (id := 1) (n := 3) [(0, []), (1, []), (2, [])] (by kernel_rfl) (by kernel_rfl) ?_
  refine at_seg [(0, [])] [(1, .int .u16 p1), (2, .int .u8 p2), (12, .str p0)] H (noU_all rfl) (fun fr => by kernel_rfl) ?_
  intro fr H
  obtain ⟨x1, hx, hm⟩ := bind_some hm
  refine at_step (v := .str x1) (h1 := h) [(1, .int .u16 p1), (2, .int .u8 p2), (13, .str x1)] H (fun fr => by kernel_rfl) (fun fr => Steps.call (by kernel_rfl) (ok_boulterlaw03_block hx)) ?_
  intro fr t H
  refine at_seg [(2, [])] [(1, .int .u16 p1), (2, .int .u8 p2), (7, .str x1)] H (noU_all rfl) (fun fr => by kernel_rfl) ?_
  intro fr H
  refine at_nil ?_
  show AW cfg 15 (⟨h.size, []⟩ : Gd) (right (right (bodyC cfg.P 15))) fr h _
  refine aw_seq (by kernel_rfl) ?_
  refine aw_reg (id := 2) (n := 7) [(0, []), (1, []), (2, []), (3, []), (4, []), (5, []), (6, [])] (by kernel_rfl) (by kernel_rfl) ?_
  refine at_seg [(0, [])] [(1, .int .u16 p1), (2, .int .u8 p2), (15, .str x1)] H (noU_all rfl) (fun fr => by kernel_rfl) ?_
  intro fr H
  obtain ⟨⟨x2, x3⟩, hx, hm⟩ := bind_some hm
  refine at_step (v := .tuple [.str x2, .int .i64 x3]) (h1 := h) [(1, .int .u16 p1), (2, .int .u8 p2), (16, .tuple [.str x2, .int .i64 x3])] H (fun fr => by kernel_rfl) (fun fr => Steps.call (by kernel_rfl) (ok_sums_Seal hx)) ?_
  intro fr t H
  refine at_seg [(2, []), (3, []), (4, []), (5, []), (6, [])] [(1, .int .u16 p1), (2, .int .u8 p2), (8, .str x2), (9, .int .i64 x3)] H (noU_all rfl) (fun fr => by kernel_rfl) ?_
  intro fr H
  refine at_nil ?_
  show AW cfg 15 (⟨h.size, []⟩ : Gd) (right (right (right (bodyC cfg.P 15)))) fr h _
  refine aw_seq (by kernel_rfl) ?_
  refine aw_seq (by kernel_rfl) ?_
  refine aw_reg (id := 3) (n := 7) [(0, []), (1, []), (2, []), (3, []), (4, []), (5, []), (6, [])] (by kernel_rfl) (by kernel_rfl) ?_
  refine at_seg [(0, []), (1, []), (2, [])] [(1, .int .u16 p1), (2, .int .u8 p2), (8, .str x2), (21, .bool (x3 != (0 : Int)))] H (noU_all rfl) (fun fr => by kernel_rfl) ?_
  intro fr H
  refine at_cut [(3, []), (4, []), (5, []), (6, [])] (fun fr' h' => h = h' ∧ Has fr' 71 [(1, .int .u16 p1), (2, .int .u8 p2), (8, .str x2), (25, .bool ((x3 != (0 : Int)) || ((x2.length : Int) != (512 : Int))))]) ?_ ?_
  · cases hb : (x3 != (0 : Int) : Bool) with
    | true =>
      replace H := H.know 21 hb (by kernel_rfl)
      refine at_seg [(3, []), (4, []), (5, []), (6, [])] [(1, .int .u16 p1), (2, .int .u8 p2), (8, .str x2), (25, .bool true)] H (noU_all rfl) (fun fr => by kernel_rfl) ?_
      intro fr H
      exact at_nil ⟨rfl, by first | exact H.less _ (fun fr => by rfl) | exact H.less _ (fun fr => by rw [hb]; rfl)⟩
    | false =>
      replace H := H.know 21 hb (by kernel_rfl)
      refine at_seg [(3, []), (4, []), (5, []), (6, [])] [(1, .int .u16 p1), (2, .int .u8 p2), (8, .str x2), (25, .bool ((x2.length : Int) != (512 : Int)))] H (noU_all rfl) (fun fr => by kernel_rfl) ?_
      intro fr H
      exact at_nil ⟨rfl, by first | exact H.less _ (fun fr => by rfl) | exact H.less _ (fun fr => by rw [hb]; rfl)⟩
  · intro t fr h' hK
    obtain ⟨e, H⟩ := hK
    subst e
    refine at_nil ?_
    show AW cfg 15 (⟨h.size, []⟩ : Gd) (right (left (right (right (right (bodyC cfg.P 15)))))) fr h _
    rcases iteB_some hm with ⟨hb, hm⟩ | ⟨hb, hm⟩
    · replace H := H.know 25 hb (by kernel_rfl)
      refine aw_true (x := .tmp 25) (by kernel_rfl) H (fun fr => by kernel_rfl) ?_
      refine aw_seq (by kernel_rfl) ?_
      refine aw_reg (id := 4) (n := 1) [(0, [])] (by kernel_rfl) (by kernel_rfl) ?_
      refine at_seg [(0, [])] [(6, .bool false)] H (noU_all rfl) (fun fr => by kernel_rfl) ?_
      intro fr H
      refine at_nil ?_
      show AW cfg 15 (⟨h.size, []⟩ : Gd) (right (left (right (left (right (right (right (bodyC cfg.P 15)))))))) fr h _
      refine aw_ret (by kernel_rfl) ?_
      have e1 := Option.some.inj hm
      subst e1
      exact (doneE_of .ret H (fun fr => by kernel_rfl) (.inl rfl) : doneE cfg.P _ _ _ fr _)
    · replace H := H.know 25 hb (by kernel_rfl)
      refine aw_false (x := .tmp 25) (by kernel_rfl) H (fun fr => by kernel_rfl) ?_
      refine aw_skip (by kernel_rfl) ?_
      show AW cfg 15 (⟨h.size, []⟩ : Gd) (right (right (right (right (bodyC cfg.P 15))))) fr h _
      refine aw_seq (by kernel_rfl) ?_
      refine aw_reg (id := 5) (n := 4) [(0, []), (1, []), (2, []), (3, [])] (by kernel_rfl) (by kernel_rfl) ?_
      refine at_seg [(0, []), (1, []), (2, []), (3, [])] [(2, .int .u8 p2), (8, .str x2), (10, .int .i64 (Int.tmod (IntKind.i64.wrap p1) (512 : Int)))] H (noU_all rfl) (fun fr => by kernel_rfl) ?_
      intro fr H
      refine at_nil ?_
      show AW cfg 15 (⟨h.size, []⟩ : Gd) (right (right (right (right (right (bodyC cfg.P 15)))))) fr h _
      refine aw_seq (by kernel_rfl) ?_
      refine aw_seq (by kernel_rfl) ?_
      refine aw_reg (id := 6) (n := 10) [(0, []), (1, []), (2, []), (3, []), (4, []), (5, []), (6, []), (7, []), (8, []), (9, [])] (by kernel_rfl) (by kernel_rfl) ?_
      refine at_seg [(0, []), (1, []), (2, [])] [(2, .int .u8 p2), (8, .str x2), (10, .int .i64 (Int.tmod (IntKind.i64.wrap p1) (512 : Int))), (31, .bool (decide ((Int.tmod (IntKind.i64.wrap p1) (512 : Int)) ≥ (148 : Int))))] H (noU_all rfl) (fun fr => by kernel_rfl) ?_
      intro fr H
      refine at_cut [(3, []), (4, []), (5, [])] (fun fr' h' => h = h' ∧ Has fr' 71 [(2, .int .u8 p2), (8, .str x2), (10, .int .i64 (Int.tmod (IntKind.i64.wrap p1) (512 : Int))), (34, .bool ((decide ((Int.tmod (IntKind.i64.wrap p1) (512 : Int)) ≥ (148 : Int))) && (decide ((Int.tmod (IntKind.i64.wrap p1) (512 : Int)) < (156 : Int)))))]) ?_ ?_
      · cases hb : (decide ((Int.tmod (IntKind.i64.wrap p1) (512 : Int)) ≥ (148 : Int)) : Bool) with
        | true =>
          replace H := H.know 31 hb (by kernel_rfl)
          refine at_seg [(3, []), (4, []), (5, [])] [(2, .int .u8 p2), (8, .str x2), (10, .int .i64 (Int.tmod (IntKind.i64.wrap p1) (512 : Int))), (34, .bool (decide ((Int.tmod (IntKind.i64.wrap p1) (512 : Int)) < (156 : Int))))] H (noU_all rfl) (fun fr => by kernel_rfl) ?_
          intro fr H
          exact at_nil ⟨rfl, by first | exact H.less _ (fun fr => by rfl) | exact H.less _ (fun fr => by rw [hb]; rfl)⟩
        | false =>
          replace H := H.know 31 hb (by kernel_rfl)
          refine at_seg [(3, []), (4, []), (5, [])] [(2, .int .u8 p2), (8, .str x2), (10, .int .i64 (Int.tmod (IntKind.i64.wrap p1) (512 : Int))), (34, .bool false)] H (noU_all rfl) (fun fr => by kernel_rfl) ?_
          intro fr H
          exact at_nil ⟨rfl, by first | exact H.less _ (fun fr => by rfl) | exact H.less _ (fun fr => by rw [hb]; rfl)⟩
      · intro t fr h' hK
        obtain ⟨e, H⟩ := hK
        subst e
        refine at_seg [(6, [])] [(2, .int .u8 p2), (8, .str x2), (10, .int .i64 (Int.tmod (IntKind.i64.wrap p1) (512 : Int))), (35, .bool ((decide ((Int.tmod (IntKind.i64.wrap p1) (512 : Int)) ≥ (148 : Int))) && (decide ((Int.tmod (IntKind.i64.wrap p1) (512 : Int)) < (156 : Int)))))] H (noU_all rfl) (fun fr => by kernel_rfl) ?_
        intro fr H
        refine at_cut [(7, []), (8, []), (9, [])] (fun fr' h' => h = h' ∧ Has fr' 71 [(2, .int .u8 p2), (8, .str x2), (10, .int .i64 (Int.tmod (IntKind.i64.wrap p1) (512 : Int))), (38, .bool (((decide ((Int.tmod (IntKind.i64.wrap p1) (512 : Int)) ≥ (148 : Int))) && (decide ((Int.tmod (IntKind.i64.wrap p1) (512 : Int)) < (156 : Int)))) || (p2 == (0 : Int))))]) ?_ ?_
        · cases hb : ((decide ((Int.tmod (IntKind.i64.wrap p1) (512 : Int)) ≥ (148 : Int))) && (decide ((Int.tmod (IntKind.i64.wrap p1) (512 : Int)) < (156 : Int))) : Bool) with
          | true =>
            replace H := H.know 35 hb (by kernel_rfl)
            refine at_seg [(7, []), (8, []), (9, [])] [(2, .int .u8 p2), (8, .str x2), (10, .int .i64 (Int.tmod (IntKind.i64.wrap p1) (512 : Int))), (38, .bool true)] H (noU_all rfl) (fun fr => by kernel_rfl) ?_
            intro fr H
            exact at_nil ⟨rfl, by first | exact H.less _ (fun fr => by rfl) | exact H.less _ (fun fr => by rw [hb]; rfl)⟩
          | false =>
            replace H := H.know 35 hb (by kernel_rfl)
            refine at_seg [(7, []), (8, []), (9, [])] [(2, .int .u8 p2), (8, .str x2), (10, .int .i64 (Int.tmod (IntKind.i64.wrap p1) (512 : Int))), (38, .bool (p2 == (0 : Int)))] H (noU_all rfl) (fun fr => by kernel_rfl) ?_
            intro fr H
            exact at_nil ⟨rfl, by first | exact H.less _ (fun fr => by rfl) | exact H.less _ (fun fr => by rw [hb]; rfl)⟩
        · intro t fr h' hK
          obtain ⟨e, H⟩ := hK
          subst e
          refine at_nil ?_
          show AW cfg 15 (⟨h.size, []⟩ : Gd) (right (left (right (right (right (right (right (bodyC cfg.P 15)))))))) fr h _
          rcases iteB_some hm with ⟨hb, hm⟩ | ⟨hb, hm⟩
          · replace H := H.know 38 hb (by kernel_rfl)
            refine aw_true (x := .tmp 38) (by kernel_rfl) H (fun fr => by kernel_rfl) ?_
            refine aw_seq (by kernel_rfl) ?_
            refine aw_reg (id := 7) (n := 2) [(0, []), (1, [])] (by kernel_rfl) (by kernel_rfl) ?_
            obtain ⟨x4, hx, hm⟩ := bind_some hm
            refine at_step (v := .bool x4) (h1 := h) [(39, .bool x4)] H (fun fr => by kernel_rfl) (fun fr => Steps.call (by kernel_rfl) (ok_boulterlaw03_awake hx)) ?_
            intro fr t H
            refine at_seg [(1, [])] [(6, .bool x4)] H (noU_all rfl) (fun fr => by kernel_rfl) ?_
            intro fr H
            refine at_nil ?_
            show AW cfg 15 (⟨h.size, []⟩ : Gd) (right (left (right (left (right (right (right (right (right (bodyC cfg.P 15)))))))))) fr h _
            refine aw_ret (by kernel_rfl) ?_
            have e1 := Option.some.inj hm
            subst e1
            exact (doneE_of .ret H (fun fr => by kernel_rfl) (.inl rfl) : doneE cfg.P _ _ _ fr _)
          · replace H := H.know 38 hb (by kernel_rfl)
            refine aw_false (x := .tmp 38) (by kernel_rfl) H (fun fr => by kernel_rfl) ?_
            refine aw_skip (by kernel_rfl) ?_
            show AW cfg 15 (⟨h.size, []⟩ : Gd) (right (right (right (right (right (right (bodyC cfg.P 15))))))) fr h _
            refine aw_seq (by kernel_rfl) ?_
            refine aw_reg (id := 8) (n := 3) [(0, []), (1, []), (2, [])] (by kernel_rfl) (by kernel_rfl) ?_
            refine at_seg [(0, [])] [(2, .int .u8 p2), (8, .str x2), (10, .int .i64 (Int.tmod (IntKind.i64.wrap p1) (512 : Int))), (40, .str x2)] H (noU_all rfl) (fun fr => by kernel_rfl) ?_
            intro fr H
            obtain ⟨hb, hm⟩ := need_some hm
            obtain ⟨h1, hx, hm⟩ := bind_some hm
            refine at_step (v := .slice (some (h.size, 0)) x2.length) (h1 := h1) [(2, .int .u8 p2), (8, .str x2), (10, .int .i64 (Int.tmod (IntKind.i64.wrap p1) (512 : Int))), (41, .slice (some (h.size, 0)) x2.length)] H (fun fr => by kernel_rfl) (fun fr => .of (s_toB (by kernel_rfl) hb hx)) ?_
            intro fr t H
            refine at_seg [(2, [])] [(2, .int .u8 p2), (8, .str x2), (10, .int .i64 (Int.tmod (IntKind.i64.wrap p1) (512 : Int))), (11, .slice (some (h.size, 0)) x2.length)] H (noU_all rfl) (fun fr => by kernel_rfl) ?_
            intro fr H
            refine at_nil ?_
            show AW cfg 15 (⟨h.size, []⟩ : Gd) (right (right (right (right (right (right (right (bodyC cfg.P 15)))))))) fr h1 _
            refine aw_seq (by kernel_rfl) ?_
            refine aw_reg (id := 9) (n := 8) [(0, []), (1, []), (2, []), (3, []), (4, []), (5, []), (6, []), (7, [])] (by kernel_rfl) (by kernel_rfl) ?_
            refine at_seg [(0, []), (1, [])] [(2, .int .u8 p2), (8, .str x2), (11, .slice (some (h.size, 0)) x2.length), (42, .slice (some (h.size, 0)) x2.length), (43, .int .i64 (Int.tmod (IntKind.i64.wrap p1) (512 : Int)))] H (noU_all rfl) (fun fr => by kernel_rfl) ?_
            intro fr H
            obtain ⟨a1, hx, hm⟩ := bind_some hm
            refine at_step (v := .ptr (some a1)) (h1 := h1) [(2, .int .u8 p2), (8, .str x2), (11, .slice (some (h.size, 0)) x2.length), (42, .slice (some (h.size, 0)) x2.length), (43, .int .i64 (Int.tmod (IntKind.i64.wrap p1) (512 : Int))), (44, .ptr (some (a1.1, a1.2)))] H (fun fr => by kernel_rfl) (fun fr => .of (s_ixL (s := (⟨some (h.size, 0), x2.length⟩ : Sl)) (by kernel_rfl) hx)) ?_
            intro fr t H
            obtain ⟨x5, hx, hm⟩ := bind_some hm
            refine at_step (v := .int .u8 x5) (h1 := h1) [(2, .int .u8 p2), (8, .str x2), (11, .slice (some (h.size, 0)) x2.length), (42, .slice (some (h.size, 0)) x2.length), (43, .int .i64 (Int.tmod (IntKind.i64.wrap p1) (512 : Int))), (45, .int .u8 x5)] H (fun fr => by kernel_rfl) (fun fr => .of (s_ld (by kernel_rfl) (ldI_eq hx))) ?_
            intro fr t H
            refine at_seg [(4, []), (5, [])] [(8, .str x2), (11, .slice (some (h.size, 0)) x2.length), (42, .slice (some (h.size, 0)) x2.length), (43, .int .i64 (Int.tmod (IntKind.i64.wrap p1) (512 : Int))), (47, .int .u8 (IntKind.u8.wrap (x5 + p2)))] H (noU_all rfl) (fun fr => by kernel_rfl) ?_
            intro fr H
            obtain ⟨a2, hx, hm⟩ := bind_some hm
            refine at_step (v := .ptr (some a2)) (h1 := h1) [(8, .str x2), (11, .slice (some (h.size, 0)) x2.length), (47, .int .u8 (IntKind.u8.wrap (x5 + p2))), (48, .ptr (some (a2.1, a2.2)))] H (fun fr => by kernel_rfl) (fun fr => .of (s_ixL (s := (⟨some (h.size, 0), x2.length⟩ : Sl)) (by kernel_rfl) hx)) ?_
            intro fr t H
            obtain ⟨h2, hx, hm⟩ := bind_some hm
            refine at_step (v := .tuple []) (h1 := h2) [(8, .str x2), (11, .slice (some (h.size, 0)) x2.length)] H (fun fr => by kernel_rfl) (fun fr => .of (s_st (by kernel_rfl) rfl hx)) ?_
            intro fr t H
            refine at_nil ?_
            show AW cfg 15 (⟨h.size, []⟩ : Gd) (right (right (right (right (right (right (right (right (bodyC cfg.P 15))))))))) fr h2 _
            refine aw_seq (by kernel_rfl) ?_
            refine aw_draw (id := 10) (n := 23) (by kernel_rfl) [(0, []), (1, []), (3, []), (4, []), (2, [4]), (5, []), (6, []), (7, []), (8, []), (9, []), (11, []), (12, []), (10, [12]), (13, []), (14, []), (15, []), (16, []), (17, []), (18, []), (19, []), (20, []), (21, []), (22, [])] (by kernel_rfl) ?_
            refine at_seg [(0, [])] [(8, .str x2), (11, .slice (some (h.size, 0)) x2.length), (49, .slice (some (h.size, 0)) x2.length)] H (noU_all rfl) (fun fr => by kernel_rfl) ?_
            intro fr H
            obtain ⟨x6, hx, hm⟩ := bind_some hm
            refine at_stepT (v := .str x6) (h1 := h2) (tch' := [(1, h.size)]) ((⟨h.size, []⟩ : Gd).prot) [(8, .str x2), (11, .slice (some (h.size, 0)) x2.length), (50, .str x6)] H (fun fr => by kernel_rfl) (by kernel_rfl) (fun fr => by kernel_rfl) (fun fr => .of (s_byL (s := (⟨some (h.size, 0), x2.length⟩ : Sl)) (by kernel_rfl) hx)) ?_
            intro fr H
            refine at_seg [(3, [])] [(8, .str x2), (11, .slice (some (h.size, 0)) x2.length), (50, .str x6), (52, .slice (some (h.size, 0)) x2.length)] H (noU_all rfl) (fun fr => by kernel_rfl) ?_
            intro fr H
            obtain ⟨x7, hx, hm⟩ := bind_some hm
            refine at_stepT (v := .str x7) (h1 := h2) (tch' := [(4, h.size), (1, h.size)]) ((⟨h.size, []⟩ : Gd).prot) [(8, .str x2), (11, .slice (some (h.size, 0)) x2.length), (50, .str x6), (53, .str x7)] H (fun fr => by kernel_rfl) (by kernel_rfl) (fun fr => by kernel_rfl) (fun fr => .of (s_byL (s := (⟨some (h.size, 0), x2.length⟩ : Sl)) (by kernel_rfl) hx)) ?_
            intro fr H
            obtain ⟨x8, hx, hm⟩ := bind_some hm
            refine at_stepT (v := .bool x8) (h1 := h2) (tch' := [(4, h.size), (1, h.size)]) (h.size :: (⟨h.size, []⟩ : Gd).prot) [(8, .str x2), (11, .slice (some (h.size, 0)) x2.length), (51, .bool x8), (53, .str x7)] H (fun fr => by kernel_rfl) (by kernel_rfl) (fun fr => by kernel_rfl) (fun fr => Steps.call (by kernel_rfl) (ok_sums_Right hx)) ?_
            intro fr H
            obtain ⟨x9, hx, hm⟩ := bind_some hm
            refine at_stepT (v := .bool x9) (h1 := h2) (tch' := [(4, h.size), (1, h.size)]) ((⟨h.size, []⟩ : Gd).prot) [(8, .str x2), (11, .slice (some (h.size, 0)) x2.length), (51, .bool x8), (54, .bool x9)] H (fun fr => by kernel_rfl) (by kernel_rfl) (fun fr => by kernel_rfl) (fun fr => Steps.call (by kernel_rfl) (ok_boulterref03_Right hx)) ?_
            intro fr H
            refine at_seg [(6, []), (7, [])] [(8, .str x2), (11, .slice (some (h.size, 0)) x2.length), (56, .bool (x8 == x9))] H (noU_all rfl) (fun fr => by kernel_rfl) ?_
            intro fr H
            obtain ⟨x10, ho, hm⟩ := bind_some hm
            refine at_cut [(8, []), (9, []), (11, []), (12, []), (10, [12]), (13, []), (14, []), (15, []), (16, []), (17, []), (18, [])] (fun fr' h' => h2 = h' ∧ Has fr' 71 [(67, .bool x10)]) ?_ ?_
            · rcases iteB_some ho with ⟨hb, hm⟩ | ⟨hb, hm⟩
              · replace H := H.know 56 hb (by kernel_rfl)
                refine at_seg [(8, [])] [(8, .str x2), (11, .slice (some (h.size, 0)) x2.length), (56, .bool true), (57, .slice (some (h.size, 0)) x2.length)] H (noU_all rfl) (fun fr => by kernel_rfl) ?_
                intro fr H
                obtain ⟨x11, hx, hm⟩ := bind_some hm
                refine at_stepT (v := .str x11) (h1 := h2) (tch' := [(9, h.size), (4, h.size), (1, h.size)]) ((⟨h.size, []⟩ : Gd).prot) [(8, .str x2), (11, .slice (some (h.size, 0)) x2.length), (56, .bool true), (58, .str x11)] H (fun fr => by kernel_rfl) (by kernel_rfl) (fun fr => by kernel_rfl) (fun fr => .of (s_byL (s := (⟨some (h.size, 0), x2.length⟩ : Sl)) (by kernel_rfl) hx)) ?_
                intro fr H
                refine at_seg [(11, [])] [(8, .str x2), (56, .bool true), (58, .str x11), (60, .slice (some (h.size, 0)) x2.length)] H (noU_all rfl) (fun fr => by kernel_rfl) ?_
                intro fr H
                obtain ⟨x12, hx, hm⟩ := bind_some hm
                refine at_stepT (v := .str x12) (h1 := h2) (tch' := [(12, h.size), (9, h.size), (4, h.size), (1, h.size)]) ((⟨h.size, []⟩ : Gd).prot) [(8, .str x2), (56, .bool true), (58, .str x11), (61, .str x12)] H (fun fr => by kernel_rfl) (by kernel_rfl) (fun fr => by kernel_rfl) (fun fr => .of (s_byL (s := (⟨some (h.size, 0), x2.length⟩ : Sl)) (by kernel_rfl) hx)) ?_
                intro fr H
                obtain ⟨x13, hx, hm⟩ := bind_some hm
                refine at_stepT (v := .bool x13) (h1 := h2) (tch' := [(12, h.size), (9, h.size), (4, h.size), (1, h.size)]) (h.size :: (⟨h.size, []⟩ : Gd).prot) [(8, .str x2), (56, .bool true), (59, .bool x13), (61, .str x12)] H (fun fr => by kernel_rfl) (by kernel_rfl) (fun fr => by kernel_rfl) (fun fr => Steps.call (by kernel_rfl) (ok_sums_Right hx)) ?_
                intro fr H
                obtain ⟨x14, hx, hm⟩ := bind_some hm
                refine at_stepT (v := .int .i64 x14) (h1 := h2) (tch' := [(12, h.size), (9, h.size), (4, h.size), (1, h.size)]) ((⟨h.size, []⟩ : Gd).prot) [(8, .str x2), (56, .bool true), (59, .bool x13), (62, .int .i64 x14)] H (fun fr => by kernel_rfl) (by kernel_rfl) (fun fr => by kernel_rfl) (fun fr => Steps.call (by kernel_rfl) (ok_boulterref03_Sum hx)) ?_
                intro fr H
                refine at_seg [(14, [])] [(56, .bool true), (59, .bool x13), (62, .int .i64 x14), (63, .str x2)] H (noU_all rfl) (fun fr => by kernel_rfl) ?_
                intro fr H
                obtain ⟨x15, hx, hm⟩ := bind_some hm
                refine at_stepT (v := .int .i64 x15) (h1 := h2) (tch' := [(12, h.size), (9, h.size), (4, h.size), (1, h.size)]) ((⟨h.size, []⟩ : Gd).prot) [(56, .bool true), (59, .bool x13), (62, .int .i64 x14), (64, .int .i64 x15)] H (fun fr => by kernel_rfl) (by kernel_rfl) (fun fr => by kernel_rfl) (fun fr => Steps.call (by kernel_rfl) (ok_boulterref03_Sum hx)) ?_
                intro fr H
                refine at_seg [(16, []), (17, []), (18, [])] [(67, .bool (x13 == (x14 == x15)))] H (noU_all rfl) (fun fr => by kernel_rfl) ?_
                intro fr H
                have e1 := Option.some.inj hm
                subst e1
                exact at_nil ⟨rfl, H.less _ (fun fr => by kernel_rfl)⟩
              · replace H := H.know 56 hb (by kernel_rfl)
                refine at_seg [(8, []), (9, []), (11, []), (12, [])] [(8, .str x2), (56, .bool false), (58, .tuple []), (61, .tuple [])] H (noU_all rfl) (fun fr => by kernel_rfl) ?_
                intro fr H
                refine at_skip [(8, .str x2), (56, .bool false), (59, .tuple []), (61, .tuple [])] H (fun fr => by kernel_rfl) ?_
                intro fr H
                refine at_seg [(13, []), (14, []), (15, []), (16, []), (17, []), (18, [])] [(67, .bool false)] H (noU_all rfl) (fun fr => by kernel_rfl) ?_
                intro fr H
                have e1 := Option.some.inj hm
                subst e1
                exact at_nil ⟨rfl, H.less _ (fun fr => by kernel_rfl)⟩
            · intro t fr h' hK
              obtain ⟨e, H⟩ := hK
              subst e
              refine at_seg [(19, [])] [(68, .bool x10)] H (noU_all rfl) (fun fr => by kernel_rfl) ?_
              intro fr H
              obtain ⟨x16, ho, hm⟩ := bind_some hm
              refine at_cut [(20, []), (21, [])] (fun fr' h' => h2 = h' ∧ Has fr' 71 [(70, .bool x16)]) ?_ ?_
              · rcases iteB_some ho with ⟨hb, hm⟩ | ⟨hb, hm⟩
                · replace H := H.know 68 hb (by kernel_rfl)
                  obtain ⟨x17, hx, hm⟩ := bind_some hm
                  refine at_step (v := .bool x17) (h1 := h2) [(68, .bool true), (69, .bool x17)] H (fun fr => by kernel_rfl) (fun fr => Steps.call (by kernel_rfl) (ok_boulterlaw03_awake hx)) ?_
                  intro fr t H
                  refine at_seg [(21, [])] [(70, .bool x17)] H (noU_all rfl) (fun fr => by kernel_rfl) ?_
                  intro fr H
                  have e1 := Option.some.inj hm
                  subst e1
                  exact at_nil ⟨rfl, H.less _ (fun fr => by kernel_rfl)⟩
                · replace H := H.know 68 hb (by kernel_rfl)
                  refine at_seg [(20, []), (21, [])] [(70, .bool false)] H (noU_all rfl) (fun fr => by kernel_rfl) ?_
                  intro fr H
                  have e1 := Option.some.inj hm
                  subst e1
                  exact at_nil ⟨rfl, H.less _ (fun fr => by kernel_rfl)⟩
              · intro t fr h' hK
                obtain ⟨e, H⟩ := hK
                subst e
                refine at_seg [(22, [])] [(6, .bool x16)] H (noU_all rfl) (fun fr => by kernel_rfl) ?_
                intro fr H
                refine at_nil ?_
                show AW cfg 15 (⟨h.size, []⟩ : Gd) (right (right (right (right (right (right (right (right (right (bodyC cfg.P 15)))))))))) fr h2 _
                refine aw_ret (by kernel_rfl) ?_
                have e1 := Option.some.inj hm
                subst e1
                exact (doneE_of .ret H (fun fr => by kernel_rfl) (.inl rfl) : doneE cfg.P _ _ _ fr _)
/-! ### boulter/boulterlaw03.SumsTell -/
noncomputable def M_boulterlaw03_SumsTell (h : AHeap) (p0 : List UInt8) (p1 : List UInt8) : Option (Bool) :=
 (M_boulterlaw03_block h p0 p1).bind fun x1 => (M_sums_Sum h x1).bind fun (x2, x3) => (M_sums_Signed h x1).bind fun (x4, x5) => (M_boulterref03_Sum h x1 false).bind fun x6 => (iteB ((x2 != x6) || (x3 != (0 : Int))) (some true) ((M_boulterref03_Sum h x1 true).bind fun x8 => some (x4 != x8)) : Option (Bool)).bind fun x7 => (iteB (x7 || (x5 != (0 : Int))) (some true) ((M_sums_Right h x1).bind fun x10 => (M_boulterref03_Right h x1).bind fun x11 => some (!(x10 == x11))) : Option (Bool)).bind fun x9 => iteB x9 (some false) (iteB ((decide ((p0.length : Int) > (600 : Int))) || ((p0.length : Int) == (512 : Int))) ((M_boulterlaw03_awake h).bind fun x12 => some x12) ((M_sums_Sum h p0).bind fun (x13, x14) => (M_sums_Signed h p0).bind fun (x15, x16) => (M_sums_Seal h p0).bind fun (x17, x18) => (iteB ((((((x13 == (0 : Int)) && (x15 == (0 : Int))) && (x17 == ([] : List UInt8))) && (x14 == (1 : Int))) && (x16 == (1 : Int))) && (x18 == (1 : Int))) ((M_sums_Right h p0).bind fun x20 => some (!x20)) (some false) : Option (Bool)).bind fun x19 => (iteB x19 ((M_sums_Blank h p0).bind fun x22 => some (!x22)) (some false) : Option (Bool)).bind fun x21 => (iteB x21 ((M_boulterlaw03_awake h).bind fun x24 => some x24) (some false) : Option (Bool)).bind fun x23 => some x23))
theorem ok_boulterlaw03_SumsTell {g : Gd} {h : AHeap} {p0 : List UInt8} {p1 : List UInt8} {r0 : Bool} (hm : M_boulterlaw03_SumsTell h p0 p1 = some r0) : Runs cfg g h 16 [.str p0, .str p1] (.bool r0) h := by
  refine runs2E (by kernel_rfl) (by kernel_rfl) (body_ofE (n := 113) (rs := [.tmp 4]) (by kernel_rfl) ?_)
  unfold M_boulterlaw03_SumsTell at hm
  refine start (n := 113) [(0, .str p0), (1, .str p1)] (by kernel_rfl) (by kernel_rfl) ?_
  intro fr H
  refine aw_seq (by kernel_rfl) ?_
  refine aw_reg (id := 0) (n := 1) [(0, [])] (by kernel_rfl) (by kernel_rfl) ?_
  refine at_seg [(0, [])] [(0, .str p0), (1, .str p1)] H (noU_all rfl) (fun fr => by kernel_rfl) ?_
  intro fr H
  refine at_nil ?_
  show AW cfg 16 (⟨h.size, []⟩ : Gd) (right (bodyC cfg.P 16)) fr h _
  refine aw_seq (by kernel_rfl) ?_
  refine aw_reg (id := 1) (n := 4) [(0, []), (1, []), (2, []), (3, [])] (by kernel_rfl) (by kernel_rfl) ?_
  refine at_seg [(0, []), (1, [])] [(0, .str p0), (16, .str p0), (17, .str p1)] H (noU_all rfl) (fun fr => by kernel_rfl) ?_
  intro fr H
  obtain ⟨x1, hx, hm⟩ := bind_some hm
  refine at_step (v := .str x1) (h1 := h) [(0, .str p0), (18, .str x1)] H (fun fr => by kernel_rfl) (fun fr => Steps.call (by kernel_rfl) (ok_boulterlaw03_block hx)) ?_
  intro fr t H
  refine at_seg [(3, [])] [(0, .str p0), (5, .str x1)] H (noU_all rfl) (fun fr => by kernel_rfl) ?_
  intro fr H
  refine at_nil ?_
  show AW cfg 16 (⟨h.size, []⟩ : Gd) (right (right (bodyC cfg.P 16))) fr h _
  refine aw_seq (by kernel_rfl) ?_
  refine aw_reg (id := 2) (n := 7) [(0, []), (1, []), (2, []), (3, []), (4, []), (5, []), (6, [])] (by kernel_rfl) (by kernel_rfl) ?_
  refine at_seg [(0, [])] [(0, .str p0), (5, .str x1), (20, .str x1)] H (noU_all rfl) (fun fr => by kernel_rfl) ?_
  intro fr H
  obtain ⟨⟨x2, x3⟩, hx, hm⟩ := bind_some hm
  refine at_step (v := .tuple [.int .i64 x2, .int .i64 x3]) (h1 := h) [(0, .str p0), (5, .str x1), (21, .tuple [.int .i64 x2, .int .i64 x3])] H (fun fr => by kernel_rfl) (fun fr => Steps.call (by kernel_rfl) (ok_sums_Sum hx)) ?_
  intro fr t H
  refine at_seg [(2, []), (3, []), (4, []), (5, []), (6, [])] [(0, .str p0), (5, .str x1), (6, .int .i64 x2), (7, .int .i64 x3)] H (noU_all rfl) (fun fr => by kernel_rfl) ?_
  intro fr H
  refine at_nil ?_
  show AW cfg 16 (⟨h.size, []⟩ : Gd) (right (right (right (bodyC cfg.P 16)))) fr h _
  refine aw_seq (by kernel_rfl) ?_
  refine aw_reg (id := 3) (n := 7) [(0, []), (1, []), (2, []), (3, []), (4, []), (5, []), (6, [])] (by kernel_rfl) (by kernel_rfl) ?_
  refine at_seg [(0, [])] [(0, .str p0), (5, .str x1), (6, .int .i64 x2), (7, .int .i64 x3), (25, .str x1)] H (noU_all rfl) (fun fr => by kernel_rfl) ?_
  intro fr H
  obtain ⟨⟨x4, x5⟩, hx, hm⟩ := bind_some hm
  refine at_step (v := .tuple [.int .i64 x4, .int .i64 x5]) (h1 := h) [(0, .str p0), (5, .str x1), (6, .int .i64 x2), (7, .int .i64 x3), (26, .tuple [.int .i64 x4, .int .i64 x5])] H (fun fr => by kernel_rfl) (fun fr => Steps.call (by kernel_rfl) (ok_sums_Signed hx)) ?_
  intro fr t H
  refine at_seg [(2, []), (3, []), (4, []), (5, []), (6, [])] [(0, .str p0), (5, .str x1), (6, .int .i64 x2), (7, .int .i64 x3), (8, .int .i64 x4), (9, .int .i64 x5)] H (noU_all rfl) (fun fr => by kernel_rfl) ?_
  intro fr H
  refine at_nil ?_
  show AW cfg 16 (⟨h.size, []⟩ : Gd) (right (right (right (right (bodyC cfg.P 16))))) fr h _
  refine aw_seq (by kernel_rfl) ?_
  refine aw_seq (by kernel_rfl) ?_
  refine aw_reg (id := 4) (n := 25) [(0, []), (1, []), (2, []), (3, []), (4, []), (5, []), (6, []), (7, []), (8, []), (9, []), (10, []), (11, []), (12, []), (13, []), (14, []), (15, []), (16, []), (17, []), (18, []), (19, []), (20, []), (21, []), (22, []), (23, []), (24, [])] (by kernel_rfl) (by kernel_rfl) ?_
  refine at_seg [(0, []), (1, [])] [(0, .str p0), (5, .str x1), (7, .int .i64 x3), (8, .int .i64 x4), (9, .int .i64 x5), (29, .int .i64 x2), (30, .str x1)] H (noU_all rfl) (fun fr => by kernel_rfl) ?_
  intro fr H
  obtain ⟨x6, hx, hm⟩ := bind_some hm
  refine at_step (v := .int .i64 x6) (h1 := h) [(0, .str p0), (5, .str x1), (7, .int .i64 x3), (8, .int .i64 x4), (9, .int .i64 x5), (29, .int .i64 x2), (31, .int .i64 x6)] H (fun fr => by kernel_rfl) (fun fr => Steps.call (by kernel_rfl) (ok_boulterref03_Sum hx)) ?_
  intro fr t H
  refine at_seg [(3, []), (4, [])] [(0, .str p0), (5, .str x1), (7, .int .i64 x3), (8, .int .i64 x4), (9, .int .i64 x5), (33, .bool (x2 != x6))] H (noU_all rfl) (fun fr => by kernel_rfl) ?_
  intro fr H
  refine at_cut [(5, []), (6, []), (7, [])] (fun fr' h' => h = h' ∧ Has fr' 113 [(0, .str p0), (5, .str x1), (8, .int .i64 x4), (9, .int .i64 x5), (36, .bool ((x2 != x6) || (x3 != (0 : Int))))]) ?_ ?_
  · cases hb : (x2 != x6 : Bool) with
    | true =>
      replace H := H.know 33 hb (by kernel_rfl)
      refine at_seg [(5, []), (6, []), (7, [])] [(0, .str p0), (5, .str x1), (8, .int .i64 x4), (9, .int .i64 x5), (36, .bool true)] H (noU_all rfl) (fun fr => by kernel_rfl) ?_
      intro fr H
      exact at_nil ⟨rfl, by first | exact H.less _ (fun fr => by rfl) | exact H.less _ (fun fr => by rw [hb]; rfl)⟩
    | false =>
      replace H := H.know 33 hb (by kernel_rfl)
      refine at_seg [(5, []), (6, []), (7, [])] [(0, .str p0), (5, .str x1), (8, .int .i64 x4), (9, .int .i64 x5), (36, .bool (x3 != (0 : Int)))] H (noU_all rfl) (fun fr => by kernel_rfl) ?_
      intro fr H
      exact at_nil ⟨rfl, by first | exact H.less _ (fun fr => by rfl) | exact H.less _ (fun fr => by rw [hb]; rfl)⟩
  · intro t fr h' hK
    obtain ⟨e, H⟩ := hK
    subst e
    refine at_seg [(8, [])] [(0, .str p0), (5, .str x1), (8, .int .i64 x4), (9, .int .i64 x5), (37, .bool ((x2 != x6) || (x3 != (0 : Int))))] H (noU_all rfl) (fun fr => by kernel_rfl) ?_
    intro fr H
    obtain ⟨x7, ho, hm⟩ := bind_some hm
    refine at_cut [(9, []), (10, []), (11, []), (12, []), (13, [])] (fun fr' h' => h = h' ∧ Has fr' 113 [(0, .str p0), (5, .str x1), (9, .int .i64 x5), (42, .bool x7)]) ?_ ?_
    · rcases iteB_some ho with ⟨hb, hm⟩ | ⟨hb, hm⟩
      · replace H := H.know 37 hb (by kernel_rfl)
        refine at_seg [(9, []), (10, []), (11, []), (12, []), (13, [])] [(0, .str p0), (5, .str x1), (9, .int .i64 x5), (42, .bool true)] H (noU_all rfl) (fun fr => by kernel_rfl) ?_
        intro fr H
        have e1 := Option.some.inj hm
        subst e1
        exact at_nil ⟨rfl, H.less _ (fun fr => by kernel_rfl)⟩
      · replace H := H.know 37 hb (by kernel_rfl)
        refine at_seg [(9, []), (10, [])] [(0, .str p0), (5, .str x1), (9, .int .i64 x5), (37, .bool false), (38, .int .i64 x4), (39, .str x1)] H (noU_all rfl) (fun fr => by kernel_rfl) ?_
        intro fr H
        obtain ⟨x8, hx, hm⟩ := bind_some hm
        refine at_step (v := .int .i64 x8) (h1 := h) [(0, .str p0), (5, .str x1), (9, .int .i64 x5), (37, .bool false), (38, .int .i64 x4), (40, .int .i64 x8)] H (fun fr => by kernel_rfl) (fun fr => Steps.call (by kernel_rfl) (ok_boulterref03_Sum hx)) ?_
        intro fr t H
        refine at_seg [(12, []), (13, [])] [(0, .str p0), (5, .str x1), (9, .int .i64 x5), (42, .bool (x4 != x8))] H (noU_all rfl) (fun fr => by kernel_rfl) ?_
        intro fr H
        have e1 := Option.some.inj hm
        subst e1
        exact at_nil ⟨rfl, H.less _ (fun fr => by kernel_rfl)⟩
    · intro t fr h' hK
      obtain ⟨e, H⟩ := hK
      subst e
      refine at_seg [(14, [])] [(0, .str p0), (5, .str x1), (9, .int .i64 x5), (43, .bool x7)] H (noU_all rfl) (fun fr => by kernel_rfl) ?_
      intro fr H
      refine at_cut [(15, []), (16, []), (17, [])] (fun fr' h' => h = h' ∧ Has fr' 113 [(0, .str p0), (5, .str x1), (46, .bool (x7 || (x5 != (0 : Int))))]) ?_ ?_
      · cases hb : (x7 : Bool) with
        | true =>
          replace H := H.know 43 hb (by kernel_rfl)
          refine at_seg [(15, []), (16, []), (17, [])] [(0, .str p0), (5, .str x1), (46, .bool true)] H (noU_all rfl) (fun fr => by kernel_rfl) ?_
          intro fr H
          exact at_nil ⟨rfl, by first | exact H.less _ (fun fr => by rfl) | exact H.less _ (fun fr => by rw [hb]; rfl)⟩
        | false =>
          replace H := H.know 43 hb (by kernel_rfl)
          refine at_seg [(15, []), (16, []), (17, [])] [(0, .str p0), (5, .str x1), (46, .bool (x5 != (0 : Int)))] H (noU_all rfl) (fun fr => by kernel_rfl) ?_
          intro fr H
          exact at_nil ⟨rfl, by first | exact H.less _ (fun fr => by rfl) | exact H.less _ (fun fr => by rw [hb]; rfl)⟩
      · intro t fr h' hK
        obtain ⟨e, H⟩ := hK
        subst e
        refine at_seg [(18, [])] [(0, .str p0), (5, .str x1), (47, .bool (x7 || (x5 != (0 : Int))))] H (noU_all rfl) (fun fr => by kernel_rfl) ?_
        intro fr H
        obtain ⟨x9, ho, hm⟩ := bind_some hm
        refine at_cut [(19, []), (20, []), (21, []), (22, []), (23, []), (24, [])] (fun fr' h' => h = h' ∧ Has fr' 113 [(0, .str p0), (53, .bool x9)]) ?_ ?_
        · rcases iteB_some ho with ⟨hb, hm⟩ | ⟨hb, hm⟩
          · replace H := H.know 47 hb (by kernel_rfl)
            refine at_seg [(19, []), (20, []), (21, []), (22, []), (23, []), (24, [])] [(0, .str p0), (53, .bool true)] H (noU_all rfl) (fun fr => by kernel_rfl) ?_
            intro fr H
            have e1 := Option.some.inj hm
            subst e1
            exact at_nil ⟨rfl, H.less _ (fun fr => by kernel_rfl)⟩
          · replace H := H.know 47 hb (by kernel_rfl)
            refine at_seg [(19, [])] [(0, .str p0), (5, .str x1), (47, .bool false), (48, .str x1)] H (noU_all rfl) (fun fr => by kernel_rfl) ?_
            intro fr H
            obtain ⟨x10, hx, hm⟩ := bind_some hm
            refine at_step (v := .bool x10) (h1 := h) [(0, .str p0), (5, .str x1), (47, .bool false), (49, .bool x10)] H (fun fr => by kernel_rfl) (fun fr => Steps.call (by kernel_rfl) (ok_sums_Right hx)) ?_
            intro fr t H
            refine at_seg [(21, [])] [(0, .str p0), (47, .bool false), (49, .bool x10), (50, .str x1)] H (noU_all rfl) (fun fr => by kernel_rfl) ?_
            intro fr H
            obtain ⟨x11, hx, hm⟩ := bind_some hm
            refine at_step (v := .bool x11) (h1 := h) [(0, .str p0), (47, .bool false), (49, .bool x10), (51, .bool x11)] H (fun fr => by kernel_rfl) (fun fr => Steps.call (by kernel_rfl) (ok_boulterref03_Right hx)) ?_
            intro fr t H
            refine at_seg [(23, []), (24, [])] [(0, .str p0), (53, .bool (!(x10 == x11)))] H (noU_all rfl) (fun fr => by kernel_rfl) ?_
            intro fr H
            have e1 := Option.some.inj hm
            subst e1
            exact at_nil ⟨rfl, H.less _ (fun fr => by kernel_rfl)⟩
        · intro t fr h' hK
          obtain ⟨e, H⟩ := hK
          subst e
          refine at_nil ?_
          show AW cfg 16 (⟨h.size, []⟩ : Gd) (right (left (right (right (right (right (bodyC cfg.P 16))))))) fr h _
          rcases iteB_some hm with ⟨hb, hm⟩ | ⟨hb, hm⟩
          · replace H := H.know 53 hb (by kernel_rfl)
            refine aw_true (x := .tmp 53) (by kernel_rfl) H (fun fr => by kernel_rfl) ?_
            refine aw_seq (by kernel_rfl) ?_
            refine aw_reg (id := 5) (n := 1) [(0, [])] (by kernel_rfl) (by kernel_rfl) ?_
            refine at_seg [(0, [])] [(4, .bool false)] H (noU_all rfl) (fun fr => by kernel_rfl) ?_
            intro fr H
            refine at_nil ?_
            show AW cfg 16 (⟨h.size, []⟩ : Gd) (right (left (right (left (right (right (right (right (bodyC cfg.P 16))))))))) fr h _
            refine aw_ret (by kernel_rfl) ?_
            have e1 := Option.some.inj hm
            subst e1
            exact (doneE_of .ret H (fun fr => by kernel_rfl) (.inl rfl) : doneE cfg.P _ _ _ fr _)
          · replace H := H.know 53 hb (by kernel_rfl)
            refine aw_false (x := .tmp 53) (by kernel_rfl) H (fun fr => by kernel_rfl) ?_
            refine aw_skip (by kernel_rfl) ?_
            show AW cfg 16 (⟨h.size, []⟩ : Gd) (right (right (right (right (right (bodyC cfg.P 16)))))) fr h _
            refine aw_seq (by kernel_rfl) ?_
            refine aw_seq (by kernel_rfl) ?_
            refine aw_reg (id := 6) (n := 8) [(0, []), (1, []), (2, []), (3, []), (4, []), (5, []), (6, []), (7, [])] (by kernel_rfl) (by kernel_rfl) ?_
            refine at_seg [(0, []), (1, []), (2, []), (3, [])] [(0, .str p0), (57, .bool (decide ((p0.length : Int) > (600 : Int))))] H (noU_all rfl) (fun fr => by kernel_rfl) ?_
            intro fr H
            refine at_cut [(4, []), (5, []), (6, []), (7, [])] (fun fr' h' => h = h' ∧ Has fr' 113 [(0, .str p0), (61, .bool ((decide ((p0.length : Int) > (600 : Int))) || ((p0.length : Int) == (512 : Int))))]) ?_ ?_
            · cases hb : (decide ((p0.length : Int) > (600 : Int)) : Bool) with
              | true =>
                replace H := H.know 57 hb (by kernel_rfl)
                refine at_seg [(4, []), (5, []), (6, []), (7, [])] [(0, .str p0), (61, .bool true)] H (noU_all rfl) (fun fr => by kernel_rfl) ?_
                intro fr H
                exact at_nil ⟨rfl, by first | exact H.less _ (fun fr => by rfl) | exact H.less _ (fun fr => by rw [hb]; rfl)⟩
              | false =>
                replace H := H.know 57 hb (by kernel_rfl)
                refine at_seg [(4, []), (5, []), (6, []), (7, [])] [(0, .str p0), (61, .bool ((p0.length : Int) == (512 : Int)))] H (noU_all rfl) (fun fr => by kernel_rfl) ?_
                intro fr H
                exact at_nil ⟨rfl, by first | exact H.less _ (fun fr => by rfl) | exact H.less _ (fun fr => by rw [hb]; rfl)⟩
            · intro t fr h' hK
              obtain ⟨e, H⟩ := hK
              subst e
              refine at_nil ?_
              show AW cfg 16 (⟨h.size, []⟩ : Gd) (right (left (right (right (right (right (right (bodyC cfg.P 16)))))))) fr h _
              rcases iteB_some hm with ⟨hb, hm⟩ | ⟨hb, hm⟩
              · replace H := H.know 61 hb (by kernel_rfl)
                refine aw_true (x := .tmp 61) (by kernel_rfl) H (fun fr => by kernel_rfl) ?_
                refine aw_seq (by kernel_rfl) ?_
                refine aw_reg (id := 7) (n := 2) [(0, []), (1, [])] (by kernel_rfl) (by kernel_rfl) ?_
                obtain ⟨x12, hx, hm⟩ := bind_some hm
                refine at_step (v := .bool x12) (h1 := h) [(62, .bool x12)] H (fun fr => by kernel_rfl) (fun fr => Steps.call (by kernel_rfl) (ok_boulterlaw03_awake hx)) ?_
                intro fr t H
                refine at_seg [(1, [])] [(4, .bool x12)] H (noU_all rfl) (fun fr => by kernel_rfl) ?_
                intro fr H
                refine at_nil ?_
                show AW cfg 16 (⟨h.size, []⟩ : Gd) (right (left (right (left (right (right (right (right (right (bodyC cfg.P 16)))))))))) fr h _
                refine aw_ret (by kernel_rfl) ?_
                have e1 := Option.some.inj hm
                subst e1
                exact (doneE_of .ret H (fun fr => by kernel_rfl) (.inl rfl) : doneE cfg.P _ _ _ fr _)
              · replace H := H.know 61 hb (by kernel_rfl)
                refine aw_false (x := .tmp 61) (by kernel_rfl) H (fun fr => by kernel_rfl) ?_
                refine aw_skip (by kernel_rfl) ?_
                show AW cfg 16 (⟨h.size, []⟩ : Gd) (right (right (right (right (right (right (bodyC cfg.P 16))))))) fr h _
                refine aw_seq (by kernel_rfl) ?_
                refine aw_reg (id := 8) (n := 7) [(0, []), (1, []), (2, []), (3, []), (4, []), (5, []), (6, [])] (by kernel_rfl) (by kernel_rfl) ?_
                refine at_seg [(0, [])] [(0, .str p0), (64, .str p0)] H (noU_all rfl) (fun fr => by kernel_rfl) ?_
                intro fr H
                obtain ⟨⟨x13, x14⟩, hx, hm⟩ := bind_some hm
                refine at_step (v := .tuple [.int .i64 x13, .int .i64 x14]) (h1 := h) [(0, .str p0), (65, .tuple [.int .i64 x13, .int .i64 x14])] H (fun fr => by kernel_rfl) (fun fr => Steps.call (by kernel_rfl) (ok_sums_Sum hx)) ?_
                intro fr t H
                refine at_seg [(2, []), (3, []), (4, []), (5, []), (6, [])] [(0, .str p0), (10, .int .i64 x13), (11, .int .i64 x14)] H (noU_all rfl) (fun fr => by kernel_rfl) ?_
                intro fr H
                refine at_nil ?_
                show AW cfg 16 (⟨h.size, []⟩ : Gd) (right (right (right (right (right (right (right (bodyC cfg.P 16)))))))) fr h _
                refine aw_seq (by kernel_rfl) ?_
                refine aw_reg (id := 9) (n := 7) [(0, []), (1, []), (2, []), (3, []), (4, []), (5, []), (6, [])] (by kernel_rfl) (by kernel_rfl) ?_
                refine at_seg [(0, [])] [(0, .str p0), (10, .int .i64 x13), (11, .int .i64 x14), (69, .str p0)] H (noU_all rfl) (fun fr => by kernel_rfl) ?_
                intro fr H
                obtain ⟨⟨x15, x16⟩, hx, hm⟩ := bind_some hm
                refine at_step (v := .tuple [.int .i64 x15, .int .i64 x16]) (h1 := h) [(0, .str p0), (10, .int .i64 x13), (11, .int .i64 x14), (70, .tuple [.int .i64 x15, .int .i64 x16])] H (fun fr => by kernel_rfl) (fun fr => Steps.call (by kernel_rfl) (ok_sums_Signed hx)) ?_
                intro fr t H
                refine at_seg [(2, []), (3, []), (4, []), (5, []), (6, [])] [(0, .str p0), (10, .int .i64 x13), (11, .int .i64 x14), (12, .int .i64 x15), (13, .int .i64 x16)] H (noU_all rfl) (fun fr => by kernel_rfl) ?_
                intro fr H
                refine at_nil ?_
                show AW cfg 16 (⟨h.size, []⟩ : Gd) (right (right (right (right (right (right (right (right (bodyC cfg.P 16))))))))) fr h _
                refine aw_seq (by kernel_rfl) ?_
                refine aw_reg (id := 10) (n := 7) [(0, []), (1, []), (2, []), (3, []), (4, []), (5, []), (6, [])] (by kernel_rfl) (by kernel_rfl) ?_
                refine at_seg [(0, [])] [(0, .str p0), (10, .int .i64 x13), (11, .int .i64 x14), (12, .int .i64 x15), (13, .int .i64 x16), (74, .str p0)] H (noU_all rfl) (fun fr => by kernel_rfl) ?_
                intro fr H
                obtain ⟨⟨x17, x18⟩, hx, hm⟩ := bind_some hm
                refine at_step (v := .tuple [.str x17, .int .i64 x18]) (h1 := h) [(0, .str p0), (10, .int .i64 x13), (11, .int .i64 x14), (12, .int .i64 x15), (13, .int .i64 x16), (75, .tuple [.str x17, .int .i64 x18])] H (fun fr => by kernel_rfl) (fun fr => Steps.call (by kernel_rfl) (ok_sums_Seal hx)) ?_
                intro fr t H
                refine at_seg [(2, []), (3, []), (4, []), (5, []), (6, [])] [(0, .str p0), (10, .int .i64 x13), (11, .int .i64 x14), (12, .int .i64 x15), (13, .int .i64 x16), (14, .str x17), (15, .int .i64 x18)] H (noU_all rfl) (fun fr => by kernel_rfl) ?_
                intro fr H
                refine at_nil ?_
                show AW cfg 16 (⟨h.size, []⟩ : Gd) (right (right (right (right (right (right (right (right (right (bodyC cfg.P 16)))))))))) fr h _
                refine aw_seq (by kernel_rfl) ?_
                refine aw_reg (id := 11) (n := 36) [(0, []), (1, []), (2, []), (3, []), (4, []), (5, []), (6, []), (7, []), (8, []), (9, []), (10, []), (11, []), (12, []), (13, []), (14, []), (15, []), (16, []), (17, []), (18, []), (19, []), (20, []), (21, []), (22, []), (23, []), (24, []), (25, []), (26, []), (27, []), (28, []), (29, []), (30, []), (31, []), (32, []), (33, []), (34, []), (35, [])] (by kernel_rfl) (by kernel_rfl) ?_
                refine at_seg [(0, []), (1, []), (2, [])] [(0, .str p0), (11, .int .i64 x14), (12, .int .i64 x15), (13, .int .i64 x16), (14, .str x17), (15, .int .i64 x18), (80, .bool (x13 == (0 : Int)))] H (noU_all rfl) (fun fr => by kernel_rfl) ?_
                intro fr H
                refine at_cut [(3, []), (4, []), (5, [])] (fun fr' h' => h = h' ∧ Has fr' 113 [(0, .str p0), (11, .int .i64 x14), (13, .int .i64 x16), (14, .str x17), (15, .int .i64 x18), (83, .bool ((x13 == (0 : Int)) && (x15 == (0 : Int))))]) ?_ ?_
                · cases hb : (x13 == (0 : Int) : Bool) with
                  | true =>
                    replace H := H.know 80 hb (by kernel_rfl)
                    refine at_seg [(3, []), (4, []), (5, [])] [(0, .str p0), (11, .int .i64 x14), (13, .int .i64 x16), (14, .str x17), (15, .int .i64 x18), (83, .bool (x15 == (0 : Int)))] H (noU_all rfl) (fun fr => by kernel_rfl) ?_
                    intro fr H
                    exact at_nil ⟨rfl, by first | exact H.less _ (fun fr => by rfl) | exact H.less _ (fun fr => by rw [hb]; rfl)⟩
                  | false =>
                    replace H := H.know 80 hb (by kernel_rfl)
                    refine at_seg [(3, []), (4, []), (5, [])] [(0, .str p0), (11, .int .i64 x14), (13, .int .i64 x16), (14, .str x17), (15, .int .i64 x18), (83, .bool false)] H (noU_all rfl) (fun fr => by kernel_rfl) ?_
                    intro fr H
                    exact at_nil ⟨rfl, by first | exact H.less _ (fun fr => by rfl) | exact H.less _ (fun fr => by rw [hb]; rfl)⟩
                · intro t fr h' hK
                  obtain ⟨e, H⟩ := hK
                  subst e
                  refine at_seg [(6, [])] [(0, .str p0), (11, .int .i64 x14), (13, .int .i64 x16), (14, .str x17), (15, .int .i64 x18), (84, .bool ((x13 == (0 : Int)) && (x15 == (0 : Int))))] H (noU_all rfl) (fun fr => by kernel_rfl) ?_
                  intro fr H
                  refine at_cut [(7, []), (8, []), (9, [])] (fun fr' h' => h = h' ∧ Has fr' 113 [(0, .str p0), (11, .int .i64 x14), (13, .int .i64 x16), (15, .int .i64 x18), (87, .bool (((x13 == (0 : Int)) && (x15 == (0 : Int))) && (x17 == ([] : List UInt8))))]) ?_ ?_
                  · cases hb : ((x13 == (0 : Int)) && (x15 == (0 : Int)) : Bool) with
                    | true =>
                      replace H := H.know 84 hb (by kernel_rfl)
                      refine at_seg [(7, []), (8, []), (9, [])] [(0, .str p0), (11, .int .i64 x14), (13, .int .i64 x16), (15, .int .i64 x18), (87, .bool (x17 == ([] : List UInt8)))] H (noU_all rfl) (fun fr => by kernel_rfl) ?_
                      intro fr H
                      exact at_nil ⟨rfl, by first | exact H.less _ (fun fr => by rfl) | exact H.less _ (fun fr => by rw [hb]; rfl)⟩
                    | false =>
                      replace H := H.know 84 hb (by kernel_rfl)
                      refine at_seg [(7, []), (8, []), (9, [])] [(0, .str p0), (11, .int .i64 x14), (13, .int .i64 x16), (15, .int .i64 x18), (87, .bool false)] H (noU_all rfl) (fun fr => by kernel_rfl) ?_
                      intro fr H
                      exact at_nil ⟨rfl, by first | exact H.less _ (fun fr => by rfl) | exact H.less _ (fun fr => by rw [hb]; rfl)⟩
                  · intro t fr h' hK
                    obtain ⟨e, H⟩ := hK
                    subst e
                    refine at_seg [(10, [])] [(0, .str p0), (11, .int .i64 x14), (13, .int .i64 x16), (15, .int .i64 x18), (88, .bool (((x13 == (0 : Int)) && (x15 == (0 : Int))) && (x17 == ([] : List UInt8))))] H (noU_all rfl) (fun fr => by kernel_rfl) ?_
                    intro fr H
                    refine at_cut [(11, []), (12, []), (13, [])] (fun fr' h' => h = h' ∧ Has fr' 113 [(0, .str p0), (13, .int .i64 x16), (15, .int .i64 x18), (91, .bool ((((x13 == (0 : Int)) && (x15 == (0 : Int))) && (x17 == ([] : List UInt8))) && (x14 == (1 : Int))))]) ?_ ?_
                    · cases hb : (((x13 == (0 : Int)) && (x15 == (0 : Int))) && (x17 == ([] : List UInt8)) : Bool) with
                      | true =>
                        replace H := H.know 88 hb (by kernel_rfl)
                        refine at_seg [(11, []), (12, []), (13, [])] [(0, .str p0), (13, .int .i64 x16), (15, .int .i64 x18), (91, .bool (x14 == (1 : Int)))] H (noU_all rfl) (fun fr => by kernel_rfl) ?_
                        intro fr H
                        exact at_nil ⟨rfl, by first | exact H.less _ (fun fr => by rfl) | exact H.less _ (fun fr => by rw [hb]; rfl)⟩
                      | false =>
                        replace H := H.know 88 hb (by kernel_rfl)
                        refine at_seg [(11, []), (12, []), (13, [])] [(0, .str p0), (13, .int .i64 x16), (15, .int .i64 x18), (91, .bool false)] H (noU_all rfl) (fun fr => by kernel_rfl) ?_
                        intro fr H
                        exact at_nil ⟨rfl, by first | exact H.less _ (fun fr => by rfl) | exact H.less _ (fun fr => by rw [hb]; rfl)⟩
                    · intro t fr h' hK
                      obtain ⟨e, H⟩ := hK
                      subst e
                      refine at_seg [(14, [])] [(0, .str p0), (13, .int .i64 x16), (15, .int .i64 x18), (92, .bool ((((x13 == (0 : Int)) && (x15 == (0 : Int))) && (x17 == ([] : List UInt8))) && (x14 == (1 : Int))))] H (noU_all rfl) (fun fr => by kernel_rfl) ?_
                      intro fr H
                      refine at_cut [(15, []), (16, []), (17, [])] (fun fr' h' => h = h' ∧ Has fr' 113 [(0, .str p0), (15, .int .i64 x18), (95, .bool (((((x13 == (0 : Int)) && (x15 == (0 : Int))) && (x17 == ([] : List UInt8))) && (x14 == (1 : Int))) && (x16 == (1 : Int))))]) ?_ ?_
                      · cases hb : ((((x13 == (0 : Int)) && (x15 == (0 : Int))) && (x17 == ([] : List UInt8))) && (x14 == (1 : Int)) : Bool) with
                        | true =>
                          replace H := H.know 92 hb (by kernel_rfl)
                          refine at_seg [(15, []), (16, []), (17, [])] [(0, .str p0), (15, .int .i64 x18), (95, .bool (x16 == (1 : Int)))] H (noU_all rfl) (fun fr => by kernel_rfl) ?_
                          intro fr H
                          exact at_nil ⟨rfl, by first | exact H.less _ (fun fr => by rfl) | exact H.less _ (fun fr => by rw [hb]; rfl)⟩
                        | false =>
                          replace H := H.know 92 hb (by kernel_rfl)
                          refine at_seg [(15, []), (16, []), (17, [])] [(0, .str p0), (15, .int .i64 x18), (95, .bool false)] H (noU_all rfl) (fun fr => by kernel_rfl) ?_
                          intro fr H
                          exact at_nil ⟨rfl, by first | exact H.less _ (fun fr => by rfl) | exact H.less _ (fun fr => by rw [hb]; rfl)⟩
                      · intro t fr h' hK
                        obtain ⟨e, H⟩ := hK
                        subst e
                        refine at_seg [(18, [])] [(0, .str p0), (15, .int .i64 x18), (96, .bool (((((x13 == (0 : Int)) && (x15 == (0 : Int))) && (x17 == ([] : List UInt8))) && (x14 == (1 : Int))) && (x16 == (1 : Int))))] H (noU_all rfl) (fun fr => by kernel_rfl) ?_
                        intro fr H
                        refine at_cut [(19, []), (20, []), (21, [])] (fun fr' h' => h = h' ∧ Has fr' 113 [(0, .str p0), (99, .bool ((((((x13 == (0 : Int)) && (x15 == (0 : Int))) && (x17 == ([] : List UInt8))) && (x14 == (1 : Int))) && (x16 == (1 : Int))) && (x18 == (1 : Int))))]) ?_ ?_
                        · cases hb : (((((x13 == (0 : Int)) && (x15 == (0 : Int))) && (x17 == ([] : List UInt8))) && (x14 == (1 : Int))) && (x16 == (1 : Int)) : Bool) with
                          | true =>
                            replace H := H.know 96 hb (by kernel_rfl)
                            refine at_seg [(19, []), (20, []), (21, [])] [(0, .str p0), (99, .bool (x18 == (1 : Int)))] H (noU_all rfl) (fun fr => by kernel_rfl) ?_
                            intro fr H
                            exact at_nil ⟨rfl, by first | exact H.less _ (fun fr => by rfl) | exact H.less _ (fun fr => by rw [hb]; rfl)⟩
                          | false =>
                            replace H := H.know 96 hb (by kernel_rfl)
                            refine at_seg [(19, []), (20, []), (21, [])] [(0, .str p0), (99, .bool false)] H (noU_all rfl) (fun fr => by kernel_rfl) ?_
                            intro fr H
                            exact at_nil ⟨rfl, by first | exact H.less _ (fun fr => by rfl) | exact H.less _ (fun fr => by rw [hb]; rfl)⟩
                        · intro t fr h' hK
                          obtain ⟨e, H⟩ := hK
                          subst e
                          refine at_seg [(22, [])] [(0, .str p0), (100, .bool ((((((x13 == (0 : Int)) && (x15 == (0 : Int))) && (x17 == ([] : List UInt8))) && (x14 == (1 : Int))) && (x16 == (1 : Int))) && (x18 == (1 : Int))))] H (noU_all rfl) (fun fr => by kernel_rfl) ?_
                          intro fr H
                          obtain ⟨x19, ho, hm⟩ := bind_some hm
                          refine at_cut [(23, []), (24, []), (25, []), (26, [])] (fun fr' h' => h = h' ∧ Has fr' 113 [(0, .str p0), (104, .bool x19)]) ?_ ?_
                          · rcases iteB_some ho with ⟨hb, hm⟩ | ⟨hb, hm⟩
                            · replace H := H.know 100 hb (by kernel_rfl)
                              refine at_seg [(23, [])] [(0, .str p0), (100, .bool true), (101, .str p0)] H (noU_all rfl) (fun fr => by kernel_rfl) ?_
                              intro fr H
                              obtain ⟨x20, hx, hm⟩ := bind_some hm
                              refine at_step (v := .bool x20) (h1 := h) [(0, .str p0), (100, .bool true), (102, .bool x20)] H (fun fr => by kernel_rfl) (fun fr => Steps.call (by kernel_rfl) (ok_sums_Right hx)) ?_
                              intro fr t H
                              refine at_seg [(25, []), (26, [])] [(0, .str p0), (104, .bool (!x20))] H (noU_all rfl) (fun fr => by kernel_rfl) ?_
                              intro fr H
                              have e1 := Option.some.inj hm
                              subst e1
                              exact at_nil ⟨rfl, H.less _ (fun fr => by kernel_rfl)⟩
                            · replace H := H.know 100 hb (by kernel_rfl)
                              refine at_seg [(23, []), (24, []), (25, []), (26, [])] [(0, .str p0), (104, .bool false)] H (noU_all rfl) (fun fr => by kernel_rfl) ?_
                              intro fr H
                              have e1 := Option.some.inj hm
                              subst e1
                              exact at_nil ⟨rfl, H.less _ (fun fr => by kernel_rfl)⟩
                          · intro t fr h' hK
                            obtain ⟨e, H⟩ := hK
                            subst e
                            refine at_seg [(27, [])] [(0, .str p0), (105, .bool x19)] H (noU_all rfl) (fun fr => by kernel_rfl) ?_
                            intro fr H
                            obtain ⟨x21, ho, hm⟩ := bind_some hm
                            refine at_cut [(28, []), (29, []), (30, []), (31, [])] (fun fr' h' => h = h' ∧ Has fr' 113 [(109, .bool x21)]) ?_ ?_
                            · rcases iteB_some ho with ⟨hb, hm⟩ | ⟨hb, hm⟩
                              · replace H := H.know 105 hb (by kernel_rfl)
                                refine at_seg [(28, [])] [(105, .bool true), (106, .str p0)] H (noU_all rfl) (fun fr => by kernel_rfl) ?_
                                intro fr H
                                obtain ⟨x22, hx, hm⟩ := bind_some hm
                                refine at_step (v := .bool x22) (h1 := h) [(105, .bool true), (107, .bool x22)] H (fun fr => by kernel_rfl) (fun fr => Steps.call (by kernel_rfl) (ok_sums_Blank hx)) ?_
                                intro fr t H
                                refine at_seg [(30, []), (31, [])] [(109, .bool (!x22))] H (noU_all rfl) (fun fr => by kernel_rfl) ?_
                                intro fr H
                                have e1 := Option.some.inj hm
                                subst e1
                                exact at_nil ⟨rfl, H.less _ (fun fr => by kernel_rfl)⟩
                              · replace H := H.know 105 hb (by kernel_rfl)
                                refine at_seg [(28, []), (29, []), (30, []), (31, [])] [(109, .bool false)] H (noU_all rfl) (fun fr => by kernel_rfl) ?_
                                intro fr H
                                have e1 := Option.some.inj hm
                                subst e1
                                exact at_nil ⟨rfl, H.less _ (fun fr => by kernel_rfl)⟩
                            · intro t fr h' hK
                              obtain ⟨e, H⟩ := hK
                              subst e
                              refine at_seg [(32, [])] [(110, .bool x21)] H (noU_all rfl) (fun fr => by kernel_rfl) ?_
                              intro fr H
                              obtain ⟨x23, ho, hm⟩ := bind_some hm
                              refine at_cut [(33, []), (34, [])] (fun fr' h' => h = h' ∧ Has fr' 113 [(112, .bool x23)]) ?_ ?_
                              · rcases iteB_some ho with ⟨hb, hm⟩ | ⟨hb, hm⟩
                                · replace H := H.know 110 hb (by kernel_rfl)
                                  obtain ⟨x24, hx, hm⟩ := bind_some hm
                                  refine at_step (v := .bool x24) (h1 := h) [(110, .bool true), (111, .bool x24)] H (fun fr => by kernel_rfl) (fun fr => Steps.call (by kernel_rfl) (ok_boulterlaw03_awake hx)) ?_
                                  intro fr t H
                                  refine at_seg [(34, [])] [(112, .bool x24)] H (noU_all rfl) (fun fr => by kernel_rfl) ?_
                                  intro fr H
                                  have e1 := Option.some.inj hm
                                  subst e1
                                  exact at_nil ⟨rfl, H.less _ (fun fr => by kernel_rfl)⟩
                                · replace H := H.know 110 hb (by kernel_rfl)
                                  refine at_seg [(33, []), (34, [])] [(112, .bool false)] H (noU_all rfl) (fun fr => by kernel_rfl) ?_
                                  intro fr H
                                  have e1 := Option.some.inj hm
                                  subst e1
                                  exact at_nil ⟨rfl, H.less _ (fun fr => by kernel_rfl)⟩
                              · intro t fr h' hK
                                obtain ⟨e, H⟩ := hK
                                subst e
                                refine at_seg [(35, [])] [(4, .bool x23)] H (noU_all rfl) (fun fr => by kernel_rfl) ?_
                                intro fr H
                                refine at_nil ?_
                                show AW cfg 16 (⟨h.size, []⟩ : Gd) (right (right (right (right (right (right (right (right (right (right (bodyC cfg.P 16))))))))))) fr h _
                                refine aw_ret (by kernel_rfl) ?_
                                have e1 := Option.some.inj hm
                                subst e1
                                exact (doneE_of .ret H (fun fr => by kernel_rfl) (.inl rfl) : doneE cfg.P _ _ _ fr _)
end Go.Abs.L
