/-
  Models of functions of package law18, and that the abstract run tells them. Written by lift.py.
-/
import Derived.Test.YtmjljpnalhknfaaDoorLCfg
import Derived.Test.YtmjljpnalhknfaaDoorLlaw18
import Derived.Test.YtmjljpnalhknfaaDoorLlaw18x1
import Derived.Test.YtmjljpnalhknfaaDoorLref18
import Derived.Test.YtmjljpnalhknfaaDoorLref18x1
import Derived.Test.YtmjljpnalhknfaaDoorLtreex1
namespace Go.Abs.L
open Go.Abs
set_option linter.unusedVariables false
/-! ### boulter/boulterlaw18.TreeMatches -/
noncomputable def M_boulterlaw18_TreeMatches (h : AHeap) (p0 : List AVal) (p1 : List UInt8) (p2 : Int) (p3 : Int) : Option (Bool) :=
 need (p0.all AVal.one) <| (some (h.push (.cells none 2 p0))).bind fun h1 => (ldA h1 (h.size, 0) 2).bind fun x1 => (M_boulterlaw18_Plain (⟨h.size, []⟩ : Gd) h1 x1).bind fun (x2, h2) => (M_boulterref18_Small h2 x2).bind fun x3 => iteB ((!x3) || (decide ((p1.length : Int) > (8 : Int)))) ((M_boulterlaw18_awake).bind fun x4 => some x4) ((ldA h2 (h.size, 0) 2).bind fun x5 => (M_boulterlaw18_Plain (⟨h.size, []⟩ : Gd) h2 x5).bind fun (x6, h3) => (some (h3.push (.cells none 2 [.slice none 0, .int .i64 (0 : Int)]))).bind fun h4 => (stG 2 (⟨h.size, []⟩ : Gd) h4 (h3.size, 0) x6).bind fun h5 => (ldA h5 (h3.size, 0) 2).bind fun x7 => (M_boulterref18_Right h5 x7).bind fun x8 => iteB ((((!x8) || (decide (p2 < (0 : Int)))) || (decide (p3 < p2))) || (decide (p3 > (p1.length : Int)))) ((ldA h5 (h.size, 0) 2).bind fun x9 => (M_tree_Tree_Matches h5 x9 p1 p2 p3).bind fun x10 => (iteB (!x10) ((M_boulterlaw18_awake).bind fun x12 => some x12) (some false) : Option (Bool)).bind fun x11 => some x11) ((ldA h5 (h.size, 0) 2).bind fun x13 => (ldA h5 (h3.size, 0) 2).bind fun x14 => (ldI h5 (h3.size, 1) .i64).bind fun x15 => (M_tree_Tree_Matches h5 x13 p1 p2 p3).bind fun x16 => (M_boulterref18_Ends (⟨h.size, []⟩ : Gd) h5 x14 x15 p1 p2).bind fun (x17, h6) => (ixL x17 1 p3).bind fun a1 => (ldB h6 (a1.1, a1.2)).bind fun x18 => (iteB (x16 == x18) ((M_boulterlaw18_awake).bind fun x20 => some x20) (some false) : Option (Bool)).bind fun x19 => some x19))
theorem ok_boulterlaw18_TreeMatches {g : Gd} {h : AHeap} {p0 : List AVal} {p1 : List UInt8} {p2 : Int} {p3 : Int} {r0 : Bool} (hm : M_boulterlaw18_TreeMatches h p0 p1 p2 p3 = some r0) : Runs cfg g h 4 [.agg p0, .str p1, .int .i64 p2, .int .i64 p3] (.bool r0) h := by
  refine runs2E (by kernel_rfl) (by kernel_rfl) (body_ofE (n := 67) (rs := [.tmp 8]) (by kernel_rfl) ?_)
  unfold M_boulterlaw18_TreeMatches at hm
  refine start (n := 67) [(0, .agg p0), (1, .str p1), (2, .int .i64 p2), (3, .int .i64 p3)] (by kernel_rfl) (by kernel_rfl) ?_
  intro fr H
  refine aw_seq (by kernel_rfl) ?_
  refine aw_reg (id := 0) (n := 2) [(0, []), (1, [])] (by kernel_rfl) (by kernel_rfl) ?_
  obtain ⟨hb, hm⟩ := need_some hm
  obtain ⟨h1, hx, hm⟩ := bind_some hm
  refine at_step (v := .ptr (some (h.size, 0))) (h1 := h1) [(1, .str p1), (2, .int .i64 p2), (3, .int .i64 p3), (4, .ptr (some (h.size, 0)))] H (fun fr => by kernel_rfl) (fun fr => .of (s_boxG (by kernel_rfl) hb hx)) ?_
  intro fr t H
  refine at_seg [(1, [])] [(1, .str p1), (2, .int .i64 p2), (3, .int .i64 p3), (4, .ptr (some (h.size, 0)))] H (noU_all rfl) (fun fr => by kernel_rfl) ?_
  intro fr H
  refine at_nil ?_
  show AW cfg 4 (⟨h.size, []⟩ : Gd) (right (bodyC cfg.P 4)) fr h1 _
  refine aw_seq (by kernel_rfl) ?_
  refine aw_seq (by kernel_rfl) ?_
  refine aw_reg (id := 1) (n := 9) [(0, []), (1, []), (2, []), (3, []), (4, []), (5, []), (6, []), (7, []), (8, [])] (by kernel_rfl) (by kernel_rfl) ?_
  obtain ⟨x1, hx, hm⟩ := bind_some hm
  refine at_step (v := .agg x1) (h1 := h1) [(1, .str p1), (2, .int .i64 p2), (3, .int .i64 p3), (4, .ptr (some (h.size, 0))), (10, .agg x1)] H (fun fr => by kernel_rfl) (fun fr => .of (s_ldA (by kernel_rfl) hx)) ?_
  intro fr t H
  obtain ⟨⟨x2, h2⟩, hx, hm⟩ := bind_some hm
  refine at_step (v := .agg x2) (h1 := h2) [(1, .str p1), (2, .int .i64 p2), (3, .int .i64 p3), (4, .ptr (some (h.size, 0))), (11, .agg x2)] H (fun fr => by kernel_rfl) (fun fr => Steps.call (by kernel_rfl) (ok_boulterlaw18_Plain hx)) ?_
  intro fr t H
  obtain ⟨x3, hx, hm⟩ := bind_some hm
  refine at_step (v := .bool x3) (h1 := h2) [(1, .str p1), (2, .int .i64 p2), (3, .int .i64 p3), (4, .ptr (some (h.size, 0))), (12, .bool x3)] H (fun fr => by kernel_rfl) (fun fr => Steps.call (by kernel_rfl) (ok_boulterref18_Small hx)) ?_
  intro fr t H
  refine at_seg [(3, []), (4, [])] [(1, .str p1), (2, .int .i64 p2), (3, .int .i64 p3), (4, .ptr (some (h.size, 0))), (14, .bool (!x3))] H (noU_all rfl) (fun fr => by kernel_rfl) ?_
  intro fr H
  refine at_cut [(5, []), (6, []), (7, []), (8, [])] (fun fr' h' => h2 = h' ∧ Has fr' 67 [(1, .str p1), (2, .int .i64 p2), (3, .int .i64 p3), (4, .ptr (some (h.size, 0))), (18, .bool ((!x3) || (decide ((p1.length : Int) > (8 : Int)))))]) ?_ ?_
  · cases hb : (!x3 : Bool) with
    | true =>
      replace H := H.know 14 hb (by kernel_rfl)
      refine at_seg [(5, []), (6, []), (7, []), (8, [])] [(1, .str p1), (2, .int .i64 p2), (3, .int .i64 p3), (4, .ptr (some (h.size, 0))), (18, .bool true)] H (noU_all rfl) (fun fr => by kernel_rfl) ?_
      intro fr H
      exact at_nil ⟨rfl, by first | exact H.less _ (fun fr => by rfl) | exact H.less _ (fun fr => by rw [hb]; rfl)⟩
    | false =>
      replace H := H.know 14 hb (by kernel_rfl)
      refine at_seg [(5, []), (6, []), (7, []), (8, [])] [(1, .str p1), (2, .int .i64 p2), (3, .int .i64 p3), (4, .ptr (some (h.size, 0))), (18, .bool (decide ((p1.length : Int) > (8 : Int))))] H (noU_all rfl) (fun fr => by kernel_rfl) ?_
      intro fr H
      exact at_nil ⟨rfl, by first | exact H.less _ (fun fr => by rfl) | exact H.less _ (fun fr => by rw [hb]; rfl)⟩
  · intro t fr h' hK
    obtain ⟨e, H⟩ := hK
    subst e
    refine at_nil ?_
    show AW cfg 4 (⟨h.size, []⟩ : Gd) (right (left (right (bodyC cfg.P 4)))) fr h2 _
    rcases iteB_some hm with ⟨hb, hm⟩ | ⟨hb, hm⟩
    · replace H := H.know 18 hb (by kernel_rfl)
      refine aw_true (x := .tmp 18) (by kernel_rfl) H (fun fr => by kernel_rfl) ?_
      refine aw_seq (by kernel_rfl) ?_
      refine aw_reg (id := 2) (n := 2) [(0, []), (1, [])] (by kernel_rfl) (by kernel_rfl) ?_
      obtain ⟨x4, hx, hm⟩ := bind_some hm
      refine at_step (v := .bool x4) (h1 := h2) [(19, .bool x4)] H (fun fr => by kernel_rfl) (fun fr => Steps.call (by kernel_rfl) (ok_boulterlaw18_awake hx)) ?_
      intro fr t H
      refine at_seg [(1, [])] [(8, .bool x4)] H (noU_all rfl) (fun fr => by kernel_rfl) ?_
      intro fr H
      refine at_nil ?_
      show AW cfg 4 (⟨h.size, []⟩ : Gd) (right (left (right (left (right (bodyC cfg.P 4)))))) fr h2 _
      refine aw_ret (by kernel_rfl) ?_
      have e1 := Option.some.inj hm
      subst e1
      exact (doneE_of .ret H (fun fr => by kernel_rfl) (.inl rfl) : doneE cfg.P _ _ _ fr _)
    · replace H := H.know 18 hb (by kernel_rfl)
      refine aw_false (x := .tmp 18) (by kernel_rfl) H (fun fr => by kernel_rfl) ?_
      refine aw_skip (by kernel_rfl) ?_
      show AW cfg 4 (⟨h.size, []⟩ : Gd) (right (right (bodyC cfg.P 4))) fr h2 _
      refine aw_seq (by kernel_rfl) ?_
      refine aw_reg (id := 3) (n := 4) [(0, []), (1, []), (2, []), (3, [])] (by kernel_rfl) (by kernel_rfl) ?_
      obtain ⟨x5, hx, hm⟩ := bind_some hm
      refine at_step (v := .agg x5) (h1 := h2) [(1, .str p1), (2, .int .i64 p2), (3, .int .i64 p3), (4, .ptr (some (h.size, 0))), (20, .agg x5)] H (fun fr => by kernel_rfl) (fun fr => .of (s_ldA (by kernel_rfl) hx)) ?_
      intro fr t H
      obtain ⟨⟨x6, h3⟩, hx, hm⟩ := bind_some hm
      refine at_step (v := .agg x6) (h1 := h3) [(1, .str p1), (2, .int .i64 p2), (3, .int .i64 p3), (4, .ptr (some (h.size, 0))), (21, .agg x6)] H (fun fr => by kernel_rfl) (fun fr => Steps.call (by kernel_rfl) (ok_boulterlaw18_Plain hx)) ?_
      intro fr t H
      obtain ⟨h4, hx, hm⟩ := bind_some hm
      refine at_step (v := .ptr (some (h3.size, 0))) (h1 := h4) [(1, .str p1), (2, .int .i64 p2), (3, .int .i64 p3), (4, .ptr (some (h.size, 0))), (9, .ptr (some (h3.size, 0))), (21, .agg x6)] H (fun fr => by kernel_rfl) (fun fr => .of (s_n' (by kernel_rfl) hx)) ?_
      intro fr t H
      obtain ⟨h5, hx, hm⟩ := bind_some hm
      refine at_step (v := .tuple []) (h1 := h5) [(1, .str p1), (2, .int .i64 p2), (3, .int .i64 p3), (4, .ptr (some (h.size, 0))), (9, .ptr (some (h3.size, 0)))] H (fun fr => by kernel_rfl) (fun fr => .of (s_stG (by kernel_rfl) hx)) ?_
      intro fr t H
      refine at_nil ?_
      show AW cfg 4 (⟨h.size, []⟩ : Gd) (right (right (right (bodyC cfg.P 4)))) fr h5 _
      refine aw_seq (by kernel_rfl) ?_
      refine aw_seq (by kernel_rfl) ?_
      refine aw_reg (id := 4) (n := 18) [(0, []), (1, []), (2, []), (3, []), (4, []), (5, []), (6, []), (7, []), (8, []), (9, []), (10, []), (11, []), (12, []), (13, []), (14, []), (15, []), (16, []), (17, [])] (by kernel_rfl) (by kernel_rfl) ?_
      obtain ⟨x7, hx, hm⟩ := bind_some hm
      refine at_step (v := .agg x7) (h1 := h5) [(1, .str p1), (2, .int .i64 p2), (3, .int .i64 p3), (4, .ptr (some (h.size, 0))), (9, .ptr (some (h3.size, 0))), (22, .agg x7)] H (fun fr => by kernel_rfl) (fun fr => .of (s_ldA (by kernel_rfl) hx)) ?_
      intro fr t H
      obtain ⟨x8, hx, hm⟩ := bind_some hm
      refine at_step (v := .bool x8) (h1 := h5) [(1, .str p1), (2, .int .i64 p2), (3, .int .i64 p3), (4, .ptr (some (h.size, 0))), (9, .ptr (some (h3.size, 0))), (23, .bool x8)] H (fun fr => by kernel_rfl) (fun fr => Steps.call (by kernel_rfl) (ok_boulterref18_Right hx)) ?_
      intro fr t H
      refine at_seg [(2, []), (3, [])] [(1, .str p1), (2, .int .i64 p2), (3, .int .i64 p3), (4, .ptr (some (h.size, 0))), (9, .ptr (some (h3.size, 0))), (25, .bool (!x8))] H (noU_all rfl) (fun fr => by kernel_rfl) ?_
      intro fr H
      refine at_cut [(4, []), (5, []), (6, [])] (fun fr' h' => h5 = h' ∧ Has fr' 67 [(1, .str p1), (2, .int .i64 p2), (3, .int .i64 p3), (4, .ptr (some (h.size, 0))), (9, .ptr (some (h3.size, 0))), (28, .bool ((!x8) || (decide (p2 < (0 : Int)))))]) ?_ ?_
      · cases hb : (!x8 : Bool) with
        | true =>
          replace H := H.know 25 hb (by kernel_rfl)
          refine at_seg [(4, []), (5, []), (6, [])] [(1, .str p1), (2, .int .i64 p2), (3, .int .i64 p3), (4, .ptr (some (h.size, 0))), (9, .ptr (some (h3.size, 0))), (28, .bool true)] H (noU_all rfl) (fun fr => by kernel_rfl) ?_
          intro fr H
          exact at_nil ⟨rfl, by first | exact H.less _ (fun fr => by rfl) | exact H.less _ (fun fr => by rw [hb]; rfl)⟩
        | false =>
          replace H := H.know 25 hb (by kernel_rfl)
          refine at_seg [(4, []), (5, []), (6, [])] [(1, .str p1), (2, .int .i64 p2), (3, .int .i64 p3), (4, .ptr (some (h.size, 0))), (9, .ptr (some (h3.size, 0))), (28, .bool (decide (p2 < (0 : Int))))] H (noU_all rfl) (fun fr => by kernel_rfl) ?_
          intro fr H
          exact at_nil ⟨rfl, by first | exact H.less _ (fun fr => by rfl) | exact H.less _ (fun fr => by rw [hb]; rfl)⟩
      · intro t fr h' hK
        obtain ⟨e, H⟩ := hK
        subst e
        refine at_seg [(7, [])] [(1, .str p1), (2, .int .i64 p2), (3, .int .i64 p3), (4, .ptr (some (h.size, 0))), (9, .ptr (some (h3.size, 0))), (29, .bool ((!x8) || (decide (p2 < (0 : Int)))))] H (noU_all rfl) (fun fr => by kernel_rfl) ?_
        intro fr H
        refine at_cut [(8, []), (9, []), (10, []), (11, [])] (fun fr' h' => h5 = h' ∧ Has fr' 67 [(1, .str p1), (2, .int .i64 p2), (3, .int .i64 p3), (4, .ptr (some (h.size, 0))), (9, .ptr (some (h3.size, 0))), (33, .bool (((!x8) || (decide (p2 < (0 : Int)))) || (decide (p3 < p2))))]) ?_ ?_
        · cases hb : ((!x8) || (decide (p2 < (0 : Int))) : Bool) with
          | true =>
            replace H := H.know 29 hb (by kernel_rfl)
            refine at_seg [(8, []), (9, []), (10, []), (11, [])] [(1, .str p1), (2, .int .i64 p2), (3, .int .i64 p3), (4, .ptr (some (h.size, 0))), (9, .ptr (some (h3.size, 0))), (33, .bool true)] H (noU_all rfl) (fun fr => by kernel_rfl) ?_
            intro fr H
            exact at_nil ⟨rfl, by first | exact H.less _ (fun fr => by rfl) | exact H.less _ (fun fr => by rw [hb]; rfl)⟩
          | false =>
            replace H := H.know 29 hb (by kernel_rfl)
            refine at_seg [(8, []), (9, []), (10, []), (11, [])] [(1, .str p1), (2, .int .i64 p2), (3, .int .i64 p3), (4, .ptr (some (h.size, 0))), (9, .ptr (some (h3.size, 0))), (33, .bool (decide (p3 < p2)))] H (noU_all rfl) (fun fr => by kernel_rfl) ?_
            intro fr H
            exact at_nil ⟨rfl, by first | exact H.less _ (fun fr => by rfl) | exact H.less _ (fun fr => by rw [hb]; rfl)⟩
        · intro t fr h' hK
          obtain ⟨e, H⟩ := hK
          subst e
          refine at_seg [(12, [])] [(1, .str p1), (2, .int .i64 p2), (3, .int .i64 p3), (4, .ptr (some (h.size, 0))), (9, .ptr (some (h3.size, 0))), (34, .bool (((!x8) || (decide (p2 < (0 : Int)))) || (decide (p3 < p2))))] H (noU_all rfl) (fun fr => by kernel_rfl) ?_
          intro fr H
          refine at_cut [(13, []), (14, []), (15, []), (16, []), (17, [])] (fun fr' h' => h5 = h' ∧ Has fr' 67 [(1, .str p1), (2, .int .i64 p2), (3, .int .i64 p3), (4, .ptr (some (h.size, 0))), (9, .ptr (some (h3.size, 0))), (39, .bool ((((!x8) || (decide (p2 < (0 : Int)))) || (decide (p3 < p2))) || (decide (p3 > (p1.length : Int)))))]) ?_ ?_
          · cases hb : (((!x8) || (decide (p2 < (0 : Int)))) || (decide (p3 < p2)) : Bool) with
            | true =>
              replace H := H.know 34 hb (by kernel_rfl)
              refine at_seg [(13, []), (14, []), (15, []), (16, []), (17, [])] [(1, .str p1), (2, .int .i64 p2), (3, .int .i64 p3), (4, .ptr (some (h.size, 0))), (9, .ptr (some (h3.size, 0))), (39, .bool true)] H (noU_all rfl) (fun fr => by kernel_rfl) ?_
              intro fr H
              exact at_nil ⟨rfl, by first | exact H.less _ (fun fr => by rfl) | exact H.less _ (fun fr => by rw [hb]; rfl)⟩
            | false =>
              replace H := H.know 34 hb (by kernel_rfl)
              refine at_seg [(13, []), (14, []), (15, []), (16, []), (17, [])] [(1, .str p1), (2, .int .i64 p2), (3, .int .i64 p3), (4, .ptr (some (h.size, 0))), (9, .ptr (some (h3.size, 0))), (39, .bool (decide (p3 > (p1.length : Int))))] H (noU_all rfl) (fun fr => by kernel_rfl) ?_
              intro fr H
              exact at_nil ⟨rfl, by first | exact H.less _ (fun fr => by rfl) | exact H.less _ (fun fr => by rw [hb]; rfl)⟩
          · intro t fr h' hK
            obtain ⟨e, H⟩ := hK
            subst e
            refine at_nil ?_
            show AW cfg 4 (⟨h.size, []⟩ : Gd) (right (left (right (right (right (bodyC cfg.P 4)))))) fr h5 _
            rcases iteB_some hm with ⟨hb, hm⟩ | ⟨hb, hm⟩
            · replace H := H.know 39 hb (by kernel_rfl)
              refine aw_true (x := .tmp 39) (by kernel_rfl) H (fun fr => by kernel_rfl) ?_
              refine aw_seq (by kernel_rfl) ?_
              refine aw_reg (id := 5) (n := 10) [(0, []), (1, []), (2, []), (3, []), (4, []), (5, []), (6, []), (7, []), (8, []), (9, [])] (by kernel_rfl) (by kernel_rfl) ?_
              obtain ⟨x9, hx, hm⟩ := bind_some hm
              refine at_step (v := .agg x9) (h1 := h5) [(1, .str p1), (2, .int .i64 p2), (3, .int .i64 p3), (40, .agg x9)] H (fun fr => by kernel_rfl) (fun fr => .of (s_ldA (by kernel_rfl) hx)) ?_
              intro fr t H
              refine at_seg [(1, []), (2, []), (3, [])] [(40, .agg x9), (41, .str p1), (42, .int .i64 p2), (43, .int .i64 p3)] H (noU_all rfl) (fun fr => by kernel_rfl) ?_
              intro fr H
              obtain ⟨x10, hx, hm⟩ := bind_some hm
              refine at_step (v := .bool x10) (h1 := h5) [(44, .bool x10)] H (fun fr => by kernel_rfl) (fun fr => Steps.call (by kernel_rfl) (ok_tree_Tree_Matches hx)) ?_
              intro fr t H
              refine at_seg [(5, []), (6, [])] [(46, .bool (!x10))] H (noU_all rfl) (fun fr => by kernel_rfl) ?_
              intro fr H
              obtain ⟨x11, ho, hm⟩ := bind_some hm
              refine at_cut [(7, []), (8, [])] (fun fr' h' => h5 = h' ∧ Has fr' 67 [(48, .bool x11)]) ?_ ?_
              · rcases iteB_some ho with ⟨hb, hm⟩ | ⟨hb, hm⟩
                · replace H := H.know 46 hb (by kernel_rfl)
                  obtain ⟨x12, hx, hm⟩ := bind_some hm
                  refine at_step (v := .bool x12) (h1 := h5) [(46, .bool true), (47, .bool x12)] H (fun fr => by kernel_rfl) (fun fr => Steps.call (by kernel_rfl) (ok_boulterlaw18_awake hx)) ?_
                  intro fr t H
                  refine at_seg [(8, [])] [(48, .bool x12)] H (noU_all rfl) (fun fr => by kernel_rfl) ?_
                  intro fr H
                  have e1 := Option.some.inj hm
                  subst e1
                  exact at_nil ⟨rfl, H.less _ (fun fr => by kernel_rfl)⟩
                · replace H := H.know 46 hb (by kernel_rfl)
                  refine at_seg [(7, []), (8, [])] [(48, .bool false)] H (noU_all rfl) (fun fr => by kernel_rfl) ?_
                  intro fr H
                  have e1 := Option.some.inj hm
                  subst e1
                  exact at_nil ⟨rfl, H.less _ (fun fr => by kernel_rfl)⟩
              · intro t fr h' hK
                obtain ⟨e, H⟩ := hK
                subst e
                refine at_seg [(9, [])] [(8, .bool x11)] H (noU_all rfl) (fun fr => by kernel_rfl) ?_
                intro fr H
                refine at_nil ?_
                show AW cfg 4 (⟨h.size, []⟩ : Gd) (right (left (right (left (right (right (right (bodyC cfg.P 4)))))))) fr h5 _
                refine aw_ret (by kernel_rfl) ?_
                have e1 := Option.some.inj hm
                subst e1
                exact (doneE_of .ret H (fun fr => by kernel_rfl) (.inl rfl) : doneE cfg.P _ _ _ fr _)
            · replace H := H.know 39 hb (by kernel_rfl)
              refine aw_false (x := .tmp 39) (by kernel_rfl) H (fun fr => by kernel_rfl) ?_
              refine aw_skip (by kernel_rfl) ?_
              show AW cfg 4 (⟨h.size, []⟩ : Gd) (right (right (right (right (bodyC cfg.P 4))))) fr h5 _
              refine aw_seq (by kernel_rfl) ?_
              refine aw_draw (id := 6) (n := 19) (by kernel_rfl) [(0, []), (1, []), (2, []), (3, []), (5, []), (6, []), (7, []), (4, [5, 7]), (8, []), (9, []), (10, []), (11, []), (12, []), (13, []), (14, []), (15, []), (16, []), (17, []), (18, [])] (by kernel_rfl) ?_
              obtain ⟨x13, hx, hm⟩ := bind_some hm
              refine at_stepT (v := .agg x13) (h1 := h5) (tch' := [(0, h.size)]) ((⟨h.size, []⟩ : Gd).prot) [(1, .str p1), (2, .int .i64 p2), (3, .int .i64 p3), (9, .ptr (some (h3.size, 0))), (49, .agg x13)] H (fun fr => by kernel_rfl) (by kernel_rfl) (fun fr => by kernel_rfl) (fun fr => .of (s_ldA (by kernel_rfl) hx)) ?_
              intro fr H
              refine at_seg [(1, []), (2, []), (3, [])] [(1, .str p1), (2, .int .i64 p2), (3, .int .i64 p3), (9, .ptr (some (h3.size, 0))), (49, .agg x13), (50, .str p1), (51, .int .i64 p2), (52, .int .i64 p3)] H (noU_all rfl) (fun fr => by kernel_rfl) ?_
              intro fr H
              obtain ⟨x14, hx, hm⟩ := bind_some hm
              refine at_stepT (v := .agg x14) (h1 := h5) (tch' := [(5, h3.size), (0, h.size)]) ((⟨h.size, []⟩ : Gd).prot) [(1, .str p1), (2, .int .i64 p2), (3, .int .i64 p3), (9, .ptr (some (h3.size, 0))), (49, .agg x13), (50, .str p1), (51, .int .i64 p2), (52, .int .i64 p3), (54, .agg x14)] H (fun fr => by kernel_rfl) (by kernel_rfl) (fun fr => by kernel_rfl) (fun fr => .of (s_ldA (by kernel_rfl) hx)) ?_
              intro fr H
              refine at_seg [(6, [])] [(1, .str p1), (2, .int .i64 p2), (3, .int .i64 p3), (49, .agg x13), (50, .str p1), (51, .int .i64 p2), (52, .int .i64 p3), (54, .agg x14), (55, .ptr (some (h3.size, 1)))] H (noU_all rfl) (fun fr => by kernel_rfl) ?_
              intro fr H
              obtain ⟨x15, hx, hm⟩ := bind_some hm
              refine at_stepT (v := .int .i64 x15) (h1 := h5) (tch' := [(7, h3.size), (5, h3.size), (0, h.size)]) ((⟨h.size, []⟩ : Gd).prot) [(1, .str p1), (2, .int .i64 p2), (3, .int .i64 p3), (49, .agg x13), (50, .str p1), (51, .int .i64 p2), (52, .int .i64 p3), (54, .agg x14), (56, .int .i64 x15)] H (fun fr => by kernel_rfl) (by kernel_rfl) (fun fr => by kernel_rfl) (fun fr => .of (s_ld (by kernel_rfl) (ldI_eq hx))) ?_
              intro fr H
              obtain ⟨x16, hx, hm⟩ := bind_some hm
              refine at_stepT (v := .bool x16) (h1 := h5) (tch' := [(7, h3.size), (5, h3.size), (0, h.size)]) (h3.size :: h3.size :: (⟨h.size, []⟩ : Gd).prot) [(1, .str p1), (2, .int .i64 p2), (3, .int .i64 p3), (53, .bool x16), (54, .agg x14), (56, .int .i64 x15)] H (fun fr => by kernel_rfl) (by kernel_rfl) (fun fr => by kernel_rfl) (fun fr => Steps.call (by kernel_rfl) (ok_tree_Tree_Matches hx)) ?_
              intro fr H
              refine at_seg [(8, []), (9, [])] [(3, .int .i64 p3), (53, .bool x16), (54, .agg x14), (56, .int .i64 x15), (57, .str p1), (58, .int .i64 p2)] H (noU_all rfl) (fun fr => by kernel_rfl) ?_
              intro fr H
              obtain ⟨⟨x17, h6⟩, hx, hm⟩ := bind_some hm
              refine at_stepT (v := .slice x17.r x17.n) (h1 := h6) (tch' := [(7, h3.size), (5, h3.size), (0, h.size)]) ((⟨h.size, []⟩ : Gd).prot) [(3, .int .i64 p3), (53, .bool x16), (59, .slice x17.r x17.n)] H (fun fr => by kernel_rfl) (by kernel_rfl) (fun fr => by kernel_rfl) (fun fr => Steps.call (by kernel_rfl) (ok_boulterref18_Ends hx)) ?_
              intro fr H
              refine at_seg [(11, [])] [(53, .bool x16), (59, .slice x17.r x17.n), (60, .int .i64 p3)] H (noU_all rfl) (fun fr => by kernel_rfl) ?_
              intro fr H
              obtain ⟨a1, hx, hm⟩ := bind_some hm
              refine at_stepT (v := .ptr (some a1)) (h1 := h6) (tch' := [(7, h3.size), (5, h3.size), (0, h.size)]) ((⟨h.size, []⟩ : Gd).prot) [(53, .bool x16), (61, .ptr (some (a1.1, a1.2)))] H (fun fr => by kernel_rfl) (by kernel_rfl) (fun fr => by kernel_rfl) (fun fr => .of (s_ixL (s := x17) (by kernel_rfl) hx)) ?_
              intro fr H
              obtain ⟨x18, hx, hm⟩ := bind_some hm
              refine at_stepT (v := .bool x18) (h1 := h6) (tch' := [(13, a1.1), (7, h3.size), (5, h3.size), (0, h.size)]) ((⟨h.size, []⟩ : Gd).prot) [(53, .bool x16), (62, .bool x18)] H (fun fr => by kernel_rfl) (by kernel_rfl) (fun fr => by kernel_rfl) (fun fr => .of (s_ld (by kernel_rfl) (ldB_eq hx))) ?_
              intro fr H
              refine at_seg [(14, []), (15, [])] [(64, .bool (x16 == x18))] H (noU_all rfl) (fun fr => by kernel_rfl) ?_
              intro fr H
              obtain ⟨x19, ho, hm⟩ := bind_some hm
              refine at_cut [(16, []), (17, [])] (fun fr' h' => h6 = h' ∧ Has fr' 67 [(66, .bool x19)]) ?_ ?_
              · rcases iteB_some ho with ⟨hb, hm⟩ | ⟨hb, hm⟩
                · replace H := H.know 64 hb (by kernel_rfl)
                  obtain ⟨x20, hx, hm⟩ := bind_some hm
                  refine at_stepT (v := .bool x20) (h1 := h6) (tch' := [(13, a1.1), (7, h3.size), (5, h3.size), (0, h.size)]) ((⟨h.size, []⟩ : Gd).prot) [(64, .bool true), (65, .bool x20)] H (fun fr => by kernel_rfl) (by kernel_rfl) (fun fr => by kernel_rfl) (fun fr => Steps.call (by kernel_rfl) (ok_boulterlaw18_awake hx)) ?_
                  intro fr H
                  refine at_seg [(17, [])] [(66, .bool x20)] H (noU_all rfl) (fun fr => by kernel_rfl) ?_
                  intro fr H
                  have e1 := Option.some.inj hm
                  subst e1
                  exact at_nil ⟨rfl, H.less _ (fun fr => by kernel_rfl)⟩
                · replace H := H.know 64 hb (by kernel_rfl)
                  refine at_seg [(16, []), (17, [])] [(66, .bool false)] H (noU_all rfl) (fun fr => by kernel_rfl) ?_
                  intro fr H
                  have e1 := Option.some.inj hm
                  subst e1
                  exact at_nil ⟨rfl, H.less _ (fun fr => by kernel_rfl)⟩
              · intro t fr h' hK
                obtain ⟨e, H⟩ := hK
                subst e
                refine at_seg [(18, [])] [(8, .bool x19)] H (noU_all rfl) (fun fr => by kernel_rfl) ?_
                intro fr H
                refine at_nil ?_
                show AW cfg 4 (⟨h.size, []⟩ : Gd) (right (right (right (right (right (bodyC cfg.P 4)))))) fr h6 _
                refine aw_ret (by kernel_rfl) ?_
                have e1 := Option.some.inj hm
                subst e1
                exact (doneE_of .ret H (fun fr => by kernel_rfl) (.inl rfl) : doneE cfg.P _ _ _ fr _)
end Go.Abs.L
