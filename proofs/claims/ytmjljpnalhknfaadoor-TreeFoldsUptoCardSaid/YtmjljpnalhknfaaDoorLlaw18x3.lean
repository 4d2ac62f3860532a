/-
  Models of functions of package law18, and that the abstract run tells them. Written by lift.py.
-/
import Derived.Test.YtmjljpnalhknfaaDoorLCfg
import Derived.Test.YtmjljpnalhknfaaDoorLclass
import Derived.Test.YtmjljpnalhknfaaDoorLlaw18
import Derived.Test.YtmjljpnalhknfaaDoorLlaw18x1
import Derived.Test.YtmjljpnalhknfaaDoorLref18
import Derived.Test.YtmjljpnalhknfaaDoorLtreex1
import Derived.Test.YtmjljpnalhknfaaDoorLtreex2
namespace Go.Abs.L
open Go.Abs
set_option linter.unusedVariables false
/-! ### boulter/boulterlaw18.TreeFolds -/
noncomputable def M_boulterlaw18_TreeFolds_L0 (h : AHeap) (p1 : List UInt8) (h7 : AHeap) (s : Int × AHeap) : Option ((Int × AHeap) ⊕ ((AHeap))) :=
  match s with
  | (x12, h9) => iteB (decide (x12 < ((p1.length : Nat) : Int))) ((ixL (⟨some (h7.size, 0), p1.length⟩ : Sl) 1 x12).bind fun a1 => (ldI h9 (a1.1, a1.2) .u8).bind fun x13 => (M_class_Other h9 x13).bind fun x14 => (ixL (⟨some (h7.size, 0), p1.length⟩ : Sl) 1 x12).bind fun a2 => (st (⟨h.size, []⟩ : Gd) h9 (a2.1, a2.2) [.int .u8 x14]).bind fun h10 => some (.inl (IntKind.i64.wrap (x12 + (1 : Int)), h10))) (some (.inr h9))
noncomputable def M_boulterlaw18_TreeFolds (h : AHeap) (p0 : List AVal) (p1 : List UInt8) : Option (Bool) :=
 need (p0.all AVal.one) <| (some (h.push (.cells none 2 p0))).bind fun h1 => (ldA h1 (h.size, 0) 2).bind fun x1 => (M_boulterlaw18_Plain (⟨h.size, []⟩ : Gd) h1 x1).bind fun (x2, h2) => (M_boulterref18_Small h2 x2).bind fun x3 => (iteB ((!x3) || (decide ((p1.length : Int) > (8 : Int)))) (some (true, h2)) ((ldA h2 (h.size, 0) 2).bind fun x5 => (M_boulterlaw18_Plain (⟨h.size, []⟩ : Gd) h2 x5).bind fun (x6, h4) => (M_boulterref18_Right h4 x6).bind fun x7 => some (!x7, h4)) : Option (Bool × AHeap)).bind fun (x4, h3) => iteB x4 ((M_boulterlaw18_awake).bind fun x8 => some x8) ((ldA h3 (h.size, 0) 2).bind fun x9 => (M_tree_Tree_Fold (⟨h.size, []⟩ : Gd) h3 x9).bind fun (x10, h5) => (some (h5.push (.cells none 2 [.slice none 0, .int .i64 (0 : Int)]))).bind fun h6 => (stG 2 (⟨h.size, []⟩ : Gd) h6 (h5.size, 0) x10).bind fun h7 => need (decide (p1.length ≤ 1099511627776)) <| (some (h7.push (.cells (some 5) 2 (p1.map fun b => .int .u8 b.toNat)))).bind fun h8 => (loop (M_boulterlaw18_TreeFolds_L0 h p1 h7) ((0 : Int), h8)).bind fun h11 => (ldL h11 (h5.size, 0)).bind fun x15 => (ldL h11 (h.size, 0)).bind fun x16 => iteB (((x15.n : Nat) : Int) != ((x16.n : Nat) : Int)) (some false) ((ldI h11 (h5.size, 1) .i64).bind fun x17 => (ldI h11 (h.size, 1) .i64).bind fun x18 => (iteB (x17 != x18) (some true) ((ldA h11 (h5.size, 0) 2).bind fun x20 => (ldA h11 (h5.size, 0) 2).bind fun x21 => (byL h11 (⟨some (h7.size, 0), p1.length⟩ : Sl)).bind fun x22 => (M_tree_Tree_Matches h11 x20 p1 (0 : Int) (p1.length : Int)).bind fun x23 => (M_tree_Tree_Matches h11 x21 x22 (0 : Int) (p1.length : Int)).bind fun x24 => some (!(x23 == x24))) : Option (Bool)).bind fun x19 => iteB x19 (some false) ((ldA h11 (h.size, 0) 2).bind fun x25 => (M_tree_Tree_Matches h11 x25 p1 (0 : Int) (p1.length : Int)).bind fun x26 => (iteB (!x26) (some true) ((ldA h11 (h5.size, 0) 2).bind fun x28 => (M_tree_Tree_Matches h11 x28 p1 (0 : Int) (p1.length : Int)).bind fun x29 => some x29) : Option (Bool)).bind fun x27 => (iteB x27 ((M_boulterlaw18_awake).bind fun x31 => some x31) (some false) : Option (Bool)).bind fun x30 => some x30)))
theorem ok_boulterlaw18_TreeFolds {g : Gd} {h : AHeap} {p0 : List AVal} {p1 : List UInt8} {r0 : Bool} (hm : M_boulterlaw18_TreeFolds h p0 p1 = some r0) : Runs cfg g h 6 [.agg p0, .str p1] (.bool r0) h := by
  refine runs2E (by kernel_rfl) (by kernel_rfl) (body_ofE (n := 86) (rs := [.tmp 4]) (by kernel_rfl) ?_)
  unfold M_boulterlaw18_TreeFolds at hm
  refine start (n := 86) [(0, .agg p0), (1, .str p1)] (by kernel_rfl) (by kernel_rfl) ?_
  intro fr H
  refine aw_seq (by kernel_rfl) ?_
  refine aw_reg (id := 0) (n := 2) [(0, []), (1, [])] (by kernel_rfl) (by kernel_rfl) ?_
  obtain ⟨hb, hm⟩ := need_some hm
  obtain ⟨h1, hx, hm⟩ := bind_some hm
  refine at_step (v := .ptr (some (h.size, 0))) (h1 := h1) [(1, .str p1), (2, .ptr (some (h.size, 0)))] H (fun fr => by kernel_rfl) (fun fr => .of (s_boxG (by kernel_rfl) hb hx)) ?_
  intro fr t H
  refine at_seg [(1, [])] [(1, .str p1), (2, .ptr (some (h.size, 0)))] H (noU_all rfl) (fun fr => by kernel_rfl) ?_
  intro fr H
  refine at_nil ?_
  show AW cfg 6 (⟨h.size, []⟩ : Gd) (right (bodyC cfg.P 6)) fr h1 _
  refine aw_seq (by kernel_rfl) ?_
  refine aw_seq (by kernel_rfl) ?_
  refine aw_reg (id := 1) (n := 15) [(0, []), (1, []), (2, []), (3, []), (4, []), (5, []), (6, []), (7, []), (8, []), (9, []), (10, []), (11, []), (12, []), (13, []), (14, [])] (by kernel_rfl) (by kernel_rfl) ?_
  obtain ⟨x1, hx, hm⟩ := bind_some hm
  refine at_step (v := .agg x1) (h1 := h1) [(1, .str p1), (2, .ptr (some (h.size, 0))), (9, .agg x1)] H (fun fr => by kernel_rfl) (fun fr => .of (s_ldA (by kernel_rfl) hx)) ?_
  intro fr t H
  obtain ⟨⟨x2, h2⟩, hx, hm⟩ := bind_some hm
  refine at_step (v := .agg x2) (h1 := h2) [(1, .str p1), (2, .ptr (some (h.size, 0))), (10, .agg x2)] H (fun fr => by kernel_rfl) (fun fr => Steps.call (by kernel_rfl) (ok_boulterlaw18_Plain hx)) ?_
  intro fr t H
  obtain ⟨x3, hx, hm⟩ := bind_some hm
  refine at_step (v := .bool x3) (h1 := h2) [(1, .str p1), (2, .ptr (some (h.size, 0))), (11, .bool x3)] H (fun fr => by kernel_rfl) (fun fr => Steps.call (by kernel_rfl) (ok_boulterref18_Small hx)) ?_
  intro fr t H
  refine at_seg [(3, []), (4, [])] [(1, .str p1), (2, .ptr (some (h.size, 0))), (13, .bool (!x3))] H (noU_all rfl) (fun fr => by kernel_rfl) ?_
  intro fr H
  refine at_cut [(5, []), (6, []), (7, []), (8, [])] (fun fr' h' => h2 = h' ∧ Has fr' 86 [(1, .str p1), (2, .ptr (some (h.size, 0))), (17, .bool ((!x3) || (decide ((p1.length : Int) > (8 : Int)))))]) ?_ ?_
  · cases hb : (!x3 : Bool) with
    | true =>
      replace H := H.know 13 hb (by kernel_rfl)
      refine at_seg [(5, []), (6, []), (7, []), (8, [])] [(1, .str p1), (2, .ptr (some (h.size, 0))), (17, .bool true)] H (noU_all rfl) (fun fr => by kernel_rfl) ?_
      intro fr H
      exact at_nil ⟨rfl, by first | exact H.less _ (fun fr => by rfl) | exact H.less _ (fun fr => by rw [hb]; rfl)⟩
    | false =>
      replace H := H.know 13 hb (by kernel_rfl)
      refine at_seg [(5, []), (6, []), (7, []), (8, [])] [(1, .str p1), (2, .ptr (some (h.size, 0))), (17, .bool (decide ((p1.length : Int) > (8 : Int))))] H (noU_all rfl) (fun fr => by kernel_rfl) ?_
      intro fr H
      exact at_nil ⟨rfl, by first | exact H.less _ (fun fr => by rfl) | exact H.less _ (fun fr => by rw [hb]; rfl)⟩
  · intro t fr h' hK
    obtain ⟨e, H⟩ := hK
    subst e
    refine at_seg [(9, [])] [(1, .str p1), (2, .ptr (some (h.size, 0))), (18, .bool ((!x3) || (decide ((p1.length : Int) > (8 : Int)))))] H (noU_all rfl) (fun fr => by kernel_rfl) ?_
    intro fr H
    obtain ⟨⟨x4, h3⟩, ho, hm⟩ := bind_some hm
    refine at_cut [(10, []), (11, []), (12, []), (13, []), (14, [])] (fun fr' h' => h3 = h' ∧ Has fr' 86 [(1, .str p1), (2, .ptr (some (h.size, 0))), (23, .bool x4)]) ?_ ?_
    · rcases iteB_some ho with ⟨hb, hm⟩ | ⟨hb, hm⟩
      · replace H := H.know 18 hb (by kernel_rfl)
        refine at_seg [(10, []), (11, []), (12, []), (13, []), (14, [])] [(1, .str p1), (2, .ptr (some (h.size, 0))), (23, .bool true)] H (noU_all rfl) (fun fr => by kernel_rfl) ?_
        intro fr H
        have e0 := Option.some.inj hm
        obtain ⟨e1, f1⟩ := Prod.mk.inj e0
        subst e1
        subst f1
        exact at_nil ⟨rfl, H.less _ (fun fr => by kernel_rfl)⟩
      · replace H := H.know 18 hb (by kernel_rfl)
        obtain ⟨x5, hx, hm⟩ := bind_some hm
        refine at_step (v := .agg x5) (h1 := h2) [(1, .str p1), (2, .ptr (some (h.size, 0))), (18, .bool false), (19, .agg x5)] H (fun fr => by kernel_rfl) (fun fr => .of (s_ldA (by kernel_rfl) hx)) ?_
        intro fr t H
        obtain ⟨⟨x6, h4⟩, hx, hm⟩ := bind_some hm
        refine at_step (v := .agg x6) (h1 := h4) [(1, .str p1), (2, .ptr (some (h.size, 0))), (18, .bool false), (20, .agg x6)] H (fun fr => by kernel_rfl) (fun fr => Steps.call (by kernel_rfl) (ok_boulterlaw18_Plain hx)) ?_
        intro fr t H
        obtain ⟨x7, hx, hm⟩ := bind_some hm
        refine at_step (v := .bool x7) (h1 := h4) [(1, .str p1), (2, .ptr (some (h.size, 0))), (18, .bool false), (21, .bool x7)] H (fun fr => by kernel_rfl) (fun fr => Steps.call (by kernel_rfl) (ok_boulterref18_Right hx)) ?_
        intro fr t H
        refine at_seg [(13, []), (14, [])] [(1, .str p1), (2, .ptr (some (h.size, 0))), (23, .bool (!x7))] H (noU_all rfl) (fun fr => by kernel_rfl) ?_
        intro fr H
        have e0 := Option.some.inj hm
        obtain ⟨e1, f1⟩ := Prod.mk.inj e0
        subst e1
        subst f1
        exact at_nil ⟨rfl, H.less _ (fun fr => by kernel_rfl)⟩
    · intro t fr h' hK
      obtain ⟨e, H⟩ := hK
      subst e
      refine at_nil ?_
      show AW cfg 6 (⟨h.size, []⟩ : Gd) (right (left (right (bodyC cfg.P 6)))) fr h3 _
      rcases iteB_some hm with ⟨hb, hm⟩ | ⟨hb, hm⟩
      · replace H := H.know 23 hb (by kernel_rfl)
        refine aw_true (x := .tmp 23) (by kernel_rfl) H (fun fr => by kernel_rfl) ?_
        refine aw_seq (by kernel_rfl) ?_
        refine aw_reg (id := 2) (n := 2) [(0, []), (1, [])] (by kernel_rfl) (by kernel_rfl) ?_
        obtain ⟨x8, hx, hm⟩ := bind_some hm
        refine at_step (v := .bool x8) (h1 := h3) [(24, .bool x8)] H (fun fr => by kernel_rfl) (fun fr => Steps.call (by kernel_rfl) (ok_boulterlaw18_awake hx)) ?_
        intro fr t H
        refine at_seg [(1, [])] [(4, .bool x8)] H (noU_all rfl) (fun fr => by kernel_rfl) ?_
        intro fr H
        refine at_nil ?_
        show AW cfg 6 (⟨h.size, []⟩ : Gd) (right (left (right (left (right (bodyC cfg.P 6)))))) fr h3 _
        refine aw_ret (by kernel_rfl) ?_
        have e1 := Option.some.inj hm
        subst e1
        exact (doneE_of .ret H (fun fr => by kernel_rfl) (.inl rfl) : doneE cfg.P _ _ _ fr _)
      · replace H := H.know 23 hb (by kernel_rfl)
        refine aw_false (x := .tmp 23) (by kernel_rfl) H (fun fr => by kernel_rfl) ?_
        refine aw_skip (by kernel_rfl) ?_
        show AW cfg 6 (⟨h.size, []⟩ : Gd) (right (right (bodyC cfg.P 6))) fr h3 _
        refine aw_seq (by kernel_rfl) ?_
        refine aw_reg (id := 3) (n := 4) [(0, []), (1, []), (2, []), (3, [])] (by kernel_rfl) (by kernel_rfl) ?_
        obtain ⟨x9, hx, hm⟩ := bind_some hm
        refine at_step (v := .agg x9) (h1 := h3) [(1, .str p1), (2, .ptr (some (h.size, 0))), (25, .agg x9)] H (fun fr => by kernel_rfl) (fun fr => .of (s_ldA (by kernel_rfl) hx)) ?_
        intro fr t H
        obtain ⟨⟨x10, h5⟩, hx, hm⟩ := bind_some hm
        refine at_step (v := .agg x10) (h1 := h5) [(1, .str p1), (2, .ptr (some (h.size, 0))), (26, .agg x10)] H (fun fr => by kernel_rfl) (fun fr => Steps.call (by kernel_rfl) (ok_tree_Tree_Fold hx)) ?_
        intro fr t H
        obtain ⟨h6, hx, hm⟩ := bind_some hm
        refine at_step (v := .ptr (some (h5.size, 0))) (h1 := h6) [(1, .str p1), (2, .ptr (some (h.size, 0))), (5, .ptr (some (h5.size, 0))), (26, .agg x10)] H (fun fr => by kernel_rfl) (fun fr => .of (s_n' (by kernel_rfl) hx)) ?_
        intro fr t H
        obtain ⟨h7, hx, hm⟩ := bind_some hm
        refine at_step (v := .tuple []) (h1 := h7) [(1, .str p1), (2, .ptr (some (h.size, 0))), (5, .ptr (some (h5.size, 0)))] H (fun fr => by kernel_rfl) (fun fr => .of (s_stG (by kernel_rfl) hx)) ?_
        intro fr t H
        refine at_nil ?_
        show AW cfg 6 (⟨h.size, []⟩ : Gd) (right (right (right (bodyC cfg.P 6)))) fr h7 _
        refine aw_seq (by kernel_rfl) ?_
        refine aw_reg (id := 4) (n := 3) [(0, []), (1, []), (2, [])] (by kernel_rfl) (by kernel_rfl) ?_
        refine at_seg [(0, [])] [(1, .str p1), (2, .ptr (some (h.size, 0))), (5, .ptr (some (h5.size, 0))), (27, .str p1)] H (noU_all rfl) (fun fr => by kernel_rfl) ?_
        intro fr H
        obtain ⟨hb, hm⟩ := need_some hm
        obtain ⟨h8, hx, hm⟩ := bind_some hm
        refine at_step (v := .slice (some (h7.size, 0)) p1.length) (h1 := h8) [(1, .str p1), (2, .ptr (some (h.size, 0))), (5, .ptr (some (h5.size, 0))), (28, .slice (some (h7.size, 0)) p1.length)] H (fun fr => by kernel_rfl) (fun fr => .of (s_toB (by kernel_rfl) hb hx)) ?_
        intro fr t H
        refine at_seg [(2, [])] [(1, .str p1), (2, .ptr (some (h.size, 0))), (5, .ptr (some (h5.size, 0))), (6, .slice (some (h7.size, 0)) p1.length)] H (noU_all rfl) (fun fr => by kernel_rfl) ?_
        intro fr H
        refine at_nil ?_
        show AW cfg 6 (⟨h.size, []⟩ : Gd) (right (right (right (right (bodyC cfg.P 6))))) fr h8 _
        refine aw_seq (by kernel_rfl) ?_
        refine aw_seq (by kernel_rfl) ?_
        refine aw_reg (id := 5) (n := 3) [(0, []), (1, []), (2, [])] (by kernel_rfl) (by kernel_rfl) ?_
        refine at_seg [(0, []), (1, []), (2, [])] [(1, .str p1), (2, .ptr (some (h.size, 0))), (5, .ptr (some (h5.size, 0))), (6, .slice (some (h7.size, 0)) p1.length), (29, .slice (some (h7.size, 0)) p1.length), (30, .int .i64 ((p1.length : Nat) : Int)), (31, .int .i64 (0 : Int))] H (noU_all rfl) (fun fr => by kernel_rfl) ?_
        intro fr H
        refine at_nil ?_
        show AW cfg 6 (⟨h.size, []⟩ : Gd) (right (left (right (right (right (right (bodyC cfg.P 6))))))) fr h8 _
        refine aw_block (id := 0) (by kernel_rfl) ?_
        obtain ⟨o1, ho, hm⟩ := bind_some hm
        refine aw_mono (Q' := fun e fr' h' => (e = .exit 0 ∧ h' = o1 ∧ h' = h' ∧ Has fr' 86 [(1, .str p1), (2, .ptr (some (h.size, 0))), (5, .ptr (some (h5.size, 0))), (6, .slice (some (h7.size, 0)) p1.length)]) ∨ False) ?_ ?_
        · refine aw_loop (by kernel_rfl) (fun (s : Int × AHeap) fr' h' => ∃ (x12 : Int), (x12, h') = s ∧ h' = h' ∧ Has fr' 86 [(1, .str p1), (2, .ptr (some (h.size, 0))), (5, .ptr (some (h5.size, 0))), (6, .slice (some (h7.size, 0)) p1.length), (29, .slice (some (h7.size, 0)) p1.length), (30, .int .i64 ((p1.length : Nat) : Int)), (31, .int .i64 x12)]) ho ⟨(0 : Int), rfl, rfl, H.less _ (fun fr => by kernel_rfl)⟩ ?_
          clear ho hm H
          intro s q fr h9 hI hm
          obtain ⟨x12, rfl, _, H⟩ := hI
          unfold M_boulterlaw18_TreeFolds_L0 at hm
          refine aw_seq (by kernel_rfl) ?_
          refine aw_reg (id := 6) (n := 1) [(0, [])] (by kernel_rfl) (by kernel_rfl) ?_
          refine at_seg [(0, [])] [(1, .str p1), (2, .ptr (some (h.size, 0))), (5, .ptr (some (h5.size, 0))), (6, .slice (some (h7.size, 0)) p1.length), (29, .slice (some (h7.size, 0)) p1.length), (30, .int .i64 ((p1.length : Nat) : Int)), (31, .int .i64 x12), (32, .bool (decide (x12 < ((p1.length : Nat) : Int))))] H (noU_all rfl) (fun fr => by kernel_rfl) ?_
          intro fr H
          refine at_nil ?_
          show AW cfg 6 (⟨h.size, []⟩ : Gd) (right (left (left (right (left (right (right (right (right (bodyC cfg.P 6)))))))))) fr h9 _
          refine aw_seq (by kernel_rfl) ?_
          rcases iteB_some hm with ⟨hb, hm⟩ | ⟨hb, hm⟩
          · replace H := H.know 32 hb (by kernel_rfl)
            refine aw_true (x := .tmp 32) (by kernel_rfl) H (fun fr => by kernel_rfl) ?_
            refine aw_skip (by kernel_rfl) ?_
            show AW cfg 6 (⟨h.size, []⟩ : Gd) (right (right (left (left (right (left (right (right (right (right (bodyC cfg.P 6))))))))))) fr h9 _
            refine aw_seq (by kernel_rfl) ?_
            refine aw_block (id := 1) (by kernel_rfl) ?_
            refine aw_seq (by kernel_rfl) ?_
            refine aw_reg (id := 7) (n := 5) [(0, []), (1, []), (2, []), (3, []), (4, [])] (by kernel_rfl) (by kernel_rfl) ?_
            refine at_seg [(0, [])] [(1, .str p1), (2, .ptr (some (h.size, 0))), (5, .ptr (some (h5.size, 0))), (6, .slice (some (h7.size, 0)) p1.length), (29, .slice (some (h7.size, 0)) p1.length), (30, .int .i64 ((p1.length : Nat) : Int)), (31, .int .i64 x12), (33, .int .i64 x12)] H (noU_all rfl) (fun fr => by kernel_rfl) ?_
            intro fr H
            obtain ⟨a1, hx, hm⟩ := bind_some hm
            refine at_step (v := .ptr (some a1)) (h1 := h9) [(1, .str p1), (2, .ptr (some (h.size, 0))), (5, .ptr (some (h5.size, 0))), (6, .slice (some (h7.size, 0)) p1.length), (29, .slice (some (h7.size, 0)) p1.length), (30, .int .i64 ((p1.length : Nat) : Int)), (31, .int .i64 x12), (33, .int .i64 x12), (34, .ptr (some (a1.1, a1.2)))] H (fun fr => by kernel_rfl) (fun fr => .of (s_ixL (s := (⟨some (h7.size, 0), p1.length⟩ : Sl)) (by kernel_rfl) hx)) ?_
            intro fr t H
            obtain ⟨x13, hx, hm⟩ := bind_some hm
            refine at_step (v := .int .u8 x13) (h1 := h9) [(1, .str p1), (2, .ptr (some (h.size, 0))), (5, .ptr (some (h5.size, 0))), (6, .slice (some (h7.size, 0)) p1.length), (29, .slice (some (h7.size, 0)) p1.length), (30, .int .i64 ((p1.length : Nat) : Int)), (31, .int .i64 x12), (33, .int .i64 x12), (35, .int .u8 x13)] H (fun fr => by kernel_rfl) (fun fr => .of (s_ld (by kernel_rfl) (ldI_eq hx))) ?_
            intro fr t H
            refine at_seg [(3, []), (4, [])] [(1, .str p1), (2, .ptr (some (h.size, 0))), (5, .ptr (some (h5.size, 0))), (6, .slice (some (h7.size, 0)) p1.length), (7, .int .i64 x12), (8, .int .u8 x13), (29, .slice (some (h7.size, 0)) p1.length), (30, .int .i64 ((p1.length : Nat) : Int)), (31, .int .i64 x12)] H (noU_all rfl) (fun fr => by kernel_rfl) ?_
            intro fr H
            refine at_nil ?_
            show AW cfg 6 (⟨h.size, []⟩ : Gd) (right (left (left (right (right (left (left (right (left (right (right (right (right (bodyC cfg.P 6)))))))))))))) fr h9 _
            refine aw_reg (id := 8) (n := 6) [(0, []), (1, []), (2, []), (3, []), (4, []), (5, [])] (by kernel_rfl) (by kernel_rfl) ?_
            refine at_seg [(0, []), (1, []), (2, [])] [(1, .str p1), (2, .ptr (some (h.size, 0))), (5, .ptr (some (h5.size, 0))), (6, .slice (some (h7.size, 0)) p1.length), (29, .slice (some (h7.size, 0)) p1.length), (30, .int .i64 ((p1.length : Nat) : Int)), (31, .int .i64 x12), (36, .slice (some (h7.size, 0)) p1.length), (37, .int .i64 x12), (38, .int .u8 x13)] H (noU_all rfl) (fun fr => by kernel_rfl) ?_
            intro fr H
            obtain ⟨x14, hx, hm⟩ := bind_some hm
            refine at_step (v := .int .u8 x14) (h1 := h9) [(1, .str p1), (2, .ptr (some (h.size, 0))), (5, .ptr (some (h5.size, 0))), (6, .slice (some (h7.size, 0)) p1.length), (29, .slice (some (h7.size, 0)) p1.length), (30, .int .i64 ((p1.length : Nat) : Int)), (31, .int .i64 x12), (36, .slice (some (h7.size, 0)) p1.length), (37, .int .i64 x12), (39, .int .u8 x14)] H (fun fr => by kernel_rfl) (fun fr => Steps.call (by kernel_rfl) (ok_class_Other hx)) ?_
            intro fr t H
            obtain ⟨a2, hx, hm⟩ := bind_some hm
            refine at_step (v := .ptr (some a2)) (h1 := h9) [(1, .str p1), (2, .ptr (some (h.size, 0))), (5, .ptr (some (h5.size, 0))), (6, .slice (some (h7.size, 0)) p1.length), (29, .slice (some (h7.size, 0)) p1.length), (30, .int .i64 ((p1.length : Nat) : Int)), (31, .int .i64 x12), (39, .int .u8 x14), (40, .ptr (some (a2.1, a2.2)))] H (fun fr => by kernel_rfl) (fun fr => .of (s_ixL (s := (⟨some (h7.size, 0), p1.length⟩ : Sl)) (by kernel_rfl) hx)) ?_
            intro fr t H
            obtain ⟨h10, hx, hm⟩ := bind_some hm
            refine at_step (v := .tuple []) (h1 := h10) [(1, .str p1), (2, .ptr (some (h.size, 0))), (5, .ptr (some (h5.size, 0))), (6, .slice (some (h7.size, 0)) p1.length), (29, .slice (some (h7.size, 0)) p1.length), (30, .int .i64 ((p1.length : Nat) : Int)), (31, .int .i64 x12)] H (fun fr => by kernel_rfl) (fun fr => .of (s_st (by kernel_rfl) rfl hx)) ?_
            intro fr t H
            refine at_nil ?_
            show AW cfg 6 (⟨h.size, []⟩ : Gd) (right (right (right (left (left (right (left (right (right (right (right (bodyC cfg.P 6)))))))))))) fr h10 _
            refine aw_reg (id := 9) (n := 2) [(0, []), (1, [])] (by kernel_rfl) (by kernel_rfl) ?_
            refine at_seg [(0, []), (1, [])] [(1, .str p1), (2, .ptr (some (h.size, 0))), (5, .ptr (some (h5.size, 0))), (6, .slice (some (h7.size, 0)) p1.length), (29, .slice (some (h7.size, 0)) p1.length), (30, .int .i64 ((p1.length : Nat) : Int)), (31, .int .i64 (IntKind.i64.wrap (x12 + (1 : Int))))] H (noU_all rfl) (fun fr => by kernel_rfl) ?_
            intro fr H
            refine at_nil ?_
            exact Exists.intro (IntKind.i64.wrap (x12 + (1 : Int)), h10) (And.intro (Option.some.inj hm).symm ⟨IntKind.i64.wrap (x12 + (1 : Int)), rfl, rfl, H.less _ (fun fr => by kernel_rfl)⟩)
          · replace H := H.know 32 hb (by kernel_rfl)
            refine aw_false (x := .tmp 32) (by kernel_rfl) H (fun fr => by kernel_rfl) ?_
            refine aw_exit (i := 0) (by kernel_rfl) ?_
            exact Exists.intro _ (And.intro (Option.some.inj hm).symm (fun e => Or.inl ⟨rfl, e, rfl, H.less _ (fun fr => by kernel_rfl)⟩))
        · clear ho
          intro e fr h11 hQ
          rcases hQ with ⟨rfl, rfl, _, H⟩ | hF
          · skip
            show AW cfg 6 (⟨h.size, []⟩ : Gd) (right (right (right (right (right (bodyC cfg.P 6)))))) fr h11 _
            refine aw_seq (by kernel_rfl) ?_
            refine aw_seq (by kernel_rfl) ?_
            refine aw_draw (id := 10) (n := 28) (by kernel_rfl) [(0, []), (1, []), (2, []), (3, []), (4, []), (5, []), (6, []), (7, []), (8, []), (9, []), (10, []), (11, []), (12, []), (13, []), (14, []), (15, []), (16, []), (17, []), (18, []), (20, []), (21, []), (22, []), (19, [20, 22]), (23, []), (24, []), (25, []), (26, []), (27, [])] (by kernel_rfl) ?_
            refine at_seg [(0, [])] [(1, .str p1), (2, .ptr (some (h.size, 0))), (5, .ptr (some (h5.size, 0))), (6, .slice (some (h7.size, 0)) p1.length), (42, .ptr (some (h5.size, 0)))] H (noU_all rfl) (fun fr => by kernel_rfl) ?_
            intro fr H
            obtain ⟨x15, hx, hm⟩ := bind_some hm
            refine at_stepT (v := .slice x15.r x15.n) (h1 := h11) (tch' := [(1, h5.size)]) ((⟨h.size, []⟩ : Gd).prot) [(1, .str p1), (2, .ptr (some (h.size, 0))), (5, .ptr (some (h5.size, 0))), (6, .slice (some (h7.size, 0)) p1.length), (43, .slice x15.r x15.n)] H (fun fr => by kernel_rfl) (by kernel_rfl) (fun fr => by kernel_rfl) (fun fr => .of (s_ld (by kernel_rfl) (ldL_eq hx))) ?_
            intro fr H
            refine at_seg [(2, []), (3, [])] [(1, .str p1), (2, .ptr (some (h.size, 0))), (5, .ptr (some (h5.size, 0))), (6, .slice (some (h7.size, 0)) p1.length), (44, .int .i64 ((x15.n : Nat) : Int)), (45, .ptr (some (h.size, 0)))] H (noU_all rfl) (fun fr => by kernel_rfl) ?_
            intro fr H
            obtain ⟨x16, hx, hm⟩ := bind_some hm
            refine at_stepT (v := .slice x16.r x16.n) (h1 := h11) (tch' := [(4, h.size), (1, h5.size)]) ((⟨h.size, []⟩ : Gd).prot) [(1, .str p1), (2, .ptr (some (h.size, 0))), (5, .ptr (some (h5.size, 0))), (6, .slice (some (h7.size, 0)) p1.length), (44, .int .i64 ((x15.n : Nat) : Int)), (46, .slice x16.r x16.n)] H (fun fr => by kernel_rfl) (by kernel_rfl) (fun fr => by kernel_rfl) (fun fr => .of (s_ld (by kernel_rfl) (ldL_eq hx))) ?_
            intro fr H
            refine at_seg [(5, []), (6, []), (7, [])] [(1, .str p1), (2, .ptr (some (h.size, 0))), (5, .ptr (some (h5.size, 0))), (6, .slice (some (h7.size, 0)) p1.length), (49, .bool (((x15.n : Nat) : Int) != ((x16.n : Nat) : Int)))] H (noU_all rfl) (fun fr => by kernel_rfl) ?_
            intro fr H
            rcases iteB_some hm with ⟨hb, hm⟩ | ⟨hb, hm⟩
            · replace H := H.know 49 hb (by kernel_rfl)
              refine at_seg [(8, []), (9, []), (10, []), (11, []), (12, []), (13, []), (14, []), (15, []), (16, []), (17, []), (18, []), (20, []), (21, []), (22, [])] [(1, .str p1), (2, .ptr (some (h.size, 0))), (5, .ptr (some (h5.size, 0))), (56, .bool true), (57, .tuple []), (58, .tuple []), (60, .tuple []), (62, .tuple []), (64, .tuple [])] H (noU_all rfl) (fun fr => by kernel_rfl) ?_
              intro fr H
              refine at_skip [(1, .str p1), (2, .ptr (some (h.size, 0))), (5, .ptr (some (h5.size, 0))), (56, .bool true), (61, .tuple []), (62, .tuple []), (64, .tuple [])] H (fun fr => by kernel_rfl) ?_
              intro fr H
              refine at_seg [(23, []), (24, []), (25, []), (26, []), (27, [])] [(1, .str p1), (2, .ptr (some (h.size, 0))), (5, .ptr (some (h5.size, 0))), (69, .bool true)] H (noU_all rfl) (fun fr => by kernel_rfl) ?_
              intro fr H
              refine at_nil ?_
              show AW cfg 6 (⟨h.size, []⟩ : Gd) (right (left (right (right (right (right (right (bodyC cfg.P 6)))))))) fr h11 _
              refine aw_true (x := .tmp 69) (by kernel_rfl) H (fun fr => by kernel_rfl) ?_
              refine aw_seq (by kernel_rfl) ?_
              refine aw_reg (id := 11) (n := 1) [(0, [])] (by kernel_rfl) (by kernel_rfl) ?_
              refine at_seg [(0, [])] [(4, .bool false)] H (noU_all rfl) (fun fr => by kernel_rfl) ?_
              intro fr H
              refine at_nil ?_
              show AW cfg 6 (⟨h.size, []⟩ : Gd) (right (left (right (left (right (right (right (right (right (bodyC cfg.P 6)))))))))) fr h11 _
              refine aw_ret (by kernel_rfl) ?_
              have e1 := Option.some.inj hm
              subst e1
              exact (doneE_of .ret H (fun fr => by kernel_rfl) (.inl rfl) : doneE cfg.P _ _ _ fr _)
            · replace H := H.know 49 hb (by kernel_rfl)
              refine at_seg [(8, [])] [(1, .str p1), (2, .ptr (some (h.size, 0))), (5, .ptr (some (h5.size, 0))), (6, .slice (some (h7.size, 0)) p1.length), (49, .bool false), (50, .ptr (some (h5.size, 1)))] H (noU_all rfl) (fun fr => by kernel_rfl) ?_
              intro fr H
              obtain ⟨x17, hx, hm⟩ := bind_some hm
              refine at_stepT (v := .int .i64 x17) (h1 := h11) (tch' := [(9, h5.size), (4, h.size), (1, h5.size)]) ((⟨h.size, []⟩ : Gd).prot) [(1, .str p1), (2, .ptr (some (h.size, 0))), (5, .ptr (some (h5.size, 0))), (6, .slice (some (h7.size, 0)) p1.length), (49, .bool false), (51, .int .i64 x17)] H (fun fr => by kernel_rfl) (by kernel_rfl) (fun fr => by kernel_rfl) (fun fr => .of (s_ld (by kernel_rfl) (ldI_eq hx))) ?_
              intro fr H
              refine at_seg [(10, [])] [(1, .str p1), (2, .ptr (some (h.size, 0))), (5, .ptr (some (h5.size, 0))), (6, .slice (some (h7.size, 0)) p1.length), (49, .bool false), (51, .int .i64 x17), (52, .ptr (some (h.size, 1)))] H (noU_all rfl) (fun fr => by kernel_rfl) ?_
              intro fr H
              obtain ⟨x18, hx, hm⟩ := bind_some hm
              refine at_stepT (v := .int .i64 x18) (h1 := h11) (tch' := [(11, h.size), (9, h5.size), (4, h.size), (1, h5.size)]) ((⟨h.size, []⟩ : Gd).prot) [(1, .str p1), (2, .ptr (some (h.size, 0))), (5, .ptr (some (h5.size, 0))), (6, .slice (some (h7.size, 0)) p1.length), (49, .bool false), (51, .int .i64 x17), (53, .int .i64 x18)] H (fun fr => by kernel_rfl) (by kernel_rfl) (fun fr => by kernel_rfl) (fun fr => .of (s_ld (by kernel_rfl) (ldI_eq hx))) ?_
              intro fr H
              refine at_seg [(12, []), (13, []), (14, [])] [(1, .str p1), (2, .ptr (some (h.size, 0))), (5, .ptr (some (h5.size, 0))), (6, .slice (some (h7.size, 0)) p1.length), (56, .bool (x17 != x18))] H (noU_all rfl) (fun fr => by kernel_rfl) ?_
              intro fr H
              obtain ⟨x19, ho, hm⟩ := bind_some hm
              refine at_cut [(15, []), (16, []), (17, []), (18, []), (20, []), (21, []), (22, []), (19, [20, 22]), (23, []), (24, []), (25, []), (26, []), (27, [])] (fun fr' h' => h11 = h' ∧ Has fr' 86 [(1, .str p1), (2, .ptr (some (h.size, 0))), (5, .ptr (some (h5.size, 0))), (69, .bool x19)]) ?_ ?_
              · rcases iteB_some ho with ⟨hb, hm⟩ | ⟨hb, hm⟩
                · replace H := H.know 56 hb (by kernel_rfl)
                  refine at_seg [(15, []), (16, []), (17, []), (18, []), (20, []), (21, []), (22, [])] [(1, .str p1), (2, .ptr (some (h.size, 0))), (5, .ptr (some (h5.size, 0))), (56, .bool true), (57, .tuple []), (58, .tuple []), (60, .tuple []), (62, .tuple []), (64, .tuple [])] H (noU_all rfl) (fun fr => by kernel_rfl) ?_
                  intro fr H
                  refine at_skip [(1, .str p1), (2, .ptr (some (h.size, 0))), (5, .ptr (some (h5.size, 0))), (56, .bool true), (61, .tuple []), (62, .tuple []), (64, .tuple [])] H (fun fr => by kernel_rfl) ?_
                  intro fr H
                  refine at_seg [(23, []), (24, []), (25, []), (26, []), (27, [])] [(1, .str p1), (2, .ptr (some (h.size, 0))), (5, .ptr (some (h5.size, 0))), (69, .bool true)] H (noU_all rfl) (fun fr => by kernel_rfl) ?_
                  intro fr H
                  have e1 := Option.some.inj hm
                  subst e1
                  exact at_nil ⟨rfl, H.less _ (fun fr => by kernel_rfl)⟩
                · replace H := H.know 56 hb (by kernel_rfl)
                  obtain ⟨x20, hx, hm⟩ := bind_some hm
                  refine at_stepT (v := .agg x20) (h1 := h11) (tch' := [(15, h5.size), (11, h.size), (9, h5.size), (4, h.size), (1, h5.size)]) ((⟨h.size, []⟩ : Gd).prot) [(1, .str p1), (2, .ptr (some (h.size, 0))), (5, .ptr (some (h5.size, 0))), (6, .slice (some (h7.size, 0)) p1.length), (56, .bool false), (57, .agg x20)] H (fun fr => by kernel_rfl) (by kernel_rfl) (fun fr => by kernel_rfl) (fun fr => .of (s_ldA (by kernel_rfl) hx)) ?_
                  intro fr H
                  refine at_seg [(16, []), (17, []), (18, [])] [(1, .str p1), (2, .ptr (some (h.size, 0))), (5, .ptr (some (h5.size, 0))), (6, .slice (some (h7.size, 0)) p1.length), (56, .bool false), (57, .agg x20), (58, .str p1), (60, .int .i64 (p1.length : Int))] H (noU_all rfl) (fun fr => by kernel_rfl) ?_
                  intro fr H
                  obtain ⟨x21, hx, hm⟩ := bind_some hm
                  refine at_stepT (v := .agg x21) (h1 := h11) (tch' := [(20, h5.size), (15, h5.size), (11, h.size), (9, h5.size), (4, h.size), (1, h5.size)]) ((⟨h.size, []⟩ : Gd).prot) [(1, .str p1), (2, .ptr (some (h.size, 0))), (5, .ptr (some (h5.size, 0))), (6, .slice (some (h7.size, 0)) p1.length), (56, .bool false), (57, .agg x20), (58, .str p1), (60, .int .i64 (p1.length : Int)), (62, .agg x21)] H (fun fr => by kernel_rfl) (by kernel_rfl) (fun fr => by kernel_rfl) (fun fr => .of (s_ldA (by kernel_rfl) hx)) ?_
                  intro fr H
                  refine at_seg [(21, [])] [(1, .str p1), (2, .ptr (some (h.size, 0))), (5, .ptr (some (h5.size, 0))), (56, .bool false), (57, .agg x20), (58, .str p1), (60, .int .i64 (p1.length : Int)), (62, .agg x21), (63, .slice (some (h7.size, 0)) p1.length)] H (noU_all rfl) (fun fr => by kernel_rfl) ?_
                  intro fr H
                  obtain ⟨x22, hx, hm⟩ := bind_some hm
                  refine at_stepT (v := .str x22) (h1 := h11) (tch' := [(22, h7.size), (20, h5.size), (15, h5.size), (11, h.size), (9, h5.size), (4, h.size), (1, h5.size)]) ((⟨h.size, []⟩ : Gd).prot) [(1, .str p1), (2, .ptr (some (h.size, 0))), (5, .ptr (some (h5.size, 0))), (56, .bool false), (57, .agg x20), (58, .str p1), (60, .int .i64 (p1.length : Int)), (62, .agg x21), (64, .str x22)] H (fun fr => by kernel_rfl) (by kernel_rfl) (fun fr => by kernel_rfl) (fun fr => .of (s_byL (s := (⟨some (h7.size, 0), p1.length⟩ : Sl)) (by kernel_rfl) hx)) ?_
                  intro fr H
                  obtain ⟨x23, hx, hm⟩ := bind_some hm
                  refine at_stepT (v := .bool x23) (h1 := h11) (tch' := [(22, h7.size), (20, h5.size), (15, h5.size), (11, h.size), (9, h5.size), (4, h.size), (1, h5.size)]) (h7.size :: h5.size :: (⟨h.size, []⟩ : Gd).prot) [(1, .str p1), (2, .ptr (some (h.size, 0))), (5, .ptr (some (h5.size, 0))), (56, .bool false), (61, .bool x23), (62, .agg x21), (64, .str x22)] H (fun fr => by kernel_rfl) (by kernel_rfl) (fun fr => by kernel_rfl) (fun fr => Steps.call (by kernel_rfl) (ok_tree_Tree_Matches hx)) ?_
                  intro fr H
                  refine at_seg [(23, []), (24, [])] [(1, .str p1), (2, .ptr (some (h.size, 0))), (5, .ptr (some (h5.size, 0))), (56, .bool false), (61, .bool x23), (62, .agg x21), (64, .str x22), (66, .int .i64 (p1.length : Int))] H (noU_all rfl) (fun fr => by kernel_rfl) ?_
                  intro fr H
                  obtain ⟨x24, hx, hm⟩ := bind_some hm
                  refine at_stepT (v := .bool x24) (h1 := h11) (tch' := [(22, h7.size), (20, h5.size), (15, h5.size), (11, h.size), (9, h5.size), (4, h.size), (1, h5.size)]) ((⟨h.size, []⟩ : Gd).prot) [(1, .str p1), (2, .ptr (some (h.size, 0))), (5, .ptr (some (h5.size, 0))), (56, .bool false), (61, .bool x23), (67, .bool x24)] H (fun fr => by kernel_rfl) (by kernel_rfl) (fun fr => by kernel_rfl) (fun fr => Steps.call (by kernel_rfl) (ok_tree_Tree_Matches hx)) ?_
                  intro fr H
                  refine at_seg [(26, []), (27, [])] [(1, .str p1), (2, .ptr (some (h.size, 0))), (5, .ptr (some (h5.size, 0))), (69, .bool (!(x23 == x24)))] H (noU_all rfl) (fun fr => by kernel_rfl) ?_
                  intro fr H
                  have e1 := Option.some.inj hm
                  subst e1
                  exact at_nil ⟨rfl, H.less _ (fun fr => by kernel_rfl)⟩
              · intro t fr h' hK
                obtain ⟨e, H⟩ := hK
                subst e
                refine at_nil ?_
                show AW cfg 6 (⟨h.size, []⟩ : Gd) (right (left (right (right (right (right (right (bodyC cfg.P 6)))))))) fr h11 _
                rcases iteB_some hm with ⟨hb, hm⟩ | ⟨hb, hm⟩
                · replace H := H.know 69 hb (by kernel_rfl)
                  refine aw_true (x := .tmp 69) (by kernel_rfl) H (fun fr => by kernel_rfl) ?_
                  refine aw_seq (by kernel_rfl) ?_
                  refine aw_reg (id := 11) (n := 1) [(0, [])] (by kernel_rfl) (by kernel_rfl) ?_
                  refine at_seg [(0, [])] [(4, .bool false)] H (noU_all rfl) (fun fr => by kernel_rfl) ?_
                  intro fr H
                  refine at_nil ?_
                  show AW cfg 6 (⟨h.size, []⟩ : Gd) (right (left (right (left (right (right (right (right (right (bodyC cfg.P 6)))))))))) fr h11 _
                  refine aw_ret (by kernel_rfl) ?_
                  have e1 := Option.some.inj hm
                  subst e1
                  exact (doneE_of .ret H (fun fr => by kernel_rfl) (.inl rfl) : doneE cfg.P _ _ _ fr _)
                · replace H := H.know 69 hb (by kernel_rfl)
                  refine aw_false (x := .tmp 69) (by kernel_rfl) H (fun fr => by kernel_rfl) ?_
                  refine aw_skip (by kernel_rfl) ?_
                  show AW cfg 6 (⟨h.size, []⟩ : Gd) (right (right (right (right (right (right (bodyC cfg.P 6))))))) fr h11 _
                  refine aw_seq (by kernel_rfl) ?_
                  refine aw_reg (id := 12) (n := 17) [(0, []), (1, []), (2, []), (3, []), (4, []), (5, []), (6, []), (7, []), (8, []), (9, []), (10, []), (11, []), (12, []), (13, []), (14, []), (15, []), (16, [])] (by kernel_rfl) (by kernel_rfl) ?_
                  obtain ⟨x25, hx, hm⟩ := bind_some hm
                  refine at_step (v := .agg x25) (h1 := h11) [(1, .str p1), (5, .ptr (some (h5.size, 0))), (70, .agg x25)] H (fun fr => by kernel_rfl) (fun fr => .of (s_ldA (by kernel_rfl) hx)) ?_
                  intro fr t H
                  refine at_seg [(1, []), (2, []), (3, [])] [(1, .str p1), (5, .ptr (some (h5.size, 0))), (70, .agg x25), (71, .str p1), (73, .int .i64 (p1.length : Int))] H (noU_all rfl) (fun fr => by kernel_rfl) ?_
                  intro fr H
                  obtain ⟨x26, hx, hm⟩ := bind_some hm
                  refine at_step (v := .bool x26) (h1 := h11) [(1, .str p1), (5, .ptr (some (h5.size, 0))), (74, .bool x26)] H (fun fr => by kernel_rfl) (fun fr => Steps.call (by kernel_rfl) (ok_tree_Tree_Matches hx)) ?_
                  intro fr t H
                  refine at_seg [(5, []), (6, [])] [(1, .str p1), (5, .ptr (some (h5.size, 0))), (76, .bool (!x26))] H (noU_all rfl) (fun fr => by kernel_rfl) ?_
                  intro fr H
                  obtain ⟨x27, ho, hm⟩ := bind_some hm
                  refine at_cut [(7, []), (8, []), (9, []), (10, []), (11, []), (12, [])] (fun fr' h' => h11 = h' ∧ Has fr' 86 [(82, .bool x27)]) ?_ ?_
                  · rcases iteB_some ho with ⟨hb, hm⟩ | ⟨hb, hm⟩
                    · replace H := H.know 76 hb (by kernel_rfl)
                      refine at_seg [(7, []), (8, []), (9, []), (10, []), (11, []), (12, [])] [(82, .bool true)] H (noU_all rfl) (fun fr => by kernel_rfl) ?_
                      intro fr H
                      have e1 := Option.some.inj hm
                      subst e1
                      exact at_nil ⟨rfl, H.less _ (fun fr => by kernel_rfl)⟩
                    · replace H := H.know 76 hb (by kernel_rfl)
                      obtain ⟨x28, hx, hm⟩ := bind_some hm
                      refine at_step (v := .agg x28) (h1 := h11) [(1, .str p1), (76, .bool false), (77, .agg x28)] H (fun fr => by kernel_rfl) (fun fr => .of (s_ldA (by kernel_rfl) hx)) ?_
                      intro fr t H
                      refine at_seg [(8, []), (9, []), (10, [])] [(76, .bool false), (77, .agg x28), (78, .str p1), (80, .int .i64 (p1.length : Int))] H (noU_all rfl) (fun fr => by kernel_rfl) ?_
                      intro fr H
                      obtain ⟨x29, hx, hm⟩ := bind_some hm
                      refine at_step (v := .bool x29) (h1 := h11) [(76, .bool false), (81, .bool x29)] H (fun fr => by kernel_rfl) (fun fr => Steps.call (by kernel_rfl) (ok_tree_Tree_Matches hx)) ?_
                      intro fr t H
                      refine at_seg [(12, [])] [(82, .bool x29)] H (noU_all rfl) (fun fr => by kernel_rfl) ?_
                      intro fr H
                      have e1 := Option.some.inj hm
                      subst e1
                      exact at_nil ⟨rfl, H.less _ (fun fr => by kernel_rfl)⟩
                  · intro t fr h' hK
                    obtain ⟨e, H⟩ := hK
                    subst e
                    refine at_seg [(13, [])] [(83, .bool x27)] H (noU_all rfl) (fun fr => by kernel_rfl) ?_
                    intro fr H
                    obtain ⟨x30, ho, hm⟩ := bind_some hm
                    refine at_cut [(14, []), (15, [])] (fun fr' h' => h11 = h' ∧ Has fr' 86 [(85, .bool x30)]) ?_ ?_
                    · rcases iteB_some ho with ⟨hb, hm⟩ | ⟨hb, hm⟩
                      · replace H := H.know 83 hb (by kernel_rfl)
                        obtain ⟨x31, hx, hm⟩ := bind_some hm
                        refine at_step (v := .bool x31) (h1 := h11) [(83, .bool true), (84, .bool x31)] H (fun fr => by kernel_rfl) (fun fr => Steps.call (by kernel_rfl) (ok_boulterlaw18_awake hx)) ?_
                        intro fr t H
                        refine at_seg [(15, [])] [(85, .bool x31)] H (noU_all rfl) (fun fr => by kernel_rfl) ?_
                        intro fr H
                        have e1 := Option.some.inj hm
                        subst e1
                        exact at_nil ⟨rfl, H.less _ (fun fr => by kernel_rfl)⟩
                      · replace H := H.know 83 hb (by kernel_rfl)
                        refine at_seg [(14, []), (15, [])] [(85, .bool false)] H (noU_all rfl) (fun fr => by kernel_rfl) ?_
                        intro fr H
                        have e1 := Option.some.inj hm
                        subst e1
                        exact at_nil ⟨rfl, H.less _ (fun fr => by kernel_rfl)⟩
                    · intro t fr h' hK
                      obtain ⟨e, H⟩ := hK
                      subst e
                      refine at_seg [(16, [])] [(4, .bool x30)] H (noU_all rfl) (fun fr => by kernel_rfl) ?_
                      intro fr H
                      refine at_nil ?_
                      show AW cfg 6 (⟨h.size, []⟩ : Gd) (right (right (right (right (right (right (right (bodyC cfg.P 6)))))))) fr h11 _
                      refine aw_ret (by kernel_rfl) ?_
                      have e1 := Option.some.inj hm
                      subst e1
                      exact (doneE_of .ret H (fun fr => by kernel_rfl) (.inl rfl) : doneE cfg.P _ _ _ fr _)
          · exact hF.elim
end Go.Abs.L
