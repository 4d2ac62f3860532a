/-
  Models of functions of package law18, and that the abstract run tells them. Written by lift.py.
-/
import Derived.Test.YtmjljpnalhknfaaDoorLCfg
import Derived.Test.YtmjljpnalhknfaaDoorLclass
import Derived.Test.YtmjljpnalhknfaaDoorLlaw18
import Derived.Test.YtmjljpnalhknfaaDoorLref18
import Derived.Test.YtmjljpnalhknfaaDoorLtree
namespace Go.Abs.L
open Go.Abs
set_option linter.unusedVariables false
/-! ### boulter/boulterlaw18.TreeAdds -/
noncomputable def M_boulterlaw18_TreeAdds_L0 (h : AHeap) (p0 : Sl) (s : Int × Int × AHeap) : Option ((Int × Int × AHeap) ⊕ ((Int × AHeap) ⊕ (Bool × AHeap))) :=
  match s with
  | (x6, x7, h2) => iteB (decide (x7 < ((p0.n : Nat) : Int))) (((ixL p0 10 x7).bind fun a1 => (ldA h2 (a1.1, a1.2) 10).bind fun x10 => (some (h2.push (.cells none 2 [.int .i64 (0 : Int), .int .i64 (0 : Int), .int .i64 (0 : Int), .int .i64 (0 : Int), .int .i64 (0 : Int), .int .i64 (0 : Int), .int .u64 (0 : Int), .int .u64 (0 : Int), .int .u64 (0 : Int), .int .u64 (0 : Int)]))).bind fun h3 => (stG 10 (⟨h.size, []⟩ : Gd) h3 (h2.size, 0) x10).bind fun h4 => (ldA h4 (h2.size, 0) 10).bind fun x11 => (M_tree_Tree_Add (⟨h.size, []⟩ : Gd) h4 (some (h.size, 0)) x11).bind fun ((x12, x13), h5) => (ldI h5 (h2.size, 0) .i64).bind fun x14 => (ldI h5 (h2.size, 1) .i64).bind fun x15 => (ldI h5 (h2.size, 2) .i64).bind fun x16 => (ldI h5 (h2.size, 3) .i64).bind fun x17 => (ldI h5 (h2.size, 4) .i64).bind fun x18 => (ldI h5 (h2.size, 5) .i64).bind fun x19 => (ldA h5 (h2.size, 6) 4).bind fun x20 => (M_class_Set_Bytes h5 x20).bind fun x21 => (M_boulterref18_May h5 [.int .i64 x14, .int .i64 x15, .int .i64 x16, .int .i64 x17, .int .i64 x18, .int .i64 x19, .str x21] x6).bind fun x22 => iteB (!x22) ((iteB ((x12 != (0 : Int)) || (x13 != (1 : Int))) (some true) ((ldL h5 (h.size, 0)).bind fun x24 => some (((x24.n : Nat) : Int) != x6)) : Option (Bool)).bind fun x23 => iteB x23 (some (.inr (false, h5))) (some (.inl (x6, h5)))) ((iteB ((x12 != x6) || (x13 != (0 : Int))) (some true) ((ldI h5 (h.size, 1) .i64).bind fun x26 => some (x26 != x6)) : Option (Bool)).bind fun x25 => (iteB x25 (some true) ((ldL h5 (h.size, 0)).bind fun x28 => some (((x28.n : Nat) : Int) != (IntKind.i64.wrap (x6 + (1 : Int))))) : Option (Bool)).bind fun x27 => (iteB x27 (some true) ((ldL h5 (h.size, 0)).bind fun x30 => (ixL x30 10 x6).bind fun a2 => (ldA h5 (a2.1, a2.2) 10).bind fun x31 => (ldA h5 (h2.size, 0) 10).bind fun x32 => (eqG cfg.P 30 x31 x32).bind fun x33 => some (!x33)) : Option (Bool)).bind fun x29 => iteB x29 (some (.inr (false, h5))) (some (.inl (IntKind.i64.wrap (x6 + (1 : Int)), h5)))) : Option ((Int × AHeap) ⊕ (Bool × AHeap))).bind fun o2 => (match o2 with | .inl (x8, h6) => some (.inl (x8, IntKind.i64.wrap (x7 + (1 : Int)), h6)) | .inr (x9, h6) => some (.inr (.inr (x9, h6))))) (some (.inr (.inl (x6, h2))))
noncomputable def M_boulterlaw18_TreeAdds (h : AHeap) (p0 : Sl) : Option (Bool) :=
 iteB (decide (((p0.n : Nat) : Int) > (40 : Int))) ((M_boulterlaw18_awake).bind fun x1 => some x1) ((some (h.push (.cells none 2 [.slice none 0, .int .i64 (0 : Int)]))).bind fun h1 => (loop (M_boulterlaw18_TreeAdds_L0 h p0) ((0 : Int), (0 : Int), h1)).bind fun o1 => (match o1 with | .inl (x4, h7) => (ldA h7 (h.size, 0) 2).bind fun x34 => (M_tree_Tree_Right h7 x34).bind fun x35 => (iteB (x35 == (decide (x4 > (0 : Int)))) ((M_boulterlaw18_awake).bind fun x37 => some x37) (some false) : Option (Bool)).bind fun x36 => some x36 | .inr (x5, h7) => some x5))
theorem ok_boulterlaw18_TreeAdds {g : Gd} {h : AHeap} {p0 : Sl} {r0 : Bool} (hm : M_boulterlaw18_TreeAdds h p0 = some r0) : Runs cfg g h 3 [.slice p0.r p0.n] (.bool r0) h := by
  refine runs2E (by kernel_rfl) (by kernel_rfl) (body_ofE (n := 97) (rs := [.tmp 2]) (by kernel_rfl) ?_)
  unfold M_boulterlaw18_TreeAdds at hm
  refine start (n := 97) [(0, .slice p0.r p0.n)] (by kernel_rfl) (by kernel_rfl) ?_
  intro fr H
  refine aw_seq (by kernel_rfl) ?_
  refine aw_reg (id := 0) (n := 1) [(0, [])] (by kernel_rfl) (by kernel_rfl) ?_
  refine at_seg [(0, [])] [(0, .slice p0.r p0.n)] H (noU_all rfl) (fun fr => by kernel_rfl) ?_
  intro fr H
  refine at_nil ?_
  show AW cfg 3 (⟨h.size, []⟩ : Gd) (right (bodyC cfg.P 3)) fr h _
  refine aw_seq (by kernel_rfl) ?_
  refine aw_seq (by kernel_rfl) ?_
  refine aw_reg (id := 1) (n := 3) [(0, []), (1, []), (2, [])] (by kernel_rfl) (by kernel_rfl) ?_
  refine at_seg [(0, []), (1, []), (2, [])] [(0, .slice p0.r p0.n), (11, .bool (decide (((p0.n : Nat) : Int) > (40 : Int))))] H (noU_all rfl) (fun fr => by kernel_rfl) ?_
  intro fr H
  refine at_nil ?_
  show AW cfg 3 (⟨h.size, []⟩ : Gd) (right (left (right (bodyC cfg.P 3)))) fr h _
  rcases iteB_some hm with ⟨hb, hm⟩ | ⟨hb, hm⟩
  · replace H := H.know 11 hb (by kernel_rfl)
    refine aw_true (x := .tmp 11) (by kernel_rfl) H (fun fr => by kernel_rfl) ?_
    refine aw_seq (by kernel_rfl) ?_
    refine aw_reg (id := 2) (n := 2) [(0, []), (1, [])] (by kernel_rfl) (by kernel_rfl) ?_
    obtain ⟨x1, hx, hm⟩ := bind_some hm
    refine at_step (v := .bool x1) (h1 := h) [(12, .bool x1)] H (fun fr => by kernel_rfl) (fun fr => Steps.call (by kernel_rfl) (ok_boulterlaw18_awake hx)) ?_
    intro fr t H
    refine at_seg [(1, [])] [(2, .bool x1)] H (noU_all rfl) (fun fr => by kernel_rfl) ?_
    intro fr H
    refine at_nil ?_
    show AW cfg 3 (⟨h.size, []⟩ : Gd) (right (left (right (left (right (bodyC cfg.P 3)))))) fr h _
    refine aw_ret (by kernel_rfl) ?_
    have e1 := Option.some.inj hm
    subst e1
    exact (doneE_of .ret H (fun fr => by kernel_rfl) (.inl rfl) : doneE cfg.P _ _ _ fr _)
  · replace H := H.know 11 hb (by kernel_rfl)
    refine aw_false (x := .tmp 11) (by kernel_rfl) H (fun fr => by kernel_rfl) ?_
    refine aw_skip (by kernel_rfl) ?_
    show AW cfg 3 (⟨h.size, []⟩ : Gd) (right (right (bodyC cfg.P 3))) fr h _
    refine aw_seq (by kernel_rfl) ?_
    refine aw_reg (id := 3) (n := 1) [(0, [])] (by kernel_rfl) (by kernel_rfl) ?_
    obtain ⟨h1, hx, hm⟩ := bind_some hm
    refine at_step (v := .ptr (some (h.size, 0))) (h1 := h1) [(0, .slice p0.r p0.n), (3, .ptr (some (h.size, 0)))] H (fun fr => by kernel_rfl) (fun fr => .of (s_n' (by kernel_rfl) hx)) ?_
    intro fr t H
    refine at_nil ?_
    show AW cfg 3 (⟨h.size, []⟩ : Gd) (right (right (right (bodyC cfg.P 3)))) fr h1 _
    refine aw_seq (by kernel_rfl) ?_
    refine aw_reg (id := 4) (n := 1) [(0, [])] (by kernel_rfl) (by kernel_rfl) ?_
    refine at_seg [(0, [])] [(0, .slice p0.r p0.n), (3, .ptr (some (h.size, 0))), (4, .int .i64 (0 : Int))] H (noU_all rfl) (fun fr => by kernel_rfl) ?_
    intro fr H
    refine at_nil ?_
    show AW cfg 3 (⟨h.size, []⟩ : Gd) (right (right (right (right (bodyC cfg.P 3))))) fr h1 _
    refine aw_seq (by kernel_rfl) ?_
    refine aw_seq (by kernel_rfl) ?_
    refine aw_reg (id := 5) (n := 3) [(0, []), (1, []), (2, [])] (by kernel_rfl) (by kernel_rfl) ?_
    refine at_seg [(0, []), (1, []), (2, [])] [(3, .ptr (some (h.size, 0))), (4, .int .i64 (0 : Int)), (13, .slice p0.r p0.n), (14, .int .i64 ((p0.n : Nat) : Int)), (15, .int .i64 (0 : Int))] H (noU_all rfl) (fun fr => by kernel_rfl) ?_
    intro fr H
    refine at_nil ?_
    show AW cfg 3 (⟨h.size, []⟩ : Gd) (right (left (right (right (right (right (bodyC cfg.P 3))))))) fr h1 _
    refine aw_block (id := 0) (by kernel_rfl) ?_
    obtain ⟨o1, ho, hm⟩ := bind_some hm
    refine aw_mono (Q' := fun e fr' h' => (∃ (x4 : Int), e = .exit 0 ∧ .inl (x4, h') = o1 ∧ h' = h' ∧ Has fr' 97 [(3, .ptr (some (h.size, 0))), (4, .int .i64 x4)]) ∨ (∃ (x5 : Bool), e = .ret ∧ .inr (x5, h') = o1 ∧ h' = h' ∧ Has fr' 97 [(2, .bool x5)]) ∨ False) ?_ ?_
    · refine aw_loop (by kernel_rfl) (fun (s : Int × Int × AHeap) fr' h' => ∃ (x6 : Int) (x7 : Int), (x6, x7, h') = s ∧ h' = h' ∧ Has fr' 97 [(3, .ptr (some (h.size, 0))), (4, .int .i64 x6), (13, .slice p0.r p0.n), (14, .int .i64 ((p0.n : Nat) : Int)), (15, .int .i64 x7)]) ho ⟨(0 : Int), (0 : Int), rfl, rfl, H.less _ (fun fr => by kernel_rfl)⟩ ?_
      clear ho hm H
      intro s q fr h2 hI hm
      obtain ⟨x6, x7, rfl, _, H⟩ := hI
      unfold M_boulterlaw18_TreeAdds_L0 at hm
      refine aw_seq (by kernel_rfl) ?_
      refine aw_reg (id := 6) (n := 1) [(0, [])] (by kernel_rfl) (by kernel_rfl) ?_
      refine at_seg [(0, [])] [(3, .ptr (some (h.size, 0))), (4, .int .i64 x6), (13, .slice p0.r p0.n), (14, .int .i64 ((p0.n : Nat) : Int)), (15, .int .i64 x7), (16, .bool (decide (x7 < ((p0.n : Nat) : Int))))] H (noU_all rfl) (fun fr => by kernel_rfl) ?_
      intro fr H
      refine at_nil ?_
      show AW cfg 3 (⟨h.size, []⟩ : Gd) (right (left (left (right (left (right (right (right (right (bodyC cfg.P 3)))))))))) fr h2 _
      refine aw_seq (by kernel_rfl) ?_
      rcases iteB_some hm with ⟨hb, hm⟩ | ⟨hb, hm⟩
      · replace H := H.know 16 hb (by kernel_rfl)
        refine aw_true (x := .tmp 16) (by kernel_rfl) H (fun fr => by kernel_rfl) ?_
        refine aw_skip (by kernel_rfl) ?_
        show AW cfg 3 (⟨h.size, []⟩ : Gd) (right (right (left (left (right (left (right (right (right (right (bodyC cfg.P 3))))))))))) fr h2 _
        refine aw_seq (by kernel_rfl) ?_
        obtain ⟨o2, ho, hm⟩ := bind_some hm
        refine aw_mono (Q' := fun e fr' h' => (∃ (x8 : Int), e = .normal ∧ .inl (x8, h') = o2 ∧ h' = h' ∧ Has fr' 97 [(3, .ptr (some (h.size, 0))), (4, .int .i64 x8), (13, .slice p0.r p0.n), (14, .int .i64 ((p0.n : Nat) : Int)), (15, .int .i64 x7)]) ∨ (∃ (x9 : Bool), e = .ret ∧ .inr (x9, h') = o2 ∧ h' = h' ∧ Has fr' 97 [(2, .bool x9)]) ∨ False) ?_ ?_
        · replace hm := ho
          clear ho
          refine aw_block (id := 1) (by kernel_rfl) ?_
          refine aw_seq (by kernel_rfl) ?_
          refine aw_reg (id := 7) (n := 4) [(0, []), (1, []), (2, []), (3, [])] (by kernel_rfl) (by kernel_rfl) ?_
          obtain ⟨a1, hx, hm⟩ := bind_some hm
          refine at_step (v := .ptr (some a1)) (h1 := h2) [(3, .ptr (some (h.size, 0))), (4, .int .i64 x6), (13, .slice p0.r p0.n), (14, .int .i64 ((p0.n : Nat) : Int)), (15, .int .i64 x7), (17, .ptr (some (a1.1, a1.2)))] H (fun fr => by kernel_rfl) (fun fr => .of (s_ixL (s := p0) (by kernel_rfl) hx)) ?_
          intro fr t H
          obtain ⟨x10, hx, hm⟩ := bind_some hm
          refine at_step (v := .agg x10) (h1 := h2) [(3, .ptr (some (h.size, 0))), (4, .int .i64 x6), (13, .slice p0.r p0.n), (14, .int .i64 ((p0.n : Nat) : Int)), (15, .int .i64 x7), (18, .agg x10)] H (fun fr => by kernel_rfl) (fun fr => .of (s_ldA (by kernel_rfl) hx)) ?_
          intro fr t H
          obtain ⟨h3, hx, hm⟩ := bind_some hm
          refine at_step (v := .ptr (some (h2.size, 0))) (h1 := h3) [(3, .ptr (some (h.size, 0))), (4, .int .i64 x6), (6, .ptr (some (h2.size, 0))), (13, .slice p0.r p0.n), (14, .int .i64 ((p0.n : Nat) : Int)), (15, .int .i64 x7), (18, .agg x10)] H (fun fr => by kernel_rfl) (fun fr => .of (s_n' (by kernel_rfl) hx)) ?_
          intro fr t H
          obtain ⟨h4, hx, hm⟩ := bind_some hm
          refine at_step (v := .tuple []) (h1 := h4) [(3, .ptr (some (h.size, 0))), (4, .int .i64 x6), (6, .ptr (some (h2.size, 0))), (13, .slice p0.r p0.n), (14, .int .i64 ((p0.n : Nat) : Int)), (15, .int .i64 x7)] H (fun fr => by kernel_rfl) (fun fr => .of (s_stG (by kernel_rfl) hx)) ?_
          intro fr t H
          refine at_nil ?_
          show AW cfg 3 (⟨h.size, []⟩ : Gd) (right (left (left (right (right (left (left (right (left (right (right (right (right (bodyC cfg.P 3)))))))))))))) fr h4 _
          refine aw_seq (by kernel_rfl) ?_
          refine aw_reg (id := 8) (n := 7) [(0, []), (1, []), (2, []), (3, []), (4, []), (5, []), (6, [])] (by kernel_rfl) (by kernel_rfl) ?_
          obtain ⟨x11, hx, hm⟩ := bind_some hm
          refine at_step (v := .agg x11) (h1 := h4) [(3, .ptr (some (h.size, 0))), (4, .int .i64 x6), (6, .ptr (some (h2.size, 0))), (13, .slice p0.r p0.n), (14, .int .i64 ((p0.n : Nat) : Int)), (15, .int .i64 x7), (20, .agg x11)] H (fun fr => by kernel_rfl) (fun fr => .of (s_ldA (by kernel_rfl) hx)) ?_
          intro fr t H
          obtain ⟨⟨⟨x12, x13⟩, h5⟩, hx, hm⟩ := bind_some hm
          refine at_step (v := .tuple [.int .i64 x12, .int .i64 x13]) (h1 := h5) [(3, .ptr (some (h.size, 0))), (4, .int .i64 x6), (6, .ptr (some (h2.size, 0))), (13, .slice p0.r p0.n), (14, .int .i64 ((p0.n : Nat) : Int)), (15, .int .i64 x7), (21, .tuple [.int .i64 x12, .int .i64 x13])] H (fun fr => by kernel_rfl) (fun fr => Steps.call (by kernel_rfl) (ok_tree_Tree_Add hx)) ?_
          intro fr t H
          refine at_seg [(2, []), (3, []), (4, []), (5, []), (6, [])] [(3, .ptr (some (h.size, 0))), (4, .int .i64 x6), (6, .ptr (some (h2.size, 0))), (7, .int .i64 x12), (8, .int .i64 x13), (13, .slice p0.r p0.n), (14, .int .i64 ((p0.n : Nat) : Int)), (15, .int .i64 x7)] H (noU_all rfl) (fun fr => by kernel_rfl) ?_
          intro fr H
          refine at_nil ?_
          show AW cfg 3 (⟨h.size, []⟩ : Gd) (right (right (left (left (right (right (left (left (right (left (right (right (right (right (bodyC cfg.P 3))))))))))))))) fr h5 _
          refine aw_seq (by kernel_rfl) ?_
          refine aw_seq (by kernel_rfl) ?_
          refine aw_draw (id := 9) (n := 19) (by kernel_rfl) [(0, []), (1, []), (2, []), (3, []), (4, []), (5, []), (6, []), (7, []), (8, []), (9, []), (10, []), (11, []), (12, []), (13, []), (14, [1, 3, 5, 7, 9, 11]), (15, []), (16, []), (17, []), (18, [])] (by kernel_rfl) ?_
          refine at_seg [(0, [])] [(3, .ptr (some (h.size, 0))), (4, .int .i64 x6), (6, .ptr (some (h2.size, 0))), (7, .int .i64 x12), (8, .int .i64 x13), (13, .slice p0.r p0.n), (14, .int .i64 ((p0.n : Nat) : Int)), (15, .int .i64 x7), (24, .ptr (some (h2.size, 0)))] H (noU_all rfl) (fun fr => by kernel_rfl) ?_
          intro fr H
          obtain ⟨x14, hx, hm⟩ := bind_some hm
          refine at_stepT (v := .int .i64 x14) (h1 := h5) (tch' := [(1, h2.size)]) ((⟨h.size, []⟩ : Gd).prot) [(3, .ptr (some (h.size, 0))), (4, .int .i64 x6), (6, .ptr (some (h2.size, 0))), (7, .int .i64 x12), (8, .int .i64 x13), (13, .slice p0.r p0.n), (14, .int .i64 ((p0.n : Nat) : Int)), (15, .int .i64 x7), (25, .int .i64 x14)] H (fun fr => by kernel_rfl) (by kernel_rfl) (fun fr => by kernel_rfl) (fun fr => .of (s_ld (by kernel_rfl) (ldI_eq hx))) ?_
          intro fr H
          refine at_seg [(2, [])] [(3, .ptr (some (h.size, 0))), (4, .int .i64 x6), (6, .ptr (some (h2.size, 0))), (7, .int .i64 x12), (8, .int .i64 x13), (13, .slice p0.r p0.n), (14, .int .i64 ((p0.n : Nat) : Int)), (15, .int .i64 x7), (25, .int .i64 x14), (26, .ptr (some (h2.size, 1)))] H (noU_all rfl) (fun fr => by kernel_rfl) ?_
          intro fr H
          obtain ⟨x15, hx, hm⟩ := bind_some hm
          refine at_stepT (v := .int .i64 x15) (h1 := h5) (tch' := [(3, h2.size), (1, h2.size)]) ((⟨h.size, []⟩ : Gd).prot) [(3, .ptr (some (h.size, 0))), (4, .int .i64 x6), (6, .ptr (some (h2.size, 0))), (7, .int .i64 x12), (8, .int .i64 x13), (13, .slice p0.r p0.n), (14, .int .i64 ((p0.n : Nat) : Int)), (15, .int .i64 x7), (25, .int .i64 x14), (27, .int .i64 x15)] H (fun fr => by kernel_rfl) (by kernel_rfl) (fun fr => by kernel_rfl) (fun fr => .of (s_ld (by kernel_rfl) (ldI_eq hx))) ?_
          intro fr H
          refine at_seg [(4, [])] [(3, .ptr (some (h.size, 0))), (4, .int .i64 x6), (6, .ptr (some (h2.size, 0))), (7, .int .i64 x12), (8, .int .i64 x13), (13, .slice p0.r p0.n), (14, .int .i64 ((p0.n : Nat) : Int)), (15, .int .i64 x7), (25, .int .i64 x14), (27, .int .i64 x15), (28, .ptr (some (h2.size, 2)))] H (noU_all rfl) (fun fr => by kernel_rfl) ?_
          intro fr H
          obtain ⟨x16, hx, hm⟩ := bind_some hm
          refine at_stepT (v := .int .i64 x16) (h1 := h5) (tch' := [(5, h2.size), (3, h2.size), (1, h2.size)]) ((⟨h.size, []⟩ : Gd).prot) [(3, .ptr (some (h.size, 0))), (4, .int .i64 x6), (6, .ptr (some (h2.size, 0))), (7, .int .i64 x12), (8, .int .i64 x13), (13, .slice p0.r p0.n), (14, .int .i64 ((p0.n : Nat) : Int)), (15, .int .i64 x7), (25, .int .i64 x14), (27, .int .i64 x15), (29, .int .i64 x16)] H (fun fr => by kernel_rfl) (by kernel_rfl) (fun fr => by kernel_rfl) (fun fr => .of (s_ld (by kernel_rfl) (ldI_eq hx))) ?_
          intro fr H
          refine at_seg [(6, [])] [(3, .ptr (some (h.size, 0))), (4, .int .i64 x6), (6, .ptr (some (h2.size, 0))), (7, .int .i64 x12), (8, .int .i64 x13), (13, .slice p0.r p0.n), (14, .int .i64 ((p0.n : Nat) : Int)), (15, .int .i64 x7), (25, .int .i64 x14), (27, .int .i64 x15), (29, .int .i64 x16), (30, .ptr (some (h2.size, 3)))] H (noU_all rfl) (fun fr => by kernel_rfl) ?_
          intro fr H
          obtain ⟨x17, hx, hm⟩ := bind_some hm
          refine at_stepT (v := .int .i64 x17) (h1 := h5) (tch' := [(7, h2.size), (5, h2.size), (3, h2.size), (1, h2.size)]) ((⟨h.size, []⟩ : Gd).prot) [(3, .ptr (some (h.size, 0))), (4, .int .i64 x6), (6, .ptr (some (h2.size, 0))), (7, .int .i64 x12), (8, .int .i64 x13), (13, .slice p0.r p0.n), (14, .int .i64 ((p0.n : Nat) : Int)), (15, .int .i64 x7), (25, .int .i64 x14), (27, .int .i64 x15), (29, .int .i64 x16), (31, .int .i64 x17)] H (fun fr => by kernel_rfl) (by kernel_rfl) (fun fr => by kernel_rfl) (fun fr => .of (s_ld (by kernel_rfl) (ldI_eq hx))) ?_
          intro fr H
          refine at_seg [(8, [])] [(3, .ptr (some (h.size, 0))), (4, .int .i64 x6), (6, .ptr (some (h2.size, 0))), (7, .int .i64 x12), (8, .int .i64 x13), (13, .slice p0.r p0.n), (14, .int .i64 ((p0.n : Nat) : Int)), (15, .int .i64 x7), (25, .int .i64 x14), (27, .int .i64 x15), (29, .int .i64 x16), (31, .int .i64 x17), (32, .ptr (some (h2.size, 4)))] H (noU_all rfl) (fun fr => by kernel_rfl) ?_
          intro fr H
          obtain ⟨x18, hx, hm⟩ := bind_some hm
          refine at_stepT (v := .int .i64 x18) (h1 := h5) (tch' := [(9, h2.size), (7, h2.size), (5, h2.size), (3, h2.size), (1, h2.size)]) ((⟨h.size, []⟩ : Gd).prot) [(3, .ptr (some (h.size, 0))), (4, .int .i64 x6), (6, .ptr (some (h2.size, 0))), (7, .int .i64 x12), (8, .int .i64 x13), (13, .slice p0.r p0.n), (14, .int .i64 ((p0.n : Nat) : Int)), (15, .int .i64 x7), (25, .int .i64 x14), (27, .int .i64 x15), (29, .int .i64 x16), (31, .int .i64 x17), (33, .int .i64 x18)] H (fun fr => by kernel_rfl) (by kernel_rfl) (fun fr => by kernel_rfl) (fun fr => .of (s_ld (by kernel_rfl) (ldI_eq hx))) ?_
          intro fr H
          refine at_seg [(10, [])] [(3, .ptr (some (h.size, 0))), (4, .int .i64 x6), (6, .ptr (some (h2.size, 0))), (7, .int .i64 x12), (8, .int .i64 x13), (13, .slice p0.r p0.n), (14, .int .i64 ((p0.n : Nat) : Int)), (15, .int .i64 x7), (25, .int .i64 x14), (27, .int .i64 x15), (29, .int .i64 x16), (31, .int .i64 x17), (33, .int .i64 x18), (34, .ptr (some (h2.size, 5)))] H (noU_all rfl) (fun fr => by kernel_rfl) ?_
          intro fr H
          obtain ⟨x19, hx, hm⟩ := bind_some hm
          refine at_stepT (v := .int .i64 x19) (h1 := h5) (tch' := [(11, h2.size), (9, h2.size), (7, h2.size), (5, h2.size), (3, h2.size), (1, h2.size)]) ((⟨h.size, []⟩ : Gd).prot) [(3, .ptr (some (h.size, 0))), (4, .int .i64 x6), (6, .ptr (some (h2.size, 0))), (7, .int .i64 x12), (8, .int .i64 x13), (13, .slice p0.r p0.n), (14, .int .i64 ((p0.n : Nat) : Int)), (15, .int .i64 x7), (25, .int .i64 x14), (27, .int .i64 x15), (29, .int .i64 x16), (31, .int .i64 x17), (33, .int .i64 x18), (35, .int .i64 x19)] H (fun fr => by kernel_rfl) (by kernel_rfl) (fun fr => by kernel_rfl) (fun fr => .of (s_ld (by kernel_rfl) (ldI_eq hx))) ?_
          intro fr H
          refine at_seg [(12, [])] [(3, .ptr (some (h.size, 0))), (4, .int .i64 x6), (6, .ptr (some (h2.size, 0))), (7, .int .i64 x12), (8, .int .i64 x13), (13, .slice p0.r p0.n), (14, .int .i64 ((p0.n : Nat) : Int)), (15, .int .i64 x7), (25, .int .i64 x14), (27, .int .i64 x15), (29, .int .i64 x16), (31, .int .i64 x17), (33, .int .i64 x18), (35, .int .i64 x19), (36, .ptr (some (h2.size, 6)))] H (noU_all rfl) (fun fr => by kernel_rfl) ?_
          intro fr H
          obtain ⟨x20, hx, hm⟩ := bind_some hm
          refine at_stepT (v := .agg x20) (h1 := h5) (tch' := [(13, h2.size), (11, h2.size), (9, h2.size), (7, h2.size), (5, h2.size), (3, h2.size), (1, h2.size)]) ((⟨h.size, []⟩ : Gd).prot) [(3, .ptr (some (h.size, 0))), (4, .int .i64 x6), (6, .ptr (some (h2.size, 0))), (7, .int .i64 x12), (8, .int .i64 x13), (13, .slice p0.r p0.n), (14, .int .i64 ((p0.n : Nat) : Int)), (15, .int .i64 x7), (25, .int .i64 x14), (27, .int .i64 x15), (29, .int .i64 x16), (31, .int .i64 x17), (33, .int .i64 x18), (35, .int .i64 x19), (37, .agg x20)] H (fun fr => by kernel_rfl) (by kernel_rfl) (fun fr => by kernel_rfl) (fun fr => .of (s_ldA (by kernel_rfl) hx)) ?_
          intro fr H
          obtain ⟨x21, hx, hm⟩ := bind_some hm
          refine at_stepT (v := .str x21) (h1 := h5) (tch' := [(13, h2.size), (11, h2.size), (9, h2.size), (7, h2.size), (5, h2.size), (3, h2.size), (1, h2.size)]) (h2.size :: h2.size :: h2.size :: h2.size :: h2.size :: h2.size :: (⟨h.size, []⟩ : Gd).prot) [(3, .ptr (some (h.size, 0))), (4, .int .i64 x6), (6, .ptr (some (h2.size, 0))), (7, .int .i64 x12), (8, .int .i64 x13), (13, .slice p0.r p0.n), (14, .int .i64 ((p0.n : Nat) : Int)), (15, .int .i64 x7), (25, .int .i64 x14), (27, .int .i64 x15), (29, .int .i64 x16), (31, .int .i64 x17), (33, .int .i64 x18), (35, .int .i64 x19), (38, .str x21)] H (fun fr => by kernel_rfl) (by kernel_rfl) (fun fr => by kernel_rfl) (fun fr => Steps.call (by kernel_rfl) (ok_class_Set_Bytes hx)) ?_
          intro fr H
          refine at_seg [(15, []), (16, [])] [(3, .ptr (some (h.size, 0))), (4, .int .i64 x6), (6, .ptr (some (h2.size, 0))), (7, .int .i64 x12), (8, .int .i64 x13), (13, .slice p0.r p0.n), (14, .int .i64 ((p0.n : Nat) : Int)), (15, .int .i64 x7), (39, .agg [.int .i64 x14, .int .i64 x15, .int .i64 x16, .int .i64 x17, .int .i64 x18, .int .i64 x19, .str x21]), (40, .int .i64 x6)] H (noU_all rfl) (fun fr => by kernel_rfl) ?_
          intro fr H
          obtain ⟨x22, hx, hm⟩ := bind_some hm
          refine at_stepT (v := .bool x22) (h1 := h5) (tch' := [(13, h2.size), (11, h2.size), (9, h2.size), (7, h2.size), (5, h2.size), (3, h2.size), (1, h2.size)]) ((⟨h.size, []⟩ : Gd).prot) [(3, .ptr (some (h.size, 0))), (4, .int .i64 x6), (6, .ptr (some (h2.size, 0))), (7, .int .i64 x12), (8, .int .i64 x13), (13, .slice p0.r p0.n), (14, .int .i64 ((p0.n : Nat) : Int)), (15, .int .i64 x7), (41, .bool x22)] H (fun fr => by kernel_rfl) (by kernel_rfl) (fun fr => by kernel_rfl) (fun fr => Steps.call (by kernel_rfl) (ok_boulterref18_May hx)) ?_
          intro fr H
          refine at_seg [(18, [])] [(3, .ptr (some (h.size, 0))), (4, .int .i64 x6), (6, .ptr (some (h2.size, 0))), (7, .int .i64 x12), (8, .int .i64 x13), (13, .slice p0.r p0.n), (14, .int .i64 ((p0.n : Nat) : Int)), (15, .int .i64 x7), (42, .bool (!x22))] H (noU_all rfl) (fun fr => by kernel_rfl) ?_
          intro fr H
          refine at_nil ?_
          show AW cfg 3 (⟨h.size, []⟩ : Gd) (right (left (right (right (left (left (right (right (left (left (right (left (right (right (right (right (bodyC cfg.P 3))))))))))))))))) fr h5 _
          rcases iteB_some hm with ⟨hb, hm⟩ | ⟨hb, hm⟩
          · replace H := H.know 42 hb (by kernel_rfl)
            refine aw_true (x := .tmp 42) (by kernel_rfl) H (fun fr => by kernel_rfl) ?_
            refine aw_seq (by kernel_rfl) ?_
            refine aw_seq (by kernel_rfl) ?_
            refine aw_reg (id := 10) (n := 13) [(0, []), (1, []), (2, []), (3, []), (4, []), (5, []), (6, []), (7, []), (8, []), (9, []), (10, []), (11, []), (12, [])] (by kernel_rfl) (by kernel_rfl) ?_
            refine at_seg [(0, []), (1, []), (2, [])] [(3, .ptr (some (h.size, 0))), (4, .int .i64 x6), (8, .int .i64 x13), (13, .slice p0.r p0.n), (14, .int .i64 ((p0.n : Nat) : Int)), (15, .int .i64 x7), (45, .bool (x12 != (0 : Int)))] H (noU_all rfl) (fun fr => by kernel_rfl) ?_
            intro fr H
            refine at_cut [(3, []), (4, []), (5, [])] (fun fr' h' => h5 = h' ∧ Has fr' 97 [(3, .ptr (some (h.size, 0))), (4, .int .i64 x6), (13, .slice p0.r p0.n), (14, .int .i64 ((p0.n : Nat) : Int)), (15, .int .i64 x7), (48, .bool ((x12 != (0 : Int)) || (x13 != (1 : Int))))]) ?_ ?_
            · cases hb : (x12 != (0 : Int) : Bool) with
              | true =>
                replace H := H.know 45 hb (by kernel_rfl)
                refine at_seg [(3, []), (4, []), (5, [])] [(3, .ptr (some (h.size, 0))), (4, .int .i64 x6), (13, .slice p0.r p0.n), (14, .int .i64 ((p0.n : Nat) : Int)), (15, .int .i64 x7), (48, .bool true)] H (noU_all rfl) (fun fr => by kernel_rfl) ?_
                intro fr H
                exact at_nil ⟨rfl, by first | exact H.less _ (fun fr => by rfl) | exact H.less _ (fun fr => by rw [hb]; rfl)⟩
              | false =>
                replace H := H.know 45 hb (by kernel_rfl)
                refine at_seg [(3, []), (4, []), (5, [])] [(3, .ptr (some (h.size, 0))), (4, .int .i64 x6), (13, .slice p0.r p0.n), (14, .int .i64 ((p0.n : Nat) : Int)), (15, .int .i64 x7), (48, .bool (x13 != (1 : Int)))] H (noU_all rfl) (fun fr => by kernel_rfl) ?_
                intro fr H
                exact at_nil ⟨rfl, by first | exact H.less _ (fun fr => by rfl) | exact H.less _ (fun fr => by rw [hb]; rfl)⟩
            · intro t fr h' hK
              obtain ⟨e, H⟩ := hK
              subst e
              refine at_seg [(6, [])] [(3, .ptr (some (h.size, 0))), (4, .int .i64 x6), (13, .slice p0.r p0.n), (14, .int .i64 ((p0.n : Nat) : Int)), (15, .int .i64 x7), (49, .bool ((x12 != (0 : Int)) || (x13 != (1 : Int))))] H (noU_all rfl) (fun fr => by kernel_rfl) ?_
              intro fr H
              obtain ⟨x23, ho, hm⟩ := bind_some hm
              refine at_cut [(7, []), (8, []), (9, []), (10, []), (11, []), (12, [])] (fun fr' h' => h5 = h' ∧ Has fr' 97 [(3, .ptr (some (h.size, 0))), (4, .int .i64 x6), (13, .slice p0.r p0.n), (14, .int .i64 ((p0.n : Nat) : Int)), (15, .int .i64 x7), (55, .bool x23)]) ?_ ?_
              · rcases iteB_some ho with ⟨hb, hm⟩ | ⟨hb, hm⟩
                · replace H := H.know 49 hb (by kernel_rfl)
                  refine at_seg [(7, []), (8, []), (9, []), (10, []), (11, []), (12, [])] [(3, .ptr (some (h.size, 0))), (4, .int .i64 x6), (13, .slice p0.r p0.n), (14, .int .i64 ((p0.n : Nat) : Int)), (15, .int .i64 x7), (55, .bool true)] H (noU_all rfl) (fun fr => by kernel_rfl) ?_
                  intro fr H
                  have e1 := Option.some.inj hm
                  subst e1
                  exact at_nil ⟨rfl, H.less _ (fun fr => by kernel_rfl)⟩
                · replace H := H.know 49 hb (by kernel_rfl)
                  refine at_seg [(7, [])] [(3, .ptr (some (h.size, 0))), (4, .int .i64 x6), (13, .slice p0.r p0.n), (14, .int .i64 ((p0.n : Nat) : Int)), (15, .int .i64 x7), (49, .bool false), (50, .ptr (some (h.size, 0)))] H (noU_all rfl) (fun fr => by kernel_rfl) ?_
                  intro fr H
                  obtain ⟨x24, hx, hm⟩ := bind_some hm
                  refine at_step (v := .slice x24.r x24.n) (h1 := h5) [(3, .ptr (some (h.size, 0))), (4, .int .i64 x6), (13, .slice p0.r p0.n), (14, .int .i64 ((p0.n : Nat) : Int)), (15, .int .i64 x7), (49, .bool false), (51, .slice x24.r x24.n)] H (fun fr => by kernel_rfl) (fun fr => .of (s_ld (by kernel_rfl) (ldL_eq hx))) ?_
                  intro fr t H
                  refine at_seg [(9, []), (10, []), (11, []), (12, [])] [(3, .ptr (some (h.size, 0))), (4, .int .i64 x6), (13, .slice p0.r p0.n), (14, .int .i64 ((p0.n : Nat) : Int)), (15, .int .i64 x7), (55, .bool (((x24.n : Nat) : Int) != x6))] H (noU_all rfl) (fun fr => by kernel_rfl) ?_
                  intro fr H
                  have e1 := Option.some.inj hm
                  subst e1
                  exact at_nil ⟨rfl, H.less _ (fun fr => by kernel_rfl)⟩
              · intro t fr h' hK
                obtain ⟨e, H⟩ := hK
                subst e
                refine at_nil ?_
                show AW cfg 3 (⟨h.size, []⟩ : Gd) (right (left (left (right (left (right (right (left (left (right (right (left (left (right (left (right (right (right (right (bodyC cfg.P 3)))))))))))))))))))) fr h5 _
                rcases iteB_some hm with ⟨hb, hm⟩ | ⟨hb, hm⟩
                · replace H := H.know 55 hb (by kernel_rfl)
                  refine aw_true (x := .tmp 55) (by kernel_rfl) H (fun fr => by kernel_rfl) ?_
                  refine aw_seq (by kernel_rfl) ?_
                  refine aw_reg (id := 11) (n := 1) [(0, [])] (by kernel_rfl) (by kernel_rfl) ?_
                  refine at_seg [(0, [])] [(2, .bool false)] H (noU_all rfl) (fun fr => by kernel_rfl) ?_
                  intro fr H
                  refine at_nil ?_
                  show AW cfg 3 (⟨h.size, []⟩ : Gd) (right (left (right (left (left (right (left (right (right (left (left (right (right (left (left (right (left (right (right (right (right (bodyC cfg.P 3)))))))))))))))))))))) fr h5 _
                  refine aw_ret (by kernel_rfl) ?_
                  exact Or.inr (Or.inl ⟨false, rfl, Option.some.inj hm, rfl, H.less _ (fun fr => by kernel_rfl)⟩)
                · replace H := H.know 55 hb (by kernel_rfl)
                  refine aw_false (x := .tmp 55) (by kernel_rfl) H (fun fr => by kernel_rfl) ?_
                  refine aw_skip (by kernel_rfl) ?_
                  show AW cfg 3 (⟨h.size, []⟩ : Gd) (right (left (right (left (right (right (left (left (right (right (left (left (right (left (right (right (right (right (bodyC cfg.P 3))))))))))))))))))) fr h5 _
                  refine aw_exit (i := 1) (by kernel_rfl) ?_
                  exact Or.inl ⟨x6, rfl, Option.some.inj hm, rfl, H.less _ (fun fr => by kernel_rfl)⟩
          · replace H := H.know 42 hb (by kernel_rfl)
            refine aw_false (x := .tmp 42) (by kernel_rfl) H (fun fr => by kernel_rfl) ?_
            refine aw_skip (by kernel_rfl) ?_
            show AW cfg 3 (⟨h.size, []⟩ : Gd) (right (right (right (left (left (right (right (left (left (right (left (right (right (right (right (bodyC cfg.P 3)))))))))))))))) fr h5 _
            refine aw_seq (by kernel_rfl) ?_
            refine aw_seq (by kernel_rfl) ?_
            refine aw_draw (id := 12) (n := 30) (by kernel_rfl) [(0, []), (1, []), (2, []), (3, []), (4, []), (5, []), (6, []), (7, []), (8, []), (9, []), (10, []), (11, []), (12, []), (13, []), (14, []), (15, []), (16, []), (17, []), (18, []), (19, []), (20, []), (21, []), (22, []), (23, []), (24, []), (25, []), (26, []), (27, []), (28, []), (29, [])] (by kernel_rfl) ?_
            refine at_seg [(0, []), (1, []), (2, []), (3, [])] [(3, .ptr (some (h.size, 0))), (4, .int .i64 x6), (6, .ptr (some (h2.size, 0))), (8, .int .i64 x13), (13, .slice p0.r p0.n), (14, .int .i64 ((p0.n : Nat) : Int)), (15, .int .i64 x7), (59, .bool (x12 != x6))] H (noU_all rfl) (fun fr => by kernel_rfl) ?_
            intro fr H
            refine at_cut [(4, []), (5, []), (6, [])] (fun fr' h' => h5 = h' ∧ Has fr' 97 [(3, .ptr (some (h.size, 0))), (4, .int .i64 x6), (6, .ptr (some (h2.size, 0))), (13, .slice p0.r p0.n), (14, .int .i64 ((p0.n : Nat) : Int)), (15, .int .i64 x7), (62, .bool ((x12 != x6) || (x13 != (0 : Int))))]) ?_ ?_
            · cases hb : (x12 != x6 : Bool) with
              | true =>
                replace H := H.know 59 hb (by kernel_rfl)
                refine at_seg [(4, []), (5, []), (6, [])] [(3, .ptr (some (h.size, 0))), (4, .int .i64 x6), (6, .ptr (some (h2.size, 0))), (13, .slice p0.r p0.n), (14, .int .i64 ((p0.n : Nat) : Int)), (15, .int .i64 x7), (62, .bool true)] H (noU_all rfl) (fun fr => by kernel_rfl) ?_
                intro fr H
                exact at_nil ⟨rfl, by first | exact H.less _ (fun fr => by rfl) | exact H.less _ (fun fr => by rw [hb]; rfl)⟩
              | false =>
                replace H := H.know 59 hb (by kernel_rfl)
                refine at_seg [(4, []), (5, []), (6, [])] [(3, .ptr (some (h.size, 0))), (4, .int .i64 x6), (6, .ptr (some (h2.size, 0))), (13, .slice p0.r p0.n), (14, .int .i64 ((p0.n : Nat) : Int)), (15, .int .i64 x7), (62, .bool (x13 != (0 : Int)))] H (noU_all rfl) (fun fr => by kernel_rfl) ?_
                intro fr H
                exact at_nil ⟨rfl, by first | exact H.less _ (fun fr => by rfl) | exact H.less _ (fun fr => by rw [hb]; rfl)⟩
            · intro t fr h' hK
              obtain ⟨e, H⟩ := hK
              subst e
              refine at_seg [(7, [])] [(3, .ptr (some (h.size, 0))), (4, .int .i64 x6), (6, .ptr (some (h2.size, 0))), (13, .slice p0.r p0.n), (14, .int .i64 ((p0.n : Nat) : Int)), (15, .int .i64 x7), (63, .bool ((x12 != x6) || (x13 != (0 : Int))))] H (noU_all rfl) (fun fr => by kernel_rfl) ?_
              intro fr H
              obtain ⟨x25, ho, hm⟩ := bind_some hm
              refine at_cut [(8, []), (9, []), (10, []), (11, []), (12, [])] (fun fr' h' => h5 = h' ∧ Has fr' 97 [(3, .ptr (some (h.size, 0))), (4, .int .i64 x6), (6, .ptr (some (h2.size, 0))), (13, .slice p0.r p0.n), (14, .int .i64 ((p0.n : Nat) : Int)), (15, .int .i64 x7), (68, .bool x25)]) ?_ ?_
              · rcases iteB_some ho with ⟨hb, hm⟩ | ⟨hb, hm⟩
                · replace H := H.know 63 hb (by kernel_rfl)
                  refine at_seg [(8, []), (9, []), (10, []), (11, []), (12, [])] [(3, .ptr (some (h.size, 0))), (4, .int .i64 x6), (6, .ptr (some (h2.size, 0))), (13, .slice p0.r p0.n), (14, .int .i64 ((p0.n : Nat) : Int)), (15, .int .i64 x7), (68, .bool true)] H (noU_all rfl) (fun fr => by kernel_rfl) ?_
                  intro fr H
                  have e1 := Option.some.inj hm
                  subst e1
                  exact at_nil ⟨rfl, H.less _ (fun fr => by kernel_rfl)⟩
                · replace H := H.know 63 hb (by kernel_rfl)
                  refine at_seg [(8, [])] [(3, .ptr (some (h.size, 0))), (4, .int .i64 x6), (6, .ptr (some (h2.size, 0))), (13, .slice p0.r p0.n), (14, .int .i64 ((p0.n : Nat) : Int)), (15, .int .i64 x7), (63, .bool false), (64, .ptr (some (h.size, 1)))] H (noU_all rfl) (fun fr => by kernel_rfl) ?_
                  intro fr H
                  obtain ⟨x26, hx, hm⟩ := bind_some hm
                  refine at_step (v := .int .i64 x26) (h1 := h5) [(3, .ptr (some (h.size, 0))), (4, .int .i64 x6), (6, .ptr (some (h2.size, 0))), (13, .slice p0.r p0.n), (14, .int .i64 ((p0.n : Nat) : Int)), (15, .int .i64 x7), (63, .bool false), (65, .int .i64 x26)] H (fun fr => by kernel_rfl) (fun fr => .of (s_ld (by kernel_rfl) (ldI_eq hx))) ?_
                  intro fr t H
                  refine at_seg [(10, []), (11, []), (12, [])] [(3, .ptr (some (h.size, 0))), (4, .int .i64 x6), (6, .ptr (some (h2.size, 0))), (13, .slice p0.r p0.n), (14, .int .i64 ((p0.n : Nat) : Int)), (15, .int .i64 x7), (68, .bool (x26 != x6))] H (noU_all rfl) (fun fr => by kernel_rfl) ?_
                  intro fr H
                  have e1 := Option.some.inj hm
                  subst e1
                  exact at_nil ⟨rfl, H.less _ (fun fr => by kernel_rfl)⟩
              · intro t fr h' hK
                obtain ⟨e, H⟩ := hK
                subst e
                refine at_seg [(13, [])] [(3, .ptr (some (h.size, 0))), (4, .int .i64 x6), (6, .ptr (some (h2.size, 0))), (13, .slice p0.r p0.n), (14, .int .i64 ((p0.n : Nat) : Int)), (15, .int .i64 x7), (69, .bool x25)] H (noU_all rfl) (fun fr => by kernel_rfl) ?_
                intro fr H
                obtain ⟨x27, ho, hm⟩ := bind_some hm
                refine at_cut [(14, []), (15, []), (16, []), (17, []), (18, []), (19, []), (20, [])] (fun fr' h' => h5 = h' ∧ Has fr' 97 [(3, .ptr (some (h.size, 0))), (4, .int .i64 x6), (6, .ptr (some (h2.size, 0))), (13, .slice p0.r p0.n), (14, .int .i64 ((p0.n : Nat) : Int)), (15, .int .i64 x7), (76, .bool x27)]) ?_ ?_
                · rcases iteB_some ho with ⟨hb, hm⟩ | ⟨hb, hm⟩
                  · replace H := H.know 69 hb (by kernel_rfl)
                    refine at_seg [(14, []), (15, []), (16, []), (17, []), (18, []), (19, []), (20, [])] [(3, .ptr (some (h.size, 0))), (4, .int .i64 x6), (6, .ptr (some (h2.size, 0))), (13, .slice p0.r p0.n), (14, .int .i64 ((p0.n : Nat) : Int)), (15, .int .i64 x7), (76, .bool true)] H (noU_all rfl) (fun fr => by kernel_rfl) ?_
                    intro fr H
                    have e1 := Option.some.inj hm
                    subst e1
                    exact at_nil ⟨rfl, H.less _ (fun fr => by kernel_rfl)⟩
                  · replace H := H.know 69 hb (by kernel_rfl)
                    refine at_seg [(14, [])] [(3, .ptr (some (h.size, 0))), (4, .int .i64 x6), (6, .ptr (some (h2.size, 0))), (13, .slice p0.r p0.n), (14, .int .i64 ((p0.n : Nat) : Int)), (15, .int .i64 x7), (69, .bool false), (70, .ptr (some (h.size, 0)))] H (noU_all rfl) (fun fr => by kernel_rfl) ?_
                    intro fr H
                    obtain ⟨x28, hx, hm⟩ := bind_some hm
                    refine at_step (v := .slice x28.r x28.n) (h1 := h5) [(3, .ptr (some (h.size, 0))), (4, .int .i64 x6), (6, .ptr (some (h2.size, 0))), (13, .slice p0.r p0.n), (14, .int .i64 ((p0.n : Nat) : Int)), (15, .int .i64 x7), (69, .bool false), (71, .slice x28.r x28.n)] H (fun fr => by kernel_rfl) (fun fr => .of (s_ld (by kernel_rfl) (ldL_eq hx))) ?_
                    intro fr t H
                    refine at_seg [(16, []), (17, []), (18, []), (19, []), (20, [])] [(3, .ptr (some (h.size, 0))), (4, .int .i64 x6), (6, .ptr (some (h2.size, 0))), (13, .slice p0.r p0.n), (14, .int .i64 ((p0.n : Nat) : Int)), (15, .int .i64 x7), (76, .bool (((x28.n : Nat) : Int) != (IntKind.i64.wrap (x6 + (1 : Int)))))] H (noU_all rfl) (fun fr => by kernel_rfl) ?_
                    intro fr H
                    have e1 := Option.some.inj hm
                    subst e1
                    exact at_nil ⟨rfl, H.less _ (fun fr => by kernel_rfl)⟩
                · intro t fr h' hK
                  obtain ⟨e, H⟩ := hK
                  subst e
                  refine at_seg [(21, [])] [(3, .ptr (some (h.size, 0))), (4, .int .i64 x6), (6, .ptr (some (h2.size, 0))), (13, .slice p0.r p0.n), (14, .int .i64 ((p0.n : Nat) : Int)), (15, .int .i64 x7), (77, .bool x27)] H (noU_all rfl) (fun fr => by kernel_rfl) ?_
                  intro fr H
                  obtain ⟨x29, ho, hm⟩ := bind_some hm
                  refine at_cut [(22, []), (23, []), (24, []), (25, []), (26, []), (27, []), (28, []), (29, [])] (fun fr' h' => h5 = h' ∧ Has fr' 97 [(3, .ptr (some (h.size, 0))), (4, .int .i64 x6), (13, .slice p0.r p0.n), (14, .int .i64 ((p0.n : Nat) : Int)), (15, .int .i64 x7), (85, .bool x29)]) ?_ ?_
                  · rcases iteB_some ho with ⟨hb, hm⟩ | ⟨hb, hm⟩
                    · replace H := H.know 77 hb (by kernel_rfl)
                      refine at_seg [(22, []), (23, []), (24, []), (25, []), (26, []), (27, []), (28, []), (29, [])] [(3, .ptr (some (h.size, 0))), (4, .int .i64 x6), (13, .slice p0.r p0.n), (14, .int .i64 ((p0.n : Nat) : Int)), (15, .int .i64 x7), (85, .bool true)] H (noU_all rfl) (fun fr => by kernel_rfl) ?_
                      intro fr H
                      have e1 := Option.some.inj hm
                      subst e1
                      exact at_nil ⟨rfl, H.less _ (fun fr => by kernel_rfl)⟩
                    · replace H := H.know 77 hb (by kernel_rfl)
                      refine at_seg [(22, [])] [(3, .ptr (some (h.size, 0))), (4, .int .i64 x6), (6, .ptr (some (h2.size, 0))), (13, .slice p0.r p0.n), (14, .int .i64 ((p0.n : Nat) : Int)), (15, .int .i64 x7), (77, .bool false), (78, .ptr (some (h.size, 0)))] H (noU_all rfl) (fun fr => by kernel_rfl) ?_
                      intro fr H
                      obtain ⟨x30, hx, hm⟩ := bind_some hm
                      refine at_step (v := .slice x30.r x30.n) (h1 := h5) [(3, .ptr (some (h.size, 0))), (4, .int .i64 x6), (6, .ptr (some (h2.size, 0))), (13, .slice p0.r p0.n), (14, .int .i64 ((p0.n : Nat) : Int)), (15, .int .i64 x7), (77, .bool false), (79, .slice x30.r x30.n)] H (fun fr => by kernel_rfl) (fun fr => .of (s_ld (by kernel_rfl) (ldL_eq hx))) ?_
                      intro fr t H
                      refine at_seg [(24, [])] [(3, .ptr (some (h.size, 0))), (4, .int .i64 x6), (6, .ptr (some (h2.size, 0))), (13, .slice p0.r p0.n), (14, .int .i64 ((p0.n : Nat) : Int)), (15, .int .i64 x7), (77, .bool false), (79, .slice x30.r x30.n), (80, .int .i64 x6)] H (noU_all rfl) (fun fr => by kernel_rfl) ?_
                      intro fr H
                      obtain ⟨a2, hx, hm⟩ := bind_some hm
                      refine at_step (v := .ptr (some a2)) (h1 := h5) [(3, .ptr (some (h.size, 0))), (4, .int .i64 x6), (6, .ptr (some (h2.size, 0))), (13, .slice p0.r p0.n), (14, .int .i64 ((p0.n : Nat) : Int)), (15, .int .i64 x7), (77, .bool false), (81, .ptr (some (a2.1, a2.2)))] H (fun fr => by kernel_rfl) (fun fr => .of (s_ixL (s := x30) (by kernel_rfl) hx)) ?_
                      intro fr t H
                      obtain ⟨x31, hx, hm⟩ := bind_some hm
                      refine at_step (v := .agg x31) (h1 := h5) [(3, .ptr (some (h.size, 0))), (4, .int .i64 x6), (6, .ptr (some (h2.size, 0))), (13, .slice p0.r p0.n), (14, .int .i64 ((p0.n : Nat) : Int)), (15, .int .i64 x7), (77, .bool false), (82, .agg x31)] H (fun fr => by kernel_rfl) (fun fr => .of (s_ldA (by kernel_rfl) hx)) ?_
                      intro fr t H
                      obtain ⟨x32, hx, hm⟩ := bind_some hm
                      refine at_step (v := .agg x32) (h1 := h5) [(3, .ptr (some (h.size, 0))), (4, .int .i64 x6), (13, .slice p0.r p0.n), (14, .int .i64 ((p0.n : Nat) : Int)), (15, .int .i64 x7), (77, .bool false), (82, .agg x31), (83, .agg x32)] H (fun fr => by kernel_rfl) (fun fr => .of (s_ldA (by kernel_rfl) hx)) ?_
                      intro fr t H
                      obtain ⟨x33, hx, hm⟩ := bind_some hm
                      refine at_step (v := .bool (!x33)) (h1 := h5) [(3, .ptr (some (h.size, 0))), (4, .int .i64 x6), (13, .slice p0.r p0.n), (14, .int .i64 ((p0.n : Nat) : Int)), (15, .int .i64 x7), (77, .bool false), (84, .bool (!x33))] H (fun fr => by kernel_rfl) (fun fr => .of (s_neG (by kernel_rfl) hx)) ?_
                      intro fr t H
                      refine at_seg [(29, [])] [(3, .ptr (some (h.size, 0))), (4, .int .i64 x6), (13, .slice p0.r p0.n), (14, .int .i64 ((p0.n : Nat) : Int)), (15, .int .i64 x7), (85, .bool (!x33))] H (noU_all rfl) (fun fr => by kernel_rfl) ?_
                      intro fr H
                      have e1 := Option.some.inj hm
                      subst e1
                      exact at_nil ⟨rfl, H.less _ (fun fr => by kernel_rfl)⟩
                  · intro t fr h' hK
                    obtain ⟨e, H⟩ := hK
                    subst e
                    refine at_nil ?_
                    show AW cfg 3 (⟨h.size, []⟩ : Gd) (right (left (right (right (right (left (left (right (right (left (left (right (left (right (right (right (right (bodyC cfg.P 3)))))))))))))))))) fr h5 _
                    rcases iteB_some hm with ⟨hb, hm⟩ | ⟨hb, hm⟩
                    · replace H := H.know 85 hb (by kernel_rfl)
                      refine aw_true (x := .tmp 85) (by kernel_rfl) H (fun fr => by kernel_rfl) ?_
                      refine aw_seq (by kernel_rfl) ?_
                      refine aw_reg (id := 13) (n := 1) [(0, [])] (by kernel_rfl) (by kernel_rfl) ?_
                      refine at_seg [(0, [])] [(2, .bool false)] H (noU_all rfl) (fun fr => by kernel_rfl) ?_
                      intro fr H
                      refine at_nil ?_
                      show AW cfg 3 (⟨h.size, []⟩ : Gd) (right (left (right (left (right (right (right (left (left (right (right (left (left (right (left (right (right (right (right (bodyC cfg.P 3)))))))))))))))))))) fr h5 _
                      refine aw_ret (by kernel_rfl) ?_
                      exact Or.inr (Or.inl ⟨false, rfl, Option.some.inj hm, rfl, H.less _ (fun fr => by kernel_rfl)⟩)
                    · replace H := H.know 85 hb (by kernel_rfl)
                      refine aw_false (x := .tmp 85) (by kernel_rfl) H (fun fr => by kernel_rfl) ?_
                      refine aw_skip (by kernel_rfl) ?_
                      show AW cfg 3 (⟨h.size, []⟩ : Gd) (right (right (right (right (left (left (right (right (left (left (right (left (right (right (right (right (bodyC cfg.P 3))))))))))))))))) fr h5 _
                      refine aw_reg (id := 14) (n := 3) [(0, []), (1, []), (2, [])] (by kernel_rfl) (by kernel_rfl) ?_
                      refine at_seg [(0, []), (1, []), (2, [])] [(3, .ptr (some (h.size, 0))), (4, .int .i64 (IntKind.i64.wrap (x6 + (1 : Int)))), (13, .slice p0.r p0.n), (14, .int .i64 ((p0.n : Nat) : Int)), (15, .int .i64 x7)] H (noU_all rfl) (fun fr => by kernel_rfl) ?_
                      intro fr H
                      refine at_nil ?_
                      exact Or.inl ⟨IntKind.i64.wrap (x6 + (1 : Int)), rfl, Option.some.inj hm, rfl, H.less _ (fun fr => by kernel_rfl)⟩
        · clear ho
          intro e fr h6 hQ
          rcases hQ with ⟨x8, rfl, rfl, _, H⟩ | ⟨x9, rfl, rfl, _, H⟩ | hF
          · skip
            show AW cfg 3 (⟨h.size, []⟩ : Gd) (right (right (right (left (left (right (left (right (right (right (right (bodyC cfg.P 3)))))))))))) fr h6 _
            refine aw_reg (id := 15) (n := 2) [(0, []), (1, [])] (by kernel_rfl) (by kernel_rfl) ?_
            refine at_seg [(0, []), (1, [])] [(3, .ptr (some (h.size, 0))), (4, .int .i64 x8), (13, .slice p0.r p0.n), (14, .int .i64 ((p0.n : Nat) : Int)), (15, .int .i64 (IntKind.i64.wrap (x7 + (1 : Int))))] H (noU_all rfl) (fun fr => by kernel_rfl) ?_
            intro fr H
            refine at_nil ?_
            exact Exists.intro (x8, IntKind.i64.wrap (x7 + (1 : Int)), h6) (And.intro (Option.some.inj hm).symm ⟨x8, IntKind.i64.wrap (x7 + (1 : Int)), rfl, rfl, H.less _ (fun fr => by kernel_rfl)⟩)
          · skip
            exact Exists.intro _ (And.intro (Option.some.inj hm).symm (fun e => Or.inr (Or.inl ⟨x9, rfl, e, rfl, H.less _ (fun fr => by kernel_rfl)⟩)))
          · exact hF.elim
      · replace H := H.know 16 hb (by kernel_rfl)
        refine aw_false (x := .tmp 16) (by kernel_rfl) H (fun fr => by kernel_rfl) ?_
        refine aw_exit (i := 0) (by kernel_rfl) ?_
        exact Exists.intro _ (And.intro (Option.some.inj hm).symm (fun e => Or.inl ⟨x6, rfl, e, rfl, H.less _ (fun fr => by kernel_rfl)⟩))
    · clear ho
      intro e fr h7 hQ
      rcases hQ with ⟨x4, rfl, rfl, _, H⟩ | ⟨x5, rfl, rfl, _, H⟩ | hF
      · skip
        show AW cfg 3 (⟨h.size, []⟩ : Gd) (right (right (right (right (right (bodyC cfg.P 3)))))) fr h7 _
        refine aw_seq (by kernel_rfl) ?_
        refine aw_reg (id := 16) (n := 9) [(0, []), (1, []), (2, []), (3, []), (4, []), (5, []), (6, []), (7, []), (8, [])] (by kernel_rfl) (by kernel_rfl) ?_
        obtain ⟨x34, hx, hm⟩ := bind_some hm
        refine at_step (v := .agg x34) (h1 := h7) [(4, .int .i64 x4), (89, .agg x34)] H (fun fr => by kernel_rfl) (fun fr => .of (s_ldA (by kernel_rfl) hx)) ?_
        intro fr t H
        obtain ⟨x35, hx, hm⟩ := bind_some hm
        refine at_step (v := .bool x35) (h1 := h7) [(4, .int .i64 x4), (90, .bool x35)] H (fun fr => by kernel_rfl) (fun fr => Steps.call (by kernel_rfl) (ok_tree_Tree_Right hx)) ?_
        intro fr t H
        refine at_seg [(2, []), (3, []), (4, []), (5, [])] [(94, .bool (x35 == (decide (x4 > (0 : Int)))))] H (noU_all rfl) (fun fr => by kernel_rfl) ?_
        intro fr H
        obtain ⟨x36, ho, hm⟩ := bind_some hm
        refine at_cut [(6, []), (7, [])] (fun fr' h' => h7 = h' ∧ Has fr' 97 [(96, .bool x36)]) ?_ ?_
        · rcases iteB_some ho with ⟨hb, hm⟩ | ⟨hb, hm⟩
          · replace H := H.know 94 hb (by kernel_rfl)
            obtain ⟨x37, hx, hm⟩ := bind_some hm
            refine at_step (v := .bool x37) (h1 := h7) [(94, .bool true), (95, .bool x37)] H (fun fr => by kernel_rfl) (fun fr => Steps.call (by kernel_rfl) (ok_boulterlaw18_awake hx)) ?_
            intro fr t H
            refine at_seg [(7, [])] [(96, .bool x37)] H (noU_all rfl) (fun fr => by kernel_rfl) ?_
            intro fr H
            have e1 := Option.some.inj hm
            subst e1
            exact at_nil ⟨rfl, H.less _ (fun fr => by kernel_rfl)⟩
          · replace H := H.know 94 hb (by kernel_rfl)
            refine at_seg [(6, []), (7, [])] [(96, .bool false)] H (noU_all rfl) (fun fr => by kernel_rfl) ?_
            intro fr H
            have e1 := Option.some.inj hm
            subst e1
            exact at_nil ⟨rfl, H.less _ (fun fr => by kernel_rfl)⟩
        · intro t fr h' hK
          obtain ⟨e, H⟩ := hK
          subst e
          refine at_seg [(8, [])] [(2, .bool x36)] H (noU_all rfl) (fun fr => by kernel_rfl) ?_
          intro fr H
          refine at_nil ?_
          show AW cfg 3 (⟨h.size, []⟩ : Gd) (right (right (right (right (right (right (bodyC cfg.P 3))))))) fr h7 _
          refine aw_ret (by kernel_rfl) ?_
          have e1 := Option.some.inj hm
          subst e1
          exact (doneE_of .ret H (fun fr => by kernel_rfl) (.inl rfl) : doneE cfg.P _ _ _ fr _)
      · skip
        have e1 := Option.some.inj hm
        subst e1
        exact (doneE_of .ret H (fun fr => by kernel_rfl) (.inl rfl) : doneE cfg.P _ _ _ fr _)
      · exact hF.elim
/-! ### boulter/boulterlaw18.Plain -/
noncomputable def M_boulterlaw18_Plain_L0 (g : Gd) (h2 : AHeap) (x2 : Sl) (s : Int × AHeap) : Option ((Int × AHeap) ⊕ ((AHeap))) :=
  match s with
  | (x4, h5) => iteB (decide (x4 < ((x2.n : Nat) : Int))) ((ixL x2 10 x4).bind fun a1 => (ldA h5 (a1.1, a1.2) 10).bind fun x5 => (some (h5.push (.cells none 2 [.int .i64 (0 : Int), .int .i64 (0 : Int), .int .i64 (0 : Int), .int .i64 (0 : Int), .int .i64 (0 : Int), .int .i64 (0 : Int), .int .u64 (0 : Int), .int .u64 (0 : Int), .int .u64 (0 : Int), .int .u64 (0 : Int)]))).bind fun h6 => (stG 10 g h6 (h5.size, 0) x5).bind fun h7 => (ldL h7 (h2.size, 0)).bind fun x6 => (ldI h7 (h5.size, 0) .i64).bind fun x7 => (ldI h7 (h5.size, 1) .i64).bind fun x8 => (ldI h7 (h5.size, 2) .i64).bind fun x9 => (ldI h7 (h5.size, 3) .i64).bind fun x10 => (ldI h7 (h5.size, 4) .i64).bind fun x11 => (ldI h7 (h5.size, 5) .i64).bind fun x12 => (ldA h7 (h5.size, 6) 4).bind fun x13 => (M_class_Set_Bytes h7 x13).bind fun x14 => (some (h7.push (.cells (some 37) 2 [.int .i64 x7, .int .i64 x8, .int .i64 x9, .int .i64 x10, .int .i64 x11, .int .i64 x12, .str x14]))).bind fun h8 => (app 37 7 64 g h8 x6 1 (.slice (some (h7.size, 0)) 1)).bind fun (x15, h9) => (st g h9 (h2.size, 0) [.slice x15.r x15.n]).bind fun h10 => some (.inl (IntKind.i64.wrap (x4 + (1 : Int)), h10))) (some (.inr h5))
noncomputable def M_boulterlaw18_Plain (g : Gd) (h : AHeap) (p0 : List AVal) : Option (((List AVal)) × AHeap) :=
 need (p0.all AVal.one) <| (some (h.push (.cells none 2 p0))).bind fun h1 => (some (h1.push (.cells none 2 [.slice none 0, .int .i64 (0 : Int)]))).bind fun h2 => (ldI h2 (h.size, 1) .i64).bind fun x1 => (some (h2.push (.cells none 2 [.slice none 0, .int .i64 (0 : Int)]))).bind fun h3 => (stG 2 g h3 (h2.size, 0) [.slice none 0, .int .i64 x1]).bind fun h4 => (ldL h4 (h.size, 0)).bind fun x2 => (loop (M_boulterlaw18_Plain_L0 g h2 x2) ((0 : Int), h4)).bind fun h11 => (ldA h11 (h2.size, 0) 2).bind fun x16 => (stG 2 g h11 (h1.size, 0) x16).bind fun h12 => (ldA h12 (h1.size, 0) 2).bind fun x17 => some (x17, h12)
theorem ok_boulterlaw18_Plain {g : Gd} {h h' : AHeap} {p0 : List AVal} {r0 : List AVal} (hm : M_boulterlaw18_Plain g h p0 = some (r0, h')) : Runs cfg g h 13 [.agg p0] (.agg r0) h' := by
  refine runs1 (by kernel_rfl) (body_of (n := 39) (rs := [.cell 2 42]) (by kernel_rfl) ?_)
  unfold M_boulterlaw18_Plain at hm
  refine start (n := 39) [(0, .agg p0)] (by kernel_rfl) (by kernel_rfl) ?_
  intro fr H
  refine aw_seq (by kernel_rfl) ?_
  refine aw_reg (id := 0) (n := 2) [(0, []), (1, [])] (by kernel_rfl) (by kernel_rfl) ?_
  obtain ⟨hb, hm⟩ := need_some hm
  obtain ⟨h1, hx, hm⟩ := bind_some hm
  refine at_step (v := .ptr (some (h.size, 0))) (h1 := h1) [(1, .ptr (some (h.size, 0)))] H (fun fr => by kernel_rfl) (fun fr => .of (s_boxG (by kernel_rfl) hb hx)) ?_
  intro fr t H
  obtain ⟨h2, hx, hm⟩ := bind_some hm
  refine at_step (v := .ptr (some (h1.size, 0))) (h1 := h2) [(1, .ptr (some (h.size, 0))), (2, .ptr (some (h1.size, 0)))] H (fun fr => by kernel_rfl) (fun fr => .of (s_n' (by kernel_rfl) hx)) ?_
  intro fr t H
  refine at_nil ?_
  show AW cfg 13 g (right (bodyC cfg.P 13)) fr h2 _
  refine aw_seq (by kernel_rfl) ?_
  refine aw_reg (id := 1) (n := 5) [(0, []), (1, []), (2, []), (3, []), (4, [])] (by kernel_rfl) (by kernel_rfl) ?_
  refine at_seg [(0, [])] [(1, .ptr (some (h.size, 0))), (2, .ptr (some (h1.size, 0))), (6, .ptr (some (h.size, 1)))] H (noU_all rfl) (fun fr => by kernel_rfl) ?_
  intro fr H
  obtain ⟨x1, hx, hm⟩ := bind_some hm
  refine at_step (v := .int .i64 x1) (h1 := h2) [(1, .ptr (some (h.size, 0))), (2, .ptr (some (h1.size, 0))), (7, .int .i64 x1)] H (fun fr => by kernel_rfl) (fun fr => .of (s_ld (by kernel_rfl) (ldI_eq hx))) ?_
  intro fr t H
  refine at_seg [(2, [])] [(1, .ptr (some (h.size, 0))), (2, .ptr (some (h1.size, 0))), (8, .agg [.slice none 0, .int .i64 x1])] H (noU_all rfl) (fun fr => by kernel_rfl) ?_
  intro fr H
  obtain ⟨h3, hx, hm⟩ := bind_some hm
  refine at_step (v := .ptr (some (h2.size, 0))) (h1 := h3) [(1, .ptr (some (h.size, 0))), (2, .ptr (some (h1.size, 0))), (3, .ptr (some (h2.size, 0))), (8, .agg [.slice none 0, .int .i64 x1])] H (fun fr => by kernel_rfl) (fun fr => .of (s_n' (by kernel_rfl) hx)) ?_
  intro fr t H
  obtain ⟨h4, hx, hm⟩ := bind_some hm
  refine at_step (v := .tuple []) (h1 := h4) [(1, .ptr (some (h.size, 0))), (2, .ptr (some (h1.size, 0))), (3, .ptr (some (h2.size, 0)))] H (fun fr => by kernel_rfl) (fun fr => .of (s_stG (by kernel_rfl) hx)) ?_
  intro fr t H
  refine at_nil ?_
  show AW cfg 13 g (right (right (bodyC cfg.P 13))) fr h4 _
  refine aw_seq (by kernel_rfl) ?_
  refine aw_seq (by kernel_rfl) ?_
  refine aw_reg (id := 2) (n := 4) [(0, []), (1, []), (2, []), (3, [])] (by kernel_rfl) (by kernel_rfl) ?_
  refine at_seg [(0, [])] [(2, .ptr (some (h1.size, 0))), (3, .ptr (some (h2.size, 0))), (9, .ptr (some (h.size, 0)))] H (noU_all rfl) (fun fr => by kernel_rfl) ?_
  intro fr H
  obtain ⟨x2, hx, hm⟩ := bind_some hm
  refine at_step (v := .slice x2.r x2.n) (h1 := h4) [(2, .ptr (some (h1.size, 0))), (3, .ptr (some (h2.size, 0))), (10, .slice x2.r x2.n)] H (fun fr => by kernel_rfl) (fun fr => .of (s_ld (by kernel_rfl) (ldL_eq hx))) ?_
  intro fr t H
  refine at_seg [(2, []), (3, [])] [(2, .ptr (some (h1.size, 0))), (3, .ptr (some (h2.size, 0))), (10, .slice x2.r x2.n), (11, .int .i64 ((x2.n : Nat) : Int)), (12, .int .i64 (0 : Int))] H (noU_all rfl) (fun fr => by kernel_rfl) ?_
  intro fr H
  refine at_nil ?_
  show AW cfg 13 g (right (left (right (right (bodyC cfg.P 13))))) fr h4 _
  refine aw_block (id := 0) (by kernel_rfl) ?_
  obtain ⟨o1, ho, hm⟩ := bind_some hm
  refine aw_mono (Q' := fun e fr' h' => (e = .exit 0 ∧ h' = o1 ∧ h' = h' ∧ Has fr' 39 [(2, .ptr (some (h1.size, 0))), (3, .ptr (some (h2.size, 0)))]) ∨ False) ?_ ?_
  · refine aw_loop (by kernel_rfl) (fun (s : Int × AHeap) fr' h' => ∃ (x4 : Int), (x4, h') = s ∧ h' = h' ∧ Has fr' 39 [(2, .ptr (some (h1.size, 0))), (3, .ptr (some (h2.size, 0))), (10, .slice x2.r x2.n), (11, .int .i64 ((x2.n : Nat) : Int)), (12, .int .i64 x4)]) ho ⟨(0 : Int), rfl, rfl, H.less _ (fun fr => by kernel_rfl)⟩ ?_
    clear ho hm H
    intro s q fr h5 hI hm
    obtain ⟨x4, rfl, _, H⟩ := hI
    unfold M_boulterlaw18_Plain_L0 at hm
    refine aw_seq (by kernel_rfl) ?_
    refine aw_reg (id := 3) (n := 1) [(0, [])] (by kernel_rfl) (by kernel_rfl) ?_
    refine at_seg [(0, [])] [(2, .ptr (some (h1.size, 0))), (3, .ptr (some (h2.size, 0))), (10, .slice x2.r x2.n), (11, .int .i64 ((x2.n : Nat) : Int)), (12, .int .i64 x4), (13, .bool (decide (x4 < ((x2.n : Nat) : Int))))] H (noU_all rfl) (fun fr => by kernel_rfl) ?_
    intro fr H
    refine at_nil ?_
    show AW cfg 13 g (right (left (left (right (left (right (right (bodyC cfg.P 13)))))))) fr h5 _
    refine aw_seq (by kernel_rfl) ?_
    rcases iteB_some hm with ⟨hb, hm⟩ | ⟨hb, hm⟩
    · replace H := H.know 13 hb (by kernel_rfl)
      refine aw_true (x := .tmp 13) (by kernel_rfl) H (fun fr => by kernel_rfl) ?_
      refine aw_skip (by kernel_rfl) ?_
      show AW cfg 13 g (right (right (left (left (right (left (right (right (bodyC cfg.P 13))))))))) fr h5 _
      refine aw_seq (by kernel_rfl) ?_
      refine aw_block (id := 1) (by kernel_rfl) ?_
      refine aw_seq (by kernel_rfl) ?_
      refine aw_reg (id := 4) (n := 4) [(0, []), (1, []), (2, []), (3, [])] (by kernel_rfl) (by kernel_rfl) ?_
      obtain ⟨a1, hx, hm⟩ := bind_some hm
      refine at_step (v := .ptr (some a1)) (h1 := h5) [(2, .ptr (some (h1.size, 0))), (3, .ptr (some (h2.size, 0))), (10, .slice x2.r x2.n), (11, .int .i64 ((x2.n : Nat) : Int)), (12, .int .i64 x4), (14, .ptr (some (a1.1, a1.2)))] H (fun fr => by kernel_rfl) (fun fr => .of (s_ixL (s := x2) (by kernel_rfl) hx)) ?_
      intro fr t H
      obtain ⟨x5, hx, hm⟩ := bind_some hm
      refine at_step (v := .agg x5) (h1 := h5) [(2, .ptr (some (h1.size, 0))), (3, .ptr (some (h2.size, 0))), (10, .slice x2.r x2.n), (11, .int .i64 ((x2.n : Nat) : Int)), (12, .int .i64 x4), (15, .agg x5)] H (fun fr => by kernel_rfl) (fun fr => .of (s_ldA (by kernel_rfl) hx)) ?_
      intro fr t H
      obtain ⟨h6, hx, hm⟩ := bind_some hm
      refine at_step (v := .ptr (some (h5.size, 0))) (h1 := h6) [(2, .ptr (some (h1.size, 0))), (3, .ptr (some (h2.size, 0))), (5, .ptr (some (h5.size, 0))), (10, .slice x2.r x2.n), (11, .int .i64 ((x2.n : Nat) : Int)), (12, .int .i64 x4), (15, .agg x5)] H (fun fr => by kernel_rfl) (fun fr => .of (s_n' (by kernel_rfl) hx)) ?_
      intro fr t H
      obtain ⟨h7, hx, hm⟩ := bind_some hm
      refine at_step (v := .tuple []) (h1 := h7) [(2, .ptr (some (h1.size, 0))), (3, .ptr (some (h2.size, 0))), (5, .ptr (some (h5.size, 0))), (10, .slice x2.r x2.n), (11, .int .i64 ((x2.n : Nat) : Int)), (12, .int .i64 x4)] H (fun fr => by kernel_rfl) (fun fr => .of (s_stG (by kernel_rfl) hx)) ?_
      intro fr t H
      refine at_nil ?_
      show AW cfg 13 g (right (left (left (right (right (left (left (right (left (right (right (bodyC cfg.P 13)))))))))))) fr h7 _
      refine aw_draw (id := 5) (n := 22) (by kernel_rfl) [(0, []), (1, []), (2, []), (3, []), (4, []), (5, []), (6, []), (7, []), (8, []), (9, []), (10, []), (11, []), (12, []), (13, []), (14, []), (15, []), (16, [1, 3, 5, 7, 9, 11, 13]), (17, []), (18, []), (19, []), (20, []), (21, [])] (by kernel_rfl) ?_
      refine at_seg [(0, [])] [(2, .ptr (some (h1.size, 0))), (3, .ptr (some (h2.size, 0))), (5, .ptr (some (h5.size, 0))), (10, .slice x2.r x2.n), (11, .int .i64 ((x2.n : Nat) : Int)), (12, .int .i64 x4), (16, .ptr (some (h2.size, 0)))] H (noU_all rfl) (fun fr => by kernel_rfl) ?_
      intro fr H
      obtain ⟨x6, hx, hm⟩ := bind_some hm
      refine at_stepT (v := .slice x6.r x6.n) (h1 := h7) (tch' := [(1, h2.size)]) (g.prot) [(2, .ptr (some (h1.size, 0))), (3, .ptr (some (h2.size, 0))), (5, .ptr (some (h5.size, 0))), (10, .slice x2.r x2.n), (11, .int .i64 ((x2.n : Nat) : Int)), (12, .int .i64 x4), (17, .slice x6.r x6.n)] H (fun fr => by kernel_rfl) (by kernel_rfl) (fun fr => by kernel_rfl) (fun fr => .of (s_ld (by kernel_rfl) (ldL_eq hx))) ?_
      intro fr H
      refine at_seg [(2, [])] [(2, .ptr (some (h1.size, 0))), (3, .ptr (some (h2.size, 0))), (5, .ptr (some (h5.size, 0))), (10, .slice x2.r x2.n), (11, .int .i64 ((x2.n : Nat) : Int)), (12, .int .i64 x4), (17, .slice x6.r x6.n), (18, .ptr (some (h5.size, 0)))] H (noU_all rfl) (fun fr => by kernel_rfl) ?_
      intro fr H
      obtain ⟨x7, hx, hm⟩ := bind_some hm
      refine at_stepT (v := .int .i64 x7) (h1 := h7) (tch' := [(3, h5.size), (1, h2.size)]) (g.prot) [(2, .ptr (some (h1.size, 0))), (3, .ptr (some (h2.size, 0))), (5, .ptr (some (h5.size, 0))), (10, .slice x2.r x2.n), (11, .int .i64 ((x2.n : Nat) : Int)), (12, .int .i64 x4), (17, .slice x6.r x6.n), (19, .int .i64 x7)] H (fun fr => by kernel_rfl) (by kernel_rfl) (fun fr => by kernel_rfl) (fun fr => .of (s_ld (by kernel_rfl) (ldI_eq hx))) ?_
      intro fr H
      refine at_seg [(4, [])] [(2, .ptr (some (h1.size, 0))), (3, .ptr (some (h2.size, 0))), (5, .ptr (some (h5.size, 0))), (10, .slice x2.r x2.n), (11, .int .i64 ((x2.n : Nat) : Int)), (12, .int .i64 x4), (17, .slice x6.r x6.n), (19, .int .i64 x7), (20, .ptr (some (h5.size, 1)))] H (noU_all rfl) (fun fr => by kernel_rfl) ?_
      intro fr H
      obtain ⟨x8, hx, hm⟩ := bind_some hm
      refine at_stepT (v := .int .i64 x8) (h1 := h7) (tch' := [(5, h5.size), (3, h5.size), (1, h2.size)]) (g.prot) [(2, .ptr (some (h1.size, 0))), (3, .ptr (some (h2.size, 0))), (5, .ptr (some (h5.size, 0))), (10, .slice x2.r x2.n), (11, .int .i64 ((x2.n : Nat) : Int)), (12, .int .i64 x4), (17, .slice x6.r x6.n), (19, .int .i64 x7), (21, .int .i64 x8)] H (fun fr => by kernel_rfl) (by kernel_rfl) (fun fr => by kernel_rfl) (fun fr => .of (s_ld (by kernel_rfl) (ldI_eq hx))) ?_
      intro fr H
      refine at_seg [(6, [])] [(2, .ptr (some (h1.size, 0))), (3, .ptr (some (h2.size, 0))), (5, .ptr (some (h5.size, 0))), (10, .slice x2.r x2.n), (11, .int .i64 ((x2.n : Nat) : Int)), (12, .int .i64 x4), (17, .slice x6.r x6.n), (19, .int .i64 x7), (21, .int .i64 x8), (22, .ptr (some (h5.size, 2)))] H (noU_all rfl) (fun fr => by kernel_rfl) ?_
      intro fr H
      obtain ⟨x9, hx, hm⟩ := bind_some hm
      refine at_stepT (v := .int .i64 x9) (h1 := h7) (tch' := [(7, h5.size), (5, h5.size), (3, h5.size), (1, h2.size)]) (g.prot) [(2, .ptr (some (h1.size, 0))), (3, .ptr (some (h2.size, 0))), (5, .ptr (some (h5.size, 0))), (10, .slice x2.r x2.n), (11, .int .i64 ((x2.n : Nat) : Int)), (12, .int .i64 x4), (17, .slice x6.r x6.n), (19, .int .i64 x7), (21, .int .i64 x8), (23, .int .i64 x9)] H (fun fr => by kernel_rfl) (by kernel_rfl) (fun fr => by kernel_rfl) (fun fr => .of (s_ld (by kernel_rfl) (ldI_eq hx))) ?_
      intro fr H
      refine at_seg [(8, [])] [(2, .ptr (some (h1.size, 0))), (3, .ptr (some (h2.size, 0))), (5, .ptr (some (h5.size, 0))), (10, .slice x2.r x2.n), (11, .int .i64 ((x2.n : Nat) : Int)), (12, .int .i64 x4), (17, .slice x6.r x6.n), (19, .int .i64 x7), (21, .int .i64 x8), (23, .int .i64 x9), (24, .ptr (some (h5.size, 3)))] H (noU_all rfl) (fun fr => by kernel_rfl) ?_
      intro fr H
      obtain ⟨x10, hx, hm⟩ := bind_some hm
      refine at_stepT (v := .int .i64 x10) (h1 := h7) (tch' := [(9, h5.size), (7, h5.size), (5, h5.size), (3, h5.size), (1, h2.size)]) (g.prot) [(2, .ptr (some (h1.size, 0))), (3, .ptr (some (h2.size, 0))), (5, .ptr (some (h5.size, 0))), (10, .slice x2.r x2.n), (11, .int .i64 ((x2.n : Nat) : Int)), (12, .int .i64 x4), (17, .slice x6.r x6.n), (19, .int .i64 x7), (21, .int .i64 x8), (23, .int .i64 x9), (25, .int .i64 x10)] H (fun fr => by kernel_rfl) (by kernel_rfl) (fun fr => by kernel_rfl) (fun fr => .of (s_ld (by kernel_rfl) (ldI_eq hx))) ?_
      intro fr H
      refine at_seg [(10, [])] [(2, .ptr (some (h1.size, 0))), (3, .ptr (some (h2.size, 0))), (5, .ptr (some (h5.size, 0))), (10, .slice x2.r x2.n), (11, .int .i64 ((x2.n : Nat) : Int)), (12, .int .i64 x4), (17, .slice x6.r x6.n), (19, .int .i64 x7), (21, .int .i64 x8), (23, .int .i64 x9), (25, .int .i64 x10), (26, .ptr (some (h5.size, 4)))] H (noU_all rfl) (fun fr => by kernel_rfl) ?_
      intro fr H
      obtain ⟨x11, hx, hm⟩ := bind_some hm
      refine at_stepT (v := .int .i64 x11) (h1 := h7) (tch' := [(11, h5.size), (9, h5.size), (7, h5.size), (5, h5.size), (3, h5.size), (1, h2.size)]) (g.prot) [(2, .ptr (some (h1.size, 0))), (3, .ptr (some (h2.size, 0))), (5, .ptr (some (h5.size, 0))), (10, .slice x2.r x2.n), (11, .int .i64 ((x2.n : Nat) : Int)), (12, .int .i64 x4), (17, .slice x6.r x6.n), (19, .int .i64 x7), (21, .int .i64 x8), (23, .int .i64 x9), (25, .int .i64 x10), (27, .int .i64 x11)] H (fun fr => by kernel_rfl) (by kernel_rfl) (fun fr => by kernel_rfl) (fun fr => .of (s_ld (by kernel_rfl) (ldI_eq hx))) ?_
      intro fr H
      refine at_seg [(12, [])] [(2, .ptr (some (h1.size, 0))), (3, .ptr (some (h2.size, 0))), (5, .ptr (some (h5.size, 0))), (10, .slice x2.r x2.n), (11, .int .i64 ((x2.n : Nat) : Int)), (12, .int .i64 x4), (17, .slice x6.r x6.n), (19, .int .i64 x7), (21, .int .i64 x8), (23, .int .i64 x9), (25, .int .i64 x10), (27, .int .i64 x11), (28, .ptr (some (h5.size, 5)))] H (noU_all rfl) (fun fr => by kernel_rfl) ?_
      intro fr H
      obtain ⟨x12, hx, hm⟩ := bind_some hm
      refine at_stepT (v := .int .i64 x12) (h1 := h7) (tch' := [(13, h5.size), (11, h5.size), (9, h5.size), (7, h5.size), (5, h5.size), (3, h5.size), (1, h2.size)]) (g.prot) [(2, .ptr (some (h1.size, 0))), (3, .ptr (some (h2.size, 0))), (5, .ptr (some (h5.size, 0))), (10, .slice x2.r x2.n), (11, .int .i64 ((x2.n : Nat) : Int)), (12, .int .i64 x4), (17, .slice x6.r x6.n), (19, .int .i64 x7), (21, .int .i64 x8), (23, .int .i64 x9), (25, .int .i64 x10), (27, .int .i64 x11), (29, .int .i64 x12)] H (fun fr => by kernel_rfl) (by kernel_rfl) (fun fr => by kernel_rfl) (fun fr => .of (s_ld (by kernel_rfl) (ldI_eq hx))) ?_
      intro fr H
      refine at_seg [(14, [])] [(2, .ptr (some (h1.size, 0))), (3, .ptr (some (h2.size, 0))), (10, .slice x2.r x2.n), (11, .int .i64 ((x2.n : Nat) : Int)), (12, .int .i64 x4), (17, .slice x6.r x6.n), (19, .int .i64 x7), (21, .int .i64 x8), (23, .int .i64 x9), (25, .int .i64 x10), (27, .int .i64 x11), (29, .int .i64 x12), (30, .ptr (some (h5.size, 6)))] H (noU_all rfl) (fun fr => by kernel_rfl) ?_
      intro fr H
      obtain ⟨x13, hx, hm⟩ := bind_some hm
      refine at_stepT (v := .agg x13) (h1 := h7) (tch' := [(15, h5.size), (13, h5.size), (11, h5.size), (9, h5.size), (7, h5.size), (5, h5.size), (3, h5.size), (1, h2.size)]) (g.prot) [(2, .ptr (some (h1.size, 0))), (3, .ptr (some (h2.size, 0))), (10, .slice x2.r x2.n), (11, .int .i64 ((x2.n : Nat) : Int)), (12, .int .i64 x4), (17, .slice x6.r x6.n), (19, .int .i64 x7), (21, .int .i64 x8), (23, .int .i64 x9), (25, .int .i64 x10), (27, .int .i64 x11), (29, .int .i64 x12), (31, .agg x13)] H (fun fr => by kernel_rfl) (by kernel_rfl) (fun fr => by kernel_rfl) (fun fr => .of (s_ldA (by kernel_rfl) hx)) ?_
      intro fr H
      obtain ⟨x14, hx, hm⟩ := bind_some hm
      refine at_stepT (v := .str x14) (h1 := h7) (tch' := [(15, h5.size), (13, h5.size), (11, h5.size), (9, h5.size), (7, h5.size), (5, h5.size), (3, h5.size), (1, h2.size)]) (h5.size :: h5.size :: h5.size :: h5.size :: h5.size :: h5.size :: h2.size :: g.prot) [(2, .ptr (some (h1.size, 0))), (3, .ptr (some (h2.size, 0))), (10, .slice x2.r x2.n), (11, .int .i64 ((x2.n : Nat) : Int)), (12, .int .i64 x4), (17, .slice x6.r x6.n), (19, .int .i64 x7), (21, .int .i64 x8), (23, .int .i64 x9), (25, .int .i64 x10), (27, .int .i64 x11), (29, .int .i64 x12), (32, .str x14)] H (fun fr => by kernel_rfl) (by kernel_rfl) (fun fr => by kernel_rfl) (fun fr => Steps.call (by kernel_rfl) (ok_class_Set_Bytes hx)) ?_
      intro fr H
      refine at_seg [(17, [])] [(2, .ptr (some (h1.size, 0))), (3, .ptr (some (h2.size, 0))), (10, .slice x2.r x2.n), (11, .int .i64 ((x2.n : Nat) : Int)), (12, .int .i64 x4), (17, .slice x6.r x6.n), (33, .agg [.int .i64 x7, .int .i64 x8, .int .i64 x9, .int .i64 x10, .int .i64 x11, .int .i64 x12, .str x14])] H (noU_all rfl) (fun fr => by kernel_rfl) ?_
      intro fr H
      obtain ⟨h8, hx, hm⟩ := bind_some hm
      refine at_stepT (v := .slice (some (h7.size, 0)) 1) (h1 := h8) (tch' := [(18, h7.size), (15, h5.size), (13, h5.size), (11, h5.size), (9, h5.size), (7, h5.size), (5, h5.size), (3, h5.size), (1, h2.size)]) (g.prot) [(2, .ptr (some (h1.size, 0))), (3, .ptr (some (h2.size, 0))), (10, .slice x2.r x2.n), (11, .int .i64 ((x2.n : Nat) : Int)), (12, .int .i64 x4), (17, .slice x6.r x6.n), (34, .slice (some (h7.size, 0)) 1)] H (fun fr => by kernel_rfl) (by kernel_rfl) (fun fr => by kernel_rfl) (fun fr => .of (s_n' (by kernel_rfl) hx)) ?_
      intro fr H
      obtain ⟨⟨x15, h9⟩, hx, hm⟩ := bind_some hm
      refine at_stepT (v := .slice x15.r x15.n) (h1 := h9) (tch' := [(18, h7.size), (15, h5.size), (13, h5.size), (11, h5.size), (9, h5.size), (7, h5.size), (5, h5.size), (3, h5.size), (1, h2.size)]) (g.prot) [(2, .ptr (some (h1.size, 0))), (3, .ptr (some (h2.size, 0))), (10, .slice x2.r x2.n), (11, .int .i64 ((x2.n : Nat) : Int)), (12, .int .i64 x4), (35, .slice x15.r x15.n)] H (fun fr => by kernel_rfl) (by kernel_rfl) (fun fr => by kernel_rfl) (fun fr => .of (s_app (s := x6) (by kernel_rfl) hx)) ?_
      intro fr H
      refine at_seg [(20, [])] [(2, .ptr (some (h1.size, 0))), (3, .ptr (some (h2.size, 0))), (10, .slice x2.r x2.n), (11, .int .i64 ((x2.n : Nat) : Int)), (12, .int .i64 x4), (35, .slice x15.r x15.n), (36, .ptr (some (h2.size, 0)))] H (noU_all rfl) (fun fr => by kernel_rfl) ?_
      intro fr H
      obtain ⟨h10, hx, hm⟩ := bind_some hm
      refine at_stepT (v := .tuple []) (h1 := h10) (tch' := [(18, h7.size), (15, h5.size), (13, h5.size), (11, h5.size), (9, h5.size), (7, h5.size), (5, h5.size), (3, h5.size), (1, h2.size)]) (g.prot) [(2, .ptr (some (h1.size, 0))), (3, .ptr (some (h2.size, 0))), (10, .slice x2.r x2.n), (11, .int .i64 ((x2.n : Nat) : Int)), (12, .int .i64 x4)] H (fun fr => by kernel_rfl) (by kernel_rfl) (fun fr => by kernel_rfl) (fun fr => .of (s_st (by kernel_rfl) rfl hx)) ?_
      intro fr H
      refine at_nil ?_
      show AW cfg 13 g (right (right (right (left (left (right (left (right (right (bodyC cfg.P 13)))))))))) fr h10 _
      refine aw_reg (id := 6) (n := 2) [(0, []), (1, [])] (by kernel_rfl) (by kernel_rfl) ?_
      refine at_seg [(0, []), (1, [])] [(2, .ptr (some (h1.size, 0))), (3, .ptr (some (h2.size, 0))), (10, .slice x2.r x2.n), (11, .int .i64 ((x2.n : Nat) : Int)), (12, .int .i64 (IntKind.i64.wrap (x4 + (1 : Int))))] H (noU_all rfl) (fun fr => by kernel_rfl) ?_
      intro fr H
      refine at_nil ?_
      exact Exists.intro (IntKind.i64.wrap (x4 + (1 : Int)), h10) (And.intro (Option.some.inj hm).symm ⟨IntKind.i64.wrap (x4 + (1 : Int)), rfl, rfl, H.less _ (fun fr => by kernel_rfl)⟩)
    · replace H := H.know 13 hb (by kernel_rfl)
      refine aw_false (x := .tmp 13) (by kernel_rfl) H (fun fr => by kernel_rfl) ?_
      refine aw_exit (i := 0) (by kernel_rfl) ?_
      exact Exists.intro _ (And.intro (Option.some.inj hm).symm (fun e => Or.inl ⟨rfl, e, rfl, H.less _ (fun fr => by kernel_rfl)⟩))
  · clear ho
    intro e fr h11 hQ
    rcases hQ with ⟨rfl, rfl, _, H⟩ | hF
    · skip
      show AW cfg 13 g (right (right (right (bodyC cfg.P 13)))) fr h11 _
      refine aw_seq (by kernel_rfl) ?_
      refine aw_reg (id := 7) (n := 2) [(0, []), (1, [])] (by kernel_rfl) (by kernel_rfl) ?_
      obtain ⟨x16, hx, hm⟩ := bind_some hm
      refine at_step (v := .agg x16) (h1 := h11) [(2, .ptr (some (h1.size, 0))), (38, .agg x16)] H (fun fr => by kernel_rfl) (fun fr => .of (s_ldA (by kernel_rfl) hx)) ?_
      intro fr t H
      obtain ⟨h12, hx, hm⟩ := bind_some hm
      refine at_step (v := .tuple []) (h1 := h12) [(2, .ptr (some (h1.size, 0)))] H (fun fr => by kernel_rfl) (fun fr => .of (s_stG (by kernel_rfl) hx)) ?_
      intro fr t H
      refine at_nil ?_
      show AW cfg 13 g (right (right (right (right (bodyC cfg.P 13))))) fr h12 _
      refine aw_ret (by kernel_rfl) ?_
      obtain ⟨x17, hy0, hm⟩ := bind_some hm
      obtain ⟨e1, e2⟩ := inj2 hm
      subst e2
      subst e1
      exact (done_ret H (fun fr => resL_one (.cell (by kernel_rfl) (load_ldA (by kernel_rfl) (by kernel_rfl) hy0) .nil)) rfl : doneQ cfg.P _ _ _ _ fr _)
    · exact hF.elim
/-! ### boulter/boulterlaw18.TreeFull -/
noncomputable def M_boulterlaw18_TreeFull_L0 (h : AHeap) (p0 : Int) (s : Int × AHeap) : Option ((Int × AHeap) ⊕ ((AHeap) ⊕ (Bool × AHeap))) :=
  match s with
  | (x3, h2) => iteB (decide (x3 < (IntKind.i64.wrap ((1020 : Int) + (Int.tmod (IntKind.i64.wrap p0) (10 : Int)))))) ((M_tree_Tree_Add (⟨h.size, []⟩ : Gd) h2 (some (h.size, 0)) [.int .i64 (0 : Int), .int .i64 (0 : Int), .int .i64 (0 : Int), .int .i64 (0 : Int), .int .i64 (0 : Int), .int .i64 (0 : Int), .int .u64 (0 : Int), .int .u64 (0 : Int), .int .u64 (0 : Int), .int .u64 (0 : Int)]).bind fun ((x4, x5), h3) => iteB (((decide (x3 < (1024 : Int))) && ((x4 != x3) || (x5 != (0 : Int)))) || ((decide (x3 ≥ (1024 : Int))) && ((x4 != (0 : Int)) || (x5 != (8 : Int))))) (some (.inr (.inr (false, h3)))) (some (.inl (IntKind.i64.wrap (x3 + (1 : Int)), h3)))) (some (.inr (.inl h2)))
noncomputable def M_boulterlaw18_TreeFull (h : AHeap) (p0 : Int) : Option (Bool) :=
 (some (h.push (.cells none 2 [.slice none 0, .int .i64 (0 : Int)]))).bind fun h1 => (loop (M_boulterlaw18_TreeFull_L0 h p0) ((0 : Int), h1)).bind fun o1 => (match o1 with | .inl h4 => (ldA h4 (h.size, 0) 2).bind fun x6 => (M_tree_Tree_Right h4 x6).bind fun x7 => (iteB x7 ((ldL h4 (h.size, 0)).bind fun x9 => some (((x9.n : Nat) : Int) == (mn (IntKind.i64.wrap ((1020 : Int) + (Int.tmod (IntKind.i64.wrap p0) (10 : Int)))) (1024 : Int)))) (some false) : Option (Bool)).bind fun x8 => (iteB x8 ((M_boulterlaw18_awake).bind fun x11 => some x11) (some false) : Option (Bool)).bind fun x10 => some x10 | .inr (x2, h4) => some x2)
theorem ok_boulterlaw18_TreeFull {g : Gd} {h : AHeap} {p0 : Int} {r0 : Bool} (hm : M_boulterlaw18_TreeFull h p0 = some r0) : Runs cfg g h 5 [.int .u8 p0] (.bool r0) h := by
  refine runs2E (by kernel_rfl) (by kernel_rfl) (body_ofE (n := 58) (rs := [.tmp 2]) (by kernel_rfl) ?_)
  unfold M_boulterlaw18_TreeFull at hm
  refine start (n := 58) [(0, .int .u8 p0)] (by kernel_rfl) (by kernel_rfl) ?_
  intro fr H
  refine aw_seq (by kernel_rfl) ?_
  refine aw_reg (id := 0) (n := 1) [(0, [])] (by kernel_rfl) (by kernel_rfl) ?_
  refine at_seg [(0, [])] [(0, .int .u8 p0)] H (noU_all rfl) (fun fr => by kernel_rfl) ?_
  intro fr H
  refine at_nil ?_
  show AW cfg 5 (⟨h.size, []⟩ : Gd) (right (bodyC cfg.P 5)) fr h _
  refine aw_seq (by kernel_rfl) ?_
  refine aw_reg (id := 1) (n := 1) [(0, [])] (by kernel_rfl) (by kernel_rfl) ?_
  obtain ⟨h1, hx, hm⟩ := bind_some hm
  refine at_step (v := .ptr (some (h.size, 0))) (h1 := h1) [(0, .int .u8 p0), (3, .ptr (some (h.size, 0)))] H (fun fr => by kernel_rfl) (fun fr => .of (s_n' (by kernel_rfl) hx)) ?_
  intro fr t H
  refine at_nil ?_
  show AW cfg 5 (⟨h.size, []⟩ : Gd) (right (right (bodyC cfg.P 5))) fr h1 _
  refine aw_seq (by kernel_rfl) ?_
  refine aw_reg (id := 2) (n := 5) [(0, []), (1, []), (2, []), (3, []), (4, [])] (by kernel_rfl) (by kernel_rfl) ?_
  refine at_seg [(0, []), (1, []), (2, []), (3, []), (4, [])] [(3, .ptr (some (h.size, 0))), (4, .int .i64 (IntKind.i64.wrap ((1020 : Int) + (Int.tmod (IntKind.i64.wrap p0) (10 : Int)))))] H (noU_all rfl) (fun fr => by kernel_rfl) ?_
  intro fr H
  refine at_nil ?_
  show AW cfg 5 (⟨h.size, []⟩ : Gd) (right (right (right (bodyC cfg.P 5)))) fr h1 _
  refine aw_seq (by kernel_rfl) ?_
  refine aw_seq (by kernel_rfl) ?_
  refine aw_reg (id := 3) (n := 2) [(0, []), (1, [])] (by kernel_rfl) (by kernel_rfl) ?_
  refine at_seg [(0, []), (1, [])] [(3, .ptr (some (h.size, 0))), (4, .int .i64 (IntKind.i64.wrap ((1020 : Int) + (Int.tmod (IntKind.i64.wrap p0) (10 : Int))))), (12, .int .i64 (IntKind.i64.wrap ((1020 : Int) + (Int.tmod (IntKind.i64.wrap p0) (10 : Int))))), (13, .int .i64 (0 : Int))] H (noU_all rfl) (fun fr => by kernel_rfl) ?_
  intro fr H
  refine at_nil ?_
  show AW cfg 5 (⟨h.size, []⟩ : Gd) (right (left (right (right (right (bodyC cfg.P 5)))))) fr h1 _
  refine aw_block (id := 0) (by kernel_rfl) ?_
  obtain ⟨o1, ho, hm⟩ := bind_some hm
  refine aw_mono (Q' := fun e fr' h' => (e = .exit 0 ∧ .inl h' = o1 ∧ h' = h' ∧ Has fr' 58 [(3, .ptr (some (h.size, 0))), (4, .int .i64 (IntKind.i64.wrap ((1020 : Int) + (Int.tmod (IntKind.i64.wrap p0) (10 : Int)))))]) ∨ (∃ (x2 : Bool), e = .ret ∧ .inr (x2, h') = o1 ∧ h' = h' ∧ Has fr' 58 [(2, .bool x2)]) ∨ False) ?_ ?_
  · refine aw_loop (by kernel_rfl) (fun (s : Int × AHeap) fr' h' => ∃ (x3 : Int), (x3, h') = s ∧ h' = h' ∧ Has fr' 58 [(3, .ptr (some (h.size, 0))), (4, .int .i64 (IntKind.i64.wrap ((1020 : Int) + (Int.tmod (IntKind.i64.wrap p0) (10 : Int))))), (12, .int .i64 (IntKind.i64.wrap ((1020 : Int) + (Int.tmod (IntKind.i64.wrap p0) (10 : Int))))), (13, .int .i64 x3)]) ho ⟨(0 : Int), rfl, rfl, H.less _ (fun fr => by kernel_rfl)⟩ ?_
    clear ho hm H
    intro s q fr h2 hI hm
    obtain ⟨x3, rfl, _, H⟩ := hI
    unfold M_boulterlaw18_TreeFull_L0 at hm
    refine aw_seq (by kernel_rfl) ?_
    refine aw_reg (id := 4) (n := 1) [(0, [])] (by kernel_rfl) (by kernel_rfl) ?_
    refine at_seg [(0, [])] [(3, .ptr (some (h.size, 0))), (4, .int .i64 (IntKind.i64.wrap ((1020 : Int) + (Int.tmod (IntKind.i64.wrap p0) (10 : Int))))), (12, .int .i64 (IntKind.i64.wrap ((1020 : Int) + (Int.tmod (IntKind.i64.wrap p0) (10 : Int))))), (13, .int .i64 x3), (14, .bool (decide (x3 < (IntKind.i64.wrap ((1020 : Int) + (Int.tmod (IntKind.i64.wrap p0) (10 : Int)))))))] H (noU_all rfl) (fun fr => by kernel_rfl) ?_
    intro fr H
    refine at_nil ?_
    show AW cfg 5 (⟨h.size, []⟩ : Gd) (right (left (left (right (left (right (right (right (bodyC cfg.P 5))))))))) fr h2 _
    refine aw_seq (by kernel_rfl) ?_
    rcases iteB_some hm with ⟨hb, hm⟩ | ⟨hb, hm⟩
    · replace H := H.know 14 hb (by kernel_rfl)
      refine aw_true (x := .tmp 14) (by kernel_rfl) H (fun fr => by kernel_rfl) ?_
      refine aw_skip (by kernel_rfl) ?_
      show AW cfg 5 (⟨h.size, []⟩ : Gd) (right (right (left (left (right (left (right (right (right (bodyC cfg.P 5)))))))))) fr h2 _
      refine aw_seq (by kernel_rfl) ?_
      refine aw_block (id := 1) (by kernel_rfl) ?_
      refine aw_seq (by kernel_rfl) ?_
      refine aw_reg (id := 5) (n := 2) [(0, []), (1, [])] (by kernel_rfl) (by kernel_rfl) ?_
      refine at_seg [(0, []), (1, [])] [(3, .ptr (some (h.size, 0))), (4, .int .i64 (IntKind.i64.wrap ((1020 : Int) + (Int.tmod (IntKind.i64.wrap p0) (10 : Int))))), (5, .int .i64 x3), (12, .int .i64 (IntKind.i64.wrap ((1020 : Int) + (Int.tmod (IntKind.i64.wrap p0) (10 : Int))))), (13, .int .i64 x3)] H (noU_all rfl) (fun fr => by kernel_rfl) ?_
      intro fr H
      refine at_nil ?_
      show AW cfg 5 (⟨h.size, []⟩ : Gd) (right (left (left (right (right (left (left (right (left (right (right (right (bodyC cfg.P 5))))))))))))) fr h2 _
      refine aw_seq (by kernel_rfl) ?_
      refine aw_reg (id := 6) (n := 7) [(0, []), (1, []), (2, []), (3, []), (4, []), (5, []), (6, [])] (by kernel_rfl) (by kernel_rfl) ?_
      refine at_seg [(0, [])] [(3, .ptr (some (h.size, 0))), (4, .int .i64 (IntKind.i64.wrap ((1020 : Int) + (Int.tmod (IntKind.i64.wrap p0) (10 : Int))))), (5, .int .i64 x3), (12, .int .i64 (IntKind.i64.wrap ((1020 : Int) + (Int.tmod (IntKind.i64.wrap p0) (10 : Int))))), (13, .int .i64 x3), (17, .agg [.int .i64 (0 : Int), .int .i64 (0 : Int), .int .i64 (0 : Int), .int .i64 (0 : Int), .int .i64 (0 : Int), .int .i64 (0 : Int), .int .u64 (0 : Int), .int .u64 (0 : Int), .int .u64 (0 : Int), .int .u64 (0 : Int)])] H (noU_all rfl) (fun fr => by kernel_rfl) ?_
      intro fr H
      obtain ⟨⟨⟨x4, x5⟩, h3⟩, hx, hm⟩ := bind_some hm
      refine at_step (v := .tuple [.int .i64 x4, .int .i64 x5]) (h1 := h3) [(3, .ptr (some (h.size, 0))), (4, .int .i64 (IntKind.i64.wrap ((1020 : Int) + (Int.tmod (IntKind.i64.wrap p0) (10 : Int))))), (5, .int .i64 x3), (12, .int .i64 (IntKind.i64.wrap ((1020 : Int) + (Int.tmod (IntKind.i64.wrap p0) (10 : Int))))), (13, .int .i64 x3), (18, .tuple [.int .i64 x4, .int .i64 x5])] H (fun fr => by kernel_rfl) (fun fr => Steps.call (by kernel_rfl) (ok_tree_Tree_Add hx)) ?_
      intro fr t H
      refine at_seg [(2, []), (3, []), (4, []), (5, []), (6, [])] [(3, .ptr (some (h.size, 0))), (4, .int .i64 (IntKind.i64.wrap ((1020 : Int) + (Int.tmod (IntKind.i64.wrap p0) (10 : Int))))), (5, .int .i64 x3), (6, .int .i64 x4), (7, .int .i64 x5), (12, .int .i64 (IntKind.i64.wrap ((1020 : Int) + (Int.tmod (IntKind.i64.wrap p0) (10 : Int))))), (13, .int .i64 x3)] H (noU_all rfl) (fun fr => by kernel_rfl) ?_
      intro fr H
      refine at_nil ?_
      show AW cfg 5 (⟨h.size, []⟩ : Gd) (right (right (left (left (right (right (left (left (right (left (right (right (right (bodyC cfg.P 5)))))))))))))) fr h3 _
      refine aw_seq (by kernel_rfl) ?_
      refine aw_reg (id := 7) (n := 23) [(0, []), (1, []), (2, []), (3, []), (4, []), (5, []), (6, []), (7, []), (8, []), (9, []), (10, []), (11, []), (12, []), (13, []), (14, []), (15, []), (16, []), (17, []), (18, []), (19, []), (20, []), (21, []), (22, [])] (by kernel_rfl) (by kernel_rfl) ?_
      refine at_seg [(0, []), (1, []), (2, [])] [(3, .ptr (some (h.size, 0))), (4, .int .i64 (IntKind.i64.wrap ((1020 : Int) + (Int.tmod (IntKind.i64.wrap p0) (10 : Int))))), (5, .int .i64 x3), (6, .int .i64 x4), (7, .int .i64 x5), (12, .int .i64 (IntKind.i64.wrap ((1020 : Int) + (Int.tmod (IntKind.i64.wrap p0) (10 : Int))))), (13, .int .i64 x3), (23, .bool (decide (x3 < (1024 : Int))))] H (noU_all rfl) (fun fr => by kernel_rfl) ?_
      intro fr H
      refine at_cut [(3, []), (4, []), (5, []), (6, []), (7, []), (8, []), (9, []), (10, [])] (fun fr' h' => h3 = h' ∧ Has fr' 58 [(3, .ptr (some (h.size, 0))), (4, .int .i64 (IntKind.i64.wrap ((1020 : Int) + (Int.tmod (IntKind.i64.wrap p0) (10 : Int))))), (5, .int .i64 x3), (6, .int .i64 x4), (7, .int .i64 x5), (12, .int .i64 (IntKind.i64.wrap ((1020 : Int) + (Int.tmod (IntKind.i64.wrap p0) (10 : Int))))), (13, .int .i64 x3), (31, .bool ((decide (x3 < (1024 : Int))) && ((x4 != x3) || (x5 != (0 : Int)))))]) ?_ ?_
      · cases hb : (decide (x3 < (1024 : Int)) : Bool) with
        | true =>
          replace H := H.know 23 hb (by kernel_rfl)
          refine at_seg [(3, []), (4, []), (5, []), (6, [])] [(3, .ptr (some (h.size, 0))), (4, .int .i64 (IntKind.i64.wrap ((1020 : Int) + (Int.tmod (IntKind.i64.wrap p0) (10 : Int))))), (5, .int .i64 x3), (6, .int .i64 x4), (7, .int .i64 x5), (12, .int .i64 (IntKind.i64.wrap ((1020 : Int) + (Int.tmod (IntKind.i64.wrap p0) (10 : Int))))), (13, .int .i64 x3), (23, .bool true), (27, .bool (x4 != x3))] H (noU_all rfl) (fun fr => by kernel_rfl) ?_
          intro fr H
          refine at_cut [(7, []), (8, []), (9, [])] (fun fr' h' => h3 = h' ∧ Has fr' 58 [(3, .ptr (some (h.size, 0))), (4, .int .i64 (IntKind.i64.wrap ((1020 : Int) + (Int.tmod (IntKind.i64.wrap p0) (10 : Int))))), (5, .int .i64 x3), (6, .int .i64 x4), (7, .int .i64 x5), (12, .int .i64 (IntKind.i64.wrap ((1020 : Int) + (Int.tmod (IntKind.i64.wrap p0) (10 : Int))))), (13, .int .i64 x3), (23, .bool true), (30, .bool ((x4 != x3) || (x5 != (0 : Int))))]) ?_ ?_
          · cases hb : (x4 != x3 : Bool) with
            | true =>
              replace H := H.know 27 hb (by kernel_rfl)
              refine at_seg [(7, []), (8, []), (9, [])] [(3, .ptr (some (h.size, 0))), (4, .int .i64 (IntKind.i64.wrap ((1020 : Int) + (Int.tmod (IntKind.i64.wrap p0) (10 : Int))))), (5, .int .i64 x3), (6, .int .i64 x4), (7, .int .i64 x5), (12, .int .i64 (IntKind.i64.wrap ((1020 : Int) + (Int.tmod (IntKind.i64.wrap p0) (10 : Int))))), (13, .int .i64 x3), (23, .bool true), (30, .bool true)] H (noU_all rfl) (fun fr => by kernel_rfl) ?_
              intro fr H
              exact at_nil ⟨rfl, by first | exact H.less _ (fun fr => by rfl) | exact H.less _ (fun fr => by rw [hb]; rfl)⟩
            | false =>
              replace H := H.know 27 hb (by kernel_rfl)
              refine at_seg [(7, []), (8, []), (9, [])] [(3, .ptr (some (h.size, 0))), (4, .int .i64 (IntKind.i64.wrap ((1020 : Int) + (Int.tmod (IntKind.i64.wrap p0) (10 : Int))))), (5, .int .i64 x3), (6, .int .i64 x4), (7, .int .i64 x5), (12, .int .i64 (IntKind.i64.wrap ((1020 : Int) + (Int.tmod (IntKind.i64.wrap p0) (10 : Int))))), (13, .int .i64 x3), (23, .bool true), (30, .bool (x5 != (0 : Int)))] H (noU_all rfl) (fun fr => by kernel_rfl) ?_
              intro fr H
              exact at_nil ⟨rfl, by first | exact H.less _ (fun fr => by rfl) | exact H.less _ (fun fr => by rw [hb]; rfl)⟩
          · intro t fr h' hK
            obtain ⟨e, H⟩ := hK
            subst e
            refine at_seg [(10, [])] [(3, .ptr (some (h.size, 0))), (4, .int .i64 (IntKind.i64.wrap ((1020 : Int) + (Int.tmod (IntKind.i64.wrap p0) (10 : Int))))), (5, .int .i64 x3), (6, .int .i64 x4), (7, .int .i64 x5), (12, .int .i64 (IntKind.i64.wrap ((1020 : Int) + (Int.tmod (IntKind.i64.wrap p0) (10 : Int))))), (13, .int .i64 x3), (31, .bool ((x4 != x3) || (x5 != (0 : Int))))] H (noU_all rfl) (fun fr => by kernel_rfl) ?_
            intro fr H
            exact at_nil ⟨rfl, by first | exact H.less _ (fun fr => by rfl) | exact H.less _ (fun fr => by rw [hb]; rfl)⟩
        | false =>
          replace H := H.know 23 hb (by kernel_rfl)
          refine at_seg [(3, []), (4, []), (5, []), (6, []), (7, []), (8, []), (9, []), (10, [])] [(3, .ptr (some (h.size, 0))), (4, .int .i64 (IntKind.i64.wrap ((1020 : Int) + (Int.tmod (IntKind.i64.wrap p0) (10 : Int))))), (5, .int .i64 x3), (6, .int .i64 x4), (7, .int .i64 x5), (12, .int .i64 (IntKind.i64.wrap ((1020 : Int) + (Int.tmod (IntKind.i64.wrap p0) (10 : Int))))), (13, .int .i64 x3), (31, .bool false)] H (noU_all rfl) (fun fr => by kernel_rfl) ?_
          intro fr H
          exact at_nil ⟨rfl, by first | exact H.less _ (fun fr => by rfl) | exact H.less _ (fun fr => by rw [hb]; rfl)⟩
      · intro t fr h' hK
        obtain ⟨e, H⟩ := hK
        subst e
        refine at_seg [(11, [])] [(3, .ptr (some (h.size, 0))), (4, .int .i64 (IntKind.i64.wrap ((1020 : Int) + (Int.tmod (IntKind.i64.wrap p0) (10 : Int))))), (5, .int .i64 x3), (6, .int .i64 x4), (7, .int .i64 x5), (12, .int .i64 (IntKind.i64.wrap ((1020 : Int) + (Int.tmod (IntKind.i64.wrap p0) (10 : Int))))), (13, .int .i64 x3), (32, .bool ((decide (x3 < (1024 : Int))) && ((x4 != x3) || (x5 != (0 : Int)))))] H (noU_all rfl) (fun fr => by kernel_rfl) ?_
        intro fr H
        refine at_cut [(12, []), (13, []), (14, []), (15, []), (16, []), (17, []), (18, []), (19, []), (20, []), (21, []), (22, [])] (fun fr' h' => h3 = h' ∧ Has fr' 58 [(3, .ptr (some (h.size, 0))), (4, .int .i64 (IntKind.i64.wrap ((1020 : Int) + (Int.tmod (IntKind.i64.wrap p0) (10 : Int))))), (12, .int .i64 (IntKind.i64.wrap ((1020 : Int) + (Int.tmod (IntKind.i64.wrap p0) (10 : Int))))), (13, .int .i64 x3), (43, .bool (((decide (x3 < (1024 : Int))) && ((x4 != x3) || (x5 != (0 : Int)))) || ((decide (x3 ≥ (1024 : Int))) && ((x4 != (0 : Int)) || (x5 != (8 : Int))))))]) ?_ ?_
        · cases hb : ((decide (x3 < (1024 : Int))) && ((x4 != x3) || (x5 != (0 : Int))) : Bool) with
          | true =>
            replace H := H.know 32 hb (by kernel_rfl)
            refine at_seg [(12, []), (13, []), (14, []), (15, []), (16, []), (17, []), (18, []), (19, []), (20, []), (21, []), (22, [])] [(3, .ptr (some (h.size, 0))), (4, .int .i64 (IntKind.i64.wrap ((1020 : Int) + (Int.tmod (IntKind.i64.wrap p0) (10 : Int))))), (12, .int .i64 (IntKind.i64.wrap ((1020 : Int) + (Int.tmod (IntKind.i64.wrap p0) (10 : Int))))), (13, .int .i64 x3), (43, .bool true)] H (noU_all rfl) (fun fr => by kernel_rfl) ?_
            intro fr H
            exact at_nil ⟨rfl, by first | exact H.less _ (fun fr => by rfl) | exact H.less _ (fun fr => by rw [hb]; rfl)⟩
          | false =>
            replace H := H.know 32 hb (by kernel_rfl)
            refine at_seg [(12, []), (13, []), (14, [])] [(3, .ptr (some (h.size, 0))), (4, .int .i64 (IntKind.i64.wrap ((1020 : Int) + (Int.tmod (IntKind.i64.wrap p0) (10 : Int))))), (6, .int .i64 x4), (7, .int .i64 x5), (12, .int .i64 (IntKind.i64.wrap ((1020 : Int) + (Int.tmod (IntKind.i64.wrap p0) (10 : Int))))), (13, .int .i64 x3), (32, .bool false), (35, .bool (decide (x3 ≥ (1024 : Int))))] H (noU_all rfl) (fun fr => by kernel_rfl) ?_
            intro fr H
            refine at_cut [(15, []), (16, []), (17, []), (18, []), (19, []), (20, []), (21, [])] (fun fr' h' => h3 = h' ∧ Has fr' 58 [(3, .ptr (some (h.size, 0))), (4, .int .i64 (IntKind.i64.wrap ((1020 : Int) + (Int.tmod (IntKind.i64.wrap p0) (10 : Int))))), (12, .int .i64 (IntKind.i64.wrap ((1020 : Int) + (Int.tmod (IntKind.i64.wrap p0) (10 : Int))))), (13, .int .i64 x3), (32, .bool false), (42, .bool ((decide (x3 ≥ (1024 : Int))) && ((x4 != (0 : Int)) || (x5 != (8 : Int)))))]) ?_ ?_
            · cases hb : (decide (x3 ≥ (1024 : Int)) : Bool) with
              | true =>
                replace H := H.know 35 hb (by kernel_rfl)
                refine at_seg [(15, []), (16, []), (17, [])] [(3, .ptr (some (h.size, 0))), (4, .int .i64 (IntKind.i64.wrap ((1020 : Int) + (Int.tmod (IntKind.i64.wrap p0) (10 : Int))))), (7, .int .i64 x5), (12, .int .i64 (IntKind.i64.wrap ((1020 : Int) + (Int.tmod (IntKind.i64.wrap p0) (10 : Int))))), (13, .int .i64 x3), (32, .bool false), (35, .bool true), (38, .bool (x4 != (0 : Int)))] H (noU_all rfl) (fun fr => by kernel_rfl) ?_
                intro fr H
                refine at_cut [(18, []), (19, []), (20, [])] (fun fr' h' => h3 = h' ∧ Has fr' 58 [(3, .ptr (some (h.size, 0))), (4, .int .i64 (IntKind.i64.wrap ((1020 : Int) + (Int.tmod (IntKind.i64.wrap p0) (10 : Int))))), (12, .int .i64 (IntKind.i64.wrap ((1020 : Int) + (Int.tmod (IntKind.i64.wrap p0) (10 : Int))))), (13, .int .i64 x3), (32, .bool false), (35, .bool true), (41, .bool ((x4 != (0 : Int)) || (x5 != (8 : Int))))]) ?_ ?_
                · cases hb : (x4 != (0 : Int) : Bool) with
                  | true =>
                    replace H := H.know 38 hb (by kernel_rfl)
                    refine at_seg [(18, []), (19, []), (20, [])] [(3, .ptr (some (h.size, 0))), (4, .int .i64 (IntKind.i64.wrap ((1020 : Int) + (Int.tmod (IntKind.i64.wrap p0) (10 : Int))))), (12, .int .i64 (IntKind.i64.wrap ((1020 : Int) + (Int.tmod (IntKind.i64.wrap p0) (10 : Int))))), (13, .int .i64 x3), (32, .bool false), (35, .bool true), (41, .bool true)] H (noU_all rfl) (fun fr => by kernel_rfl) ?_
                    intro fr H
                    exact at_nil ⟨rfl, by first | exact H.less _ (fun fr => by rfl) | exact H.less _ (fun fr => by rw [hb]; rfl)⟩
                  | false =>
                    replace H := H.know 38 hb (by kernel_rfl)
                    refine at_seg [(18, []), (19, []), (20, [])] [(3, .ptr (some (h.size, 0))), (4, .int .i64 (IntKind.i64.wrap ((1020 : Int) + (Int.tmod (IntKind.i64.wrap p0) (10 : Int))))), (12, .int .i64 (IntKind.i64.wrap ((1020 : Int) + (Int.tmod (IntKind.i64.wrap p0) (10 : Int))))), (13, .int .i64 x3), (32, .bool false), (35, .bool true), (41, .bool (x5 != (8 : Int)))] H (noU_all rfl) (fun fr => by kernel_rfl) ?_
                    intro fr H
                    exact at_nil ⟨rfl, by first | exact H.less _ (fun fr => by rfl) | exact H.less _ (fun fr => by rw [hb]; rfl)⟩
                · intro t fr h' hK
                  obtain ⟨e, H⟩ := hK
                  subst e
                  refine at_seg [(21, [])] [(3, .ptr (some (h.size, 0))), (4, .int .i64 (IntKind.i64.wrap ((1020 : Int) + (Int.tmod (IntKind.i64.wrap p0) (10 : Int))))), (12, .int .i64 (IntKind.i64.wrap ((1020 : Int) + (Int.tmod (IntKind.i64.wrap p0) (10 : Int))))), (13, .int .i64 x3), (32, .bool false), (42, .bool ((x4 != (0 : Int)) || (x5 != (8 : Int))))] H (noU_all rfl) (fun fr => by kernel_rfl) ?_
                  intro fr H
                  exact at_nil ⟨rfl, by first | exact H.less _ (fun fr => by rfl) | exact H.less _ (fun fr => by rw [hb]; rfl)⟩
              | false =>
                replace H := H.know 35 hb (by kernel_rfl)
                refine at_seg [(15, []), (16, []), (17, []), (18, []), (19, []), (20, []), (21, [])] [(3, .ptr (some (h.size, 0))), (4, .int .i64 (IntKind.i64.wrap ((1020 : Int) + (Int.tmod (IntKind.i64.wrap p0) (10 : Int))))), (12, .int .i64 (IntKind.i64.wrap ((1020 : Int) + (Int.tmod (IntKind.i64.wrap p0) (10 : Int))))), (13, .int .i64 x3), (32, .bool false), (42, .bool false)] H (noU_all rfl) (fun fr => by kernel_rfl) ?_
                intro fr H
                exact at_nil ⟨rfl, by first | exact H.less _ (fun fr => by rfl) | exact H.less _ (fun fr => by rw [hb]; rfl)⟩
            · intro t fr h' hK
              obtain ⟨e, H⟩ := hK
              subst e
              refine at_seg [(22, [])] [(3, .ptr (some (h.size, 0))), (4, .int .i64 (IntKind.i64.wrap ((1020 : Int) + (Int.tmod (IntKind.i64.wrap p0) (10 : Int))))), (12, .int .i64 (IntKind.i64.wrap ((1020 : Int) + (Int.tmod (IntKind.i64.wrap p0) (10 : Int))))), (13, .int .i64 x3), (43, .bool ((decide (x3 ≥ (1024 : Int))) && ((x4 != (0 : Int)) || (x5 != (8 : Int)))))] H (noU_all rfl) (fun fr => by kernel_rfl) ?_
              intro fr H
              exact at_nil ⟨rfl, by first | exact H.less _ (fun fr => by rfl) | exact H.less _ (fun fr => by rw [hb]; rfl)⟩
        · intro t fr h' hK
          obtain ⟨e, H⟩ := hK
          subst e
          refine at_nil ?_
          show AW cfg 5 (⟨h.size, []⟩ : Gd) (right (right (right (left (left (right (right (left (left (right (left (right (right (right (bodyC cfg.P 5))))))))))))))) fr h3 _
          rcases iteB_some hm with ⟨hb, hm⟩ | ⟨hb, hm⟩
          · replace H := H.know 43 hb (by kernel_rfl)
            refine aw_true (x := .tmp 43) (by kernel_rfl) H (fun fr => by kernel_rfl) ?_
            refine aw_seq (by kernel_rfl) ?_
            refine aw_reg (id := 8) (n := 1) [(0, [])] (by kernel_rfl) (by kernel_rfl) ?_
            refine at_seg [(0, [])] [(2, .bool false)] H (noU_all rfl) (fun fr => by kernel_rfl) ?_
            intro fr H
            refine at_nil ?_
            show AW cfg 5 (⟨h.size, []⟩ : Gd) (right (left (right (right (right (left (left (right (right (left (left (right (left (right (right (right (bodyC cfg.P 5))))))))))))))))) fr h3 _
            refine aw_ret (by kernel_rfl) ?_
            exact Exists.intro _ (And.intro (Option.some.inj hm).symm (fun e => Or.inr (Or.inl ⟨false, rfl, e, rfl, H.less _ (fun fr => by kernel_rfl)⟩)))
          · replace H := H.know 43 hb (by kernel_rfl)
            refine aw_false (x := .tmp 43) (by kernel_rfl) H (fun fr => by kernel_rfl) ?_
            refine aw_skip (by kernel_rfl) ?_
            show AW cfg 5 (⟨h.size, []⟩ : Gd) (right (right (right (left (left (right (left (right (right (right (bodyC cfg.P 5))))))))))) fr h3 _
            refine aw_reg (id := 9) (n := 2) [(0, []), (1, [])] (by kernel_rfl) (by kernel_rfl) ?_
            refine at_seg [(0, []), (1, [])] [(3, .ptr (some (h.size, 0))), (4, .int .i64 (IntKind.i64.wrap ((1020 : Int) + (Int.tmod (IntKind.i64.wrap p0) (10 : Int))))), (12, .int .i64 (IntKind.i64.wrap ((1020 : Int) + (Int.tmod (IntKind.i64.wrap p0) (10 : Int))))), (13, .int .i64 (IntKind.i64.wrap (x3 + (1 : Int))))] H (noU_all rfl) (fun fr => by kernel_rfl) ?_
            intro fr H
            refine at_nil ?_
            exact Exists.intro (IntKind.i64.wrap (x3 + (1 : Int)), h3) (And.intro (Option.some.inj hm).symm ⟨IntKind.i64.wrap (x3 + (1 : Int)), rfl, rfl, H.less _ (fun fr => by kernel_rfl)⟩)
    · replace H := H.know 14 hb (by kernel_rfl)
      refine aw_false (x := .tmp 14) (by kernel_rfl) H (fun fr => by kernel_rfl) ?_
      refine aw_exit (i := 0) (by kernel_rfl) ?_
      exact Exists.intro _ (And.intro (Option.some.inj hm).symm (fun e => Or.inl ⟨rfl, e, rfl, H.less _ (fun fr => by kernel_rfl)⟩))
  · clear ho
    intro e fr h4 hQ
    rcases hQ with ⟨rfl, rfl, _, H⟩ | ⟨x2, rfl, rfl, _, H⟩ | hF
    · skip
      show AW cfg 5 (⟨h.size, []⟩ : Gd) (right (right (right (right (bodyC cfg.P 5))))) fr h4 _
      refine aw_seq (by kernel_rfl) ?_
      refine aw_reg (id := 10) (n := 14) [(0, []), (1, []), (2, []), (3, []), (4, []), (5, []), (6, []), (7, []), (8, []), (9, []), (10, []), (11, []), (12, []), (13, [])] (by kernel_rfl) (by kernel_rfl) ?_
      obtain ⟨x6, hx, hm⟩ := bind_some hm
      refine at_step (v := .agg x6) (h1 := h4) [(3, .ptr (some (h.size, 0))), (4, .int .i64 (IntKind.i64.wrap ((1020 : Int) + (Int.tmod (IntKind.i64.wrap p0) (10 : Int))))), (45, .agg x6)] H (fun fr => by kernel_rfl) (fun fr => .of (s_ldA (by kernel_rfl) hx)) ?_
      intro fr t H
      obtain ⟨x7, hx, hm⟩ := bind_some hm
      refine at_step (v := .bool x7) (h1 := h4) [(3, .ptr (some (h.size, 0))), (4, .int .i64 (IntKind.i64.wrap ((1020 : Int) + (Int.tmod (IntKind.i64.wrap p0) (10 : Int))))), (46, .bool x7)] H (fun fr => by kernel_rfl) (fun fr => Steps.call (by kernel_rfl) (ok_tree_Tree_Right hx)) ?_
      intro fr t H
      refine at_seg [(2, [])] [(3, .ptr (some (h.size, 0))), (4, .int .i64 (IntKind.i64.wrap ((1020 : Int) + (Int.tmod (IntKind.i64.wrap p0) (10 : Int))))), (47, .bool x7)] H (noU_all rfl) (fun fr => by kernel_rfl) ?_
      intro fr H
      obtain ⟨x8, ho, hm⟩ := bind_some hm
      refine at_cut [(3, []), (4, []), (5, []), (6, []), (7, []), (8, []), (9, [])] (fun fr' h' => h4 = h' ∧ Has fr' 58 [(54, .bool x8)]) ?_ ?_
      · rcases iteB_some ho with ⟨hb, hm⟩ | ⟨hb, hm⟩
        · replace H := H.know 47 hb (by kernel_rfl)
          refine at_seg [(3, [])] [(4, .int .i64 (IntKind.i64.wrap ((1020 : Int) + (Int.tmod (IntKind.i64.wrap p0) (10 : Int))))), (47, .bool true), (48, .ptr (some (h.size, 0)))] H (noU_all rfl) (fun fr => by kernel_rfl) ?_
          intro fr H
          obtain ⟨x9, hx, hm⟩ := bind_some hm
          refine at_step (v := .slice x9.r x9.n) (h1 := h4) [(4, .int .i64 (IntKind.i64.wrap ((1020 : Int) + (Int.tmod (IntKind.i64.wrap p0) (10 : Int))))), (47, .bool true), (49, .slice x9.r x9.n)] H (fun fr => by kernel_rfl) (fun fr => .of (s_ld (by kernel_rfl) (ldL_eq hx))) ?_
          intro fr t H
          refine at_seg [(5, []), (6, []), (7, []), (8, []), (9, [])] [(54, .bool (((x9.n : Nat) : Int) == (mn (IntKind.i64.wrap ((1020 : Int) + (Int.tmod (IntKind.i64.wrap p0) (10 : Int)))) (1024 : Int))))] H (noU_all rfl) (fun fr => by kernel_rfl) ?_
          intro fr H
          have e1 := Option.some.inj hm
          subst e1
          exact at_nil ⟨rfl, H.less _ (fun fr => by kernel_rfl)⟩
        · replace H := H.know 47 hb (by kernel_rfl)
          refine at_seg [(3, []), (4, []), (5, []), (6, []), (7, []), (8, []), (9, [])] [(54, .bool false)] H (noU_all rfl) (fun fr => by kernel_rfl) ?_
          intro fr H
          have e1 := Option.some.inj hm
          subst e1
          exact at_nil ⟨rfl, H.less _ (fun fr => by kernel_rfl)⟩
      · intro t fr h' hK
        obtain ⟨e, H⟩ := hK
        subst e
        refine at_seg [(10, [])] [(55, .bool x8)] H (noU_all rfl) (fun fr => by kernel_rfl) ?_
        intro fr H
        obtain ⟨x10, ho, hm⟩ := bind_some hm
        refine at_cut [(11, []), (12, [])] (fun fr' h' => h4 = h' ∧ Has fr' 58 [(57, .bool x10)]) ?_ ?_
        · rcases iteB_some ho with ⟨hb, hm⟩ | ⟨hb, hm⟩
          · replace H := H.know 55 hb (by kernel_rfl)
            obtain ⟨x11, hx, hm⟩ := bind_some hm
            refine at_step (v := .bool x11) (h1 := h4) [(55, .bool true), (56, .bool x11)] H (fun fr => by kernel_rfl) (fun fr => Steps.call (by kernel_rfl) (ok_boulterlaw18_awake hx)) ?_
            intro fr t H
            refine at_seg [(12, [])] [(57, .bool x11)] H (noU_all rfl) (fun fr => by kernel_rfl) ?_
            intro fr H
            have e1 := Option.some.inj hm
            subst e1
            exact at_nil ⟨rfl, H.less _ (fun fr => by kernel_rfl)⟩
          · replace H := H.know 55 hb (by kernel_rfl)
            refine at_seg [(11, []), (12, [])] [(57, .bool false)] H (noU_all rfl) (fun fr => by kernel_rfl) ?_
            intro fr H
            have e1 := Option.some.inj hm
            subst e1
            exact at_nil ⟨rfl, H.less _ (fun fr => by kernel_rfl)⟩
        · intro t fr h' hK
          obtain ⟨e, H⟩ := hK
          subst e
          refine at_seg [(13, [])] [(2, .bool x10)] H (noU_all rfl) (fun fr => by kernel_rfl) ?_
          intro fr H
          refine at_nil ?_
          show AW cfg 5 (⟨h.size, []⟩ : Gd) (right (right (right (right (right (bodyC cfg.P 5)))))) fr h4 _
          refine aw_ret (by kernel_rfl) ?_
          have e1 := Option.some.inj hm
          subst e1
          exact (doneE_of .ret H (fun fr => by kernel_rfl) (.inl rfl) : doneE cfg.P _ _ _ fr _)
    · skip
      have e1 := Option.some.inj hm
      subst e1
      exact (doneE_of .ret H (fun fr => by kernel_rfl) (.inl rfl) : doneE cfg.P _ _ _ fr _)
    · exact hF.elim
end Go.Abs.L
