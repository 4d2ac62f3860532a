/-
  Models of functions of package law01, and that the abstract run tells them. Written by lift.py.
-/
import Derived.Test.YtklabpnclemmoaaLCfg
import Derived.Test.YtklabpnclemmoaaLoctal
namespace Go.Abs.L
open Go.Abs
set_option linter.unusedVariables false
/-! ### boulter/boulterlaw01.awake -/
def M_boulterlaw01_awake : Option (Bool) := some true
theorem ok_boulterlaw01_awake {g : Gd} {h : AHeap} {r0 : Bool} (hm : M_boulterlaw01_awake = some r0) : Runs cfg g h 34 [] (.bool r0) h := by
  have e1 := Option.some.inj hm
  subst e1
  exact runs4E (by kernel_rfl) rfl rfl (closed 1000 (by kernel_rfl))
/-! ### boulter/boulterlaw01.OctalBlanks -/
noncomputable def M_boulterlaw01_OctalBlanks_L0 (p1 : Int) (s : (List UInt8) × Int) : Option (((List UInt8) × Int) ⊕ (((List UInt8)))) :=
  match s with
  | (x6, x7) => iteB (decide (x7 < (Int.tmod (IntKind.i64.wrap p1) (5 : Int)))) (need (decide (x6.length + ([32] : List UInt8).length ≤ 9223372036854775807)) <| some (.inl (x6 ++ ([32] : List UInt8), IntKind.i64.wrap (x7 + (1 : Int))))) (some (.inr x6))
noncomputable def M_boulterlaw01_OctalBlanks_L1 (p2 : Int) (s : (List UInt8) × Int × AHeap) : Option (((List UInt8) × Int × AHeap) ⊕ (((List UInt8) × AHeap))) :=
  match s with
  | (x12, x13, h1) => iteB (decide (x13 < (Int.tmod (IntKind.i64.wrap p2) (5 : Int)))) ((ixS ([32, 0] : List UInt8) (Int.tmod x13 (2 : Int))).bind fun x14 => (some (h1.push (.cells (some 5) 2 [.int .u8 x14]))).bind fun h2 => (byL h2 (⟨some (h1.size, 0), 1⟩ : Sl)).bind fun x15 => need (decide (x12.length + x15.length ≤ 9223372036854775807)) <| some (.inl (x12 ++ x15, IntKind.i64.wrap (x13 + (1 : Int)), h2))) (some (.inr (x12, h1)))
noncomputable def M_boulterlaw01_OctalBlanks (h : AHeap) (p0 : Int) (p1 : Int) (p2 : Int) : Option (Bool) :=
 (M_octal_Octal h (bAnd .i64 (IntKind.i64.wrap p0) (511 : Int)) (4 : Int)).bind fun (x1, x2) => iteB (!x2) (some false) ((loop (M_boulterlaw01_OctalBlanks_L0 p1) (([] : List UInt8), (0 : Int))).bind fun x5 => (subS x1 none (some (3 : Int))).bind fun x8 => need (decide (x5.length + x8.length ≤ 9223372036854775807)) <| (loop (M_boulterlaw01_OctalBlanks_L1 p2) (x5 ++ x8, (0 : Int), h)).bind fun (x11, h3) => (M_octal_Read h3 x11).bind fun (x16, x17) => (iteB ((x16 == (bAnd .i64 (IntKind.i64.wrap p0) (511 : Int))) && (x17 == (0 : Int))) ((M_boulterlaw01_awake).bind fun x19 => some x19) (some false) : Option (Bool)).bind fun x18 => some x18)
theorem ok_boulterlaw01_OctalBlanks {g : Gd} {h : AHeap} {p0 : Int} {p1 : Int} {p2 : Int} {r0 : Bool} (hm : M_boulterlaw01_OctalBlanks h p0 p1 p2 = some r0) : Runs cfg g h 11 [.int .u16 p0, .int .u8 p1, .int .u8 p2] (.bool r0) h := by
  refine runs2E (by kernel_rfl) (by kernel_rfl) (body_ofE (n := 65) (rs := [.tmp 6]) (by kernel_rfl) ?_)
  unfold M_boulterlaw01_OctalBlanks at hm
  refine start (n := 65) [(0, .int .u16 p0), (1, .int .u8 p1), (2, .int .u8 p2)] (by kernel_rfl) (by kernel_rfl) ?_
  intro fr H
  refine aw_seq (by kernel_rfl) ?_
  refine aw_reg (id := 0) (n := 1) [(0, [])] (by kernel_rfl) (by kernel_rfl) ?_
  refine at_seg [(0, [])] [(0, .int .u16 p0), (1, .int .u8 p1), (2, .int .u8 p2)] H (noU_all rfl) (fun fr => by kernel_rfl) ?_
  intro fr H
  refine at_nil ?_
  show AW cfg 11 (⟨h.size, []⟩ : Gd) (right (bodyC cfg.P 11)) fr h _
  refine aw_seq (by kernel_rfl) ?_
  refine aw_reg (id := 1) (n := 9) [(0, []), (1, []), (2, []), (3, []), (4, []), (5, []), (6, []), (7, []), (8, [])] (by kernel_rfl) (by kernel_rfl) ?_
  refine at_seg [(0, []), (1, []), (2, [])] [(0, .int .u16 p0), (1, .int .u8 p1), (2, .int .u8 p2), (16, .int .i64 (bAnd .i64 (IntKind.i64.wrap p0) (511 : Int)))] H (noU_all rfl) (fun fr => by kernel_rfl) ?_
  intro fr H
  obtain ⟨⟨x1, x2⟩, hx, hm⟩ := bind_some hm
  refine at_step (v := .tuple [.str x1, .bool x2]) (h1 := h) [(0, .int .u16 p0), (1, .int .u8 p1), (2, .int .u8 p2), (17, .tuple [.str x1, .bool x2])] H (fun fr => by kernel_rfl) (fun fr => Steps.call (by kernel_rfl) (ok_octal_Octal hx)) ?_
  intro fr t H
  refine at_seg [(4, []), (5, []), (6, []), (7, []), (8, [])] [(0, .int .u16 p0), (1, .int .u8 p1), (2, .int .u8 p2), (7, .str x1), (8, .bool x2)] H (noU_all rfl) (fun fr => by kernel_rfl) ?_
  intro fr H
  refine at_nil ?_
  show AW cfg 11 (⟨h.size, []⟩ : Gd) (right (right (bodyC cfg.P 11))) fr h _
  refine aw_seq (by kernel_rfl) ?_
  refine aw_seq (by kernel_rfl) ?_
  refine aw_reg (id := 2) (n := 2) [(0, []), (1, [])] (by kernel_rfl) (by kernel_rfl) ?_
  refine at_seg [(0, []), (1, [])] [(0, .int .u16 p0), (1, .int .u8 p1), (2, .int .u8 p2), (7, .str x1), (21, .bool (!x2))] H (noU_all rfl) (fun fr => by kernel_rfl) ?_
  intro fr H
  refine at_nil ?_
  show AW cfg 11 (⟨h.size, []⟩ : Gd) (right (left (right (right (bodyC cfg.P 11))))) fr h _
  rcases iteB_some hm with ⟨hb, hm⟩ | ⟨hb, hm⟩
  · rw [hb] at H
    refine aw_true (x := .tmp 21) (by kernel_rfl) H (fun fr => by kernel_rfl) ?_
    refine aw_seq (by kernel_rfl) ?_
    refine aw_reg (id := 3) (n := 1) [(0, [])] (by kernel_rfl) (by kernel_rfl) ?_
    refine at_seg [(0, [])] [(6, .bool false)] H (noU_all rfl) (fun fr => by kernel_rfl) ?_
    intro fr H
    refine at_nil ?_
    show AW cfg 11 (⟨h.size, []⟩ : Gd) (right (left (right (left (right (right (bodyC cfg.P 11))))))) fr h _
    refine aw_ret (by kernel_rfl) ?_
    have e1 := Option.some.inj hm
    subst e1
    exact (doneE_of .ret H (fun fr => by kernel_rfl) (.inl rfl) : doneE cfg.P _ _ _ fr _)
  · rw [hb] at H
    refine aw_false (x := .tmp 21) (by kernel_rfl) H (fun fr => by kernel_rfl) ?_
    refine aw_skip (by kernel_rfl) ?_
    show AW cfg 11 (⟨h.size, []⟩ : Gd) (right (right (right (bodyC cfg.P 11)))) fr h _
    refine aw_seq (by kernel_rfl) ?_
    refine aw_reg (id := 4) (n := 1) [(0, [])] (by kernel_rfl) (by kernel_rfl) ?_
    refine at_seg [(0, [])] [(0, .int .u16 p0), (1, .int .u8 p1), (2, .int .u8 p2), (7, .str x1), (9, .str ([] : List UInt8))] H (noU_all rfl) (fun fr => by kernel_rfl) ?_
    intro fr H
    refine at_nil ?_
    show AW cfg 11 (⟨h.size, []⟩ : Gd) (right (right (right (right (bodyC cfg.P 11))))) fr h _
    refine aw_seq (by kernel_rfl) ?_
    refine aw_seq (by kernel_rfl) ?_
    refine aw_reg (id := 5) (n := 4) [(0, []), (1, []), (2, []), (3, [])] (by kernel_rfl) (by kernel_rfl) ?_
    refine at_seg [(0, []), (1, []), (2, []), (3, [])] [(0, .int .u16 p0), (2, .int .u8 p2), (7, .str x1), (9, .str ([] : List UInt8)), (24, .int .i64 (Int.tmod (IntKind.i64.wrap p1) (5 : Int))), (25, .int .i64 (0 : Int))] H (noU_all rfl) (fun fr => by kernel_rfl) ?_
    intro fr H
    refine at_nil ?_
    show AW cfg 11 (⟨h.size, []⟩ : Gd) (right (left (right (right (right (right (bodyC cfg.P 11))))))) fr h _
    refine aw_block (id := 0) (by kernel_rfl) ?_
    obtain ⟨o1, ho, hm⟩ := bind_some hm
    refine aw_mono (Q' := fun e fr' h' => (∃ (x5 : List UInt8), e = .exit 0 ∧ x5 = o1 ∧ h = h' ∧ Has fr' 65 [(0, .int .u16 p0), (2, .int .u8 p2), (7, .str x1), (9, .str x5)]) ∨ False) ?_ ?_
    · refine aw_loop (by kernel_rfl) (fun (s : (List UInt8) × Int) fr' h' => ∃ (x6 : List UInt8) (x7 : Int), (x6, x7) = s ∧ h = h' ∧ Has fr' 65 [(0, .int .u16 p0), (2, .int .u8 p2), (7, .str x1), (9, .str x6), (24, .int .i64 (Int.tmod (IntKind.i64.wrap p1) (5 : Int))), (25, .int .i64 x7)]) ho ⟨([] : List UInt8), (0 : Int), rfl, rfl, H.less _ (fun fr => by kernel_rfl)⟩ ?_
      clear ho hm H
      intro s q fr hz hI hm
      obtain ⟨x6, x7, rfl, rfl, H⟩ := hI
      unfold M_boulterlaw01_OctalBlanks_L0 at hm
      refine aw_seq (by kernel_rfl) ?_
      refine aw_reg (id := 6) (n := 1) [(0, [])] (by kernel_rfl) (by kernel_rfl) ?_
      refine at_seg [(0, [])] [(0, .int .u16 p0), (2, .int .u8 p2), (7, .str x1), (9, .str x6), (24, .int .i64 (Int.tmod (IntKind.i64.wrap p1) (5 : Int))), (25, .int .i64 x7), (26, .bool (decide (x7 < (Int.tmod (IntKind.i64.wrap p1) (5 : Int)))))] H (noU_all rfl) (fun fr => by kernel_rfl) ?_
      intro fr H
      refine at_nil ?_
      show AW cfg 11 (⟨h.size, []⟩ : Gd) (right (left (left (right (left (right (right (right (right (bodyC cfg.P 11)))))))))) fr h _
      refine aw_seq (by kernel_rfl) ?_
      rcases iteB_some hm with ⟨hb, hm⟩ | ⟨hb, hm⟩
      · rw [hb] at H
        refine aw_true (x := .tmp 26) (by kernel_rfl) H (fun fr => by kernel_rfl) ?_
        refine aw_skip (by kernel_rfl) ?_
        show AW cfg 11 (⟨h.size, []⟩ : Gd) (right (right (left (left (right (left (right (right (right (right (bodyC cfg.P 11))))))))))) fr h _
        refine aw_seq (by kernel_rfl) ?_
        refine aw_block (id := 1) (by kernel_rfl) ?_
        refine aw_reg (id := 7) (n := 3) [(0, []), (1, []), (2, [])] (by kernel_rfl) (by kernel_rfl) ?_
        refine at_seg [(0, [])] [(0, .int .u16 p0), (2, .int .u8 p2), (7, .str x1), (24, .int .i64 (Int.tmod (IntKind.i64.wrap p1) (5 : Int))), (25, .int .i64 x7), (27, .str x6)] H (noU_all rfl) (fun fr => by kernel_rfl) ?_
        intro fr H
        obtain ⟨hb, hm⟩ := need_some hm
        refine at_step (v := .str (x6 ++ ([32] : List UInt8))) (h1 := h) [(0, .int .u16 p0), (2, .int .u8 p2), (7, .str x1), (24, .int .i64 (Int.tmod (IntKind.i64.wrap p1) (5 : Int))), (25, .int .i64 x7), (28, .str (x6 ++ ([32] : List UInt8)))] H (fun fr => by kernel_rfl) (fun fr => .of (s_cat (by kernel_rfl) hb)) ?_
        intro fr t H
        refine at_seg [(2, [])] [(0, .int .u16 p0), (2, .int .u8 p2), (7, .str x1), (9, .str (x6 ++ ([32] : List UInt8))), (24, .int .i64 (Int.tmod (IntKind.i64.wrap p1) (5 : Int))), (25, .int .i64 x7)] H (noU_all rfl) (fun fr => by kernel_rfl) ?_
        intro fr H
        refine at_nil ?_
        show AW cfg 11 (⟨h.size, []⟩ : Gd) (right (right (right (left (left (right (left (right (right (right (right (bodyC cfg.P 11)))))))))))) fr h _
        refine aw_reg (id := 8) (n := 2) [(0, []), (1, [])] (by kernel_rfl) (by kernel_rfl) ?_
        refine at_seg [(0, []), (1, [])] [(0, .int .u16 p0), (2, .int .u8 p2), (7, .str x1), (9, .str (x6 ++ ([32] : List UInt8))), (24, .int .i64 (Int.tmod (IntKind.i64.wrap p1) (5 : Int))), (25, .int .i64 (IntKind.i64.wrap (x7 + (1 : Int))))] H (noU_all rfl) (fun fr => by kernel_rfl) ?_
        intro fr H
        refine at_nil ?_
        exact Exists.intro (x6 ++ ([32] : List UInt8), IntKind.i64.wrap (x7 + (1 : Int))) (And.intro (Option.some.inj hm).symm ⟨x6 ++ ([32] : List UInt8), IntKind.i64.wrap (x7 + (1 : Int)), rfl, rfl, H.less _ (fun fr => by kernel_rfl)⟩)
      · rw [hb] at H
        refine aw_false (x := .tmp 26) (by kernel_rfl) H (fun fr => by kernel_rfl) ?_
        refine aw_exit (i := 0) (by kernel_rfl) ?_
        exact Exists.intro _ (And.intro (Option.some.inj hm).symm (fun e => Or.inl ⟨x6, rfl, e, rfl, H.less _ (fun fr => by kernel_rfl)⟩))
    · clear ho
      intro e fr hz hQ
      rcases hQ with ⟨x5, rfl, rfl, rfl, H⟩ | hF
      · skip
        show AW cfg 11 (⟨h.size, []⟩ : Gd) (right (right (right (right (right (bodyC cfg.P 11)))))) fr h _
        refine aw_seq (by kernel_rfl) ?_
        refine aw_reg (id := 9) (n := 5) [(0, []), (1, []), (2, []), (3, []), (4, [])] (by kernel_rfl) (by kernel_rfl) ?_
        refine at_seg [(0, []), (1, [])] [(0, .int .u16 p0), (2, .int .u8 p2), (30, .str x5), (31, .str x1)] H (noU_all rfl) (fun fr => by kernel_rfl) ?_
        intro fr H
        obtain ⟨x8, hx, hm⟩ := bind_some hm
        refine at_step (v := .str x8) (h1 := h) [(0, .int .u16 p0), (2, .int .u8 p2), (30, .str x5), (32, .str x8)] H (fun fr => by kernel_rfl) (fun fr => .of (s_subS (k := .i64) (k' := .i64) (lo := none) (hi := (some (3 : Int))) (by kernel_rfl) hx)) ?_
        intro fr t H
        obtain ⟨hb, hm⟩ := need_some hm
        refine at_step (v := .str (x5 ++ x8)) (h1 := h) [(0, .int .u16 p0), (2, .int .u8 p2), (33, .str (x5 ++ x8))] H (fun fr => by kernel_rfl) (fun fr => .of (s_cat (by kernel_rfl) hb)) ?_
        intro fr t H
        refine at_seg [(4, [])] [(0, .int .u16 p0), (2, .int .u8 p2), (9, .str (x5 ++ x8))] H (noU_all rfl) (fun fr => by kernel_rfl) ?_
        intro fr H
        refine at_nil ?_
        show AW cfg 11 (⟨h.size, []⟩ : Gd) (right (right (right (right (right (right (bodyC cfg.P 11))))))) fr h _
        refine aw_seq (by kernel_rfl) ?_
        refine aw_seq (by kernel_rfl) ?_
        refine aw_reg (id := 10) (n := 4) [(0, []), (1, []), (2, []), (3, [])] (by kernel_rfl) (by kernel_rfl) ?_
        refine at_seg [(0, []), (1, []), (2, []), (3, [])] [(0, .int .u16 p0), (9, .str (x5 ++ x8)), (36, .int .i64 (Int.tmod (IntKind.i64.wrap p2) (5 : Int))), (37, .int .i64 (0 : Int))] H (noU_all rfl) (fun fr => by kernel_rfl) ?_
        intro fr H
        refine at_nil ?_
        show AW cfg 11 (⟨h.size, []⟩ : Gd) (right (left (right (right (right (right (right (right (bodyC cfg.P 11))))))))) fr h _
        refine aw_block (id := 2) (by kernel_rfl) ?_
        obtain ⟨o2, ho, hm⟩ := bind_some hm
        refine aw_mono (Q' := fun e fr' h' => (∃ (x11 : List UInt8), e = .exit 2 ∧ (x11, h') = o2 ∧ h' = h' ∧ Has fr' 65 [(0, .int .u16 p0), (9, .str x11)]) ∨ False) ?_ ?_
        · refine aw_loop (by kernel_rfl) (fun (s : (List UInt8) × Int × AHeap) fr' h' => ∃ (x12 : List UInt8) (x13 : Int), (x12, x13, h') = s ∧ h' = h' ∧ Has fr' 65 [(0, .int .u16 p0), (9, .str x12), (36, .int .i64 (Int.tmod (IntKind.i64.wrap p2) (5 : Int))), (37, .int .i64 x13)]) ho ⟨x5 ++ x8, (0 : Int), rfl, rfl, H.less _ (fun fr => by kernel_rfl)⟩ ?_
          clear ho hm H
          intro s q fr h1 hI hm
          obtain ⟨x12, x13, rfl, _, H⟩ := hI
          unfold M_boulterlaw01_OctalBlanks_L1 at hm
          refine aw_seq (by kernel_rfl) ?_
          refine aw_reg (id := 11) (n := 1) [(0, [])] (by kernel_rfl) (by kernel_rfl) ?_
          refine at_seg [(0, [])] [(0, .int .u16 p0), (9, .str x12), (36, .int .i64 (Int.tmod (IntKind.i64.wrap p2) (5 : Int))), (37, .int .i64 x13), (38, .bool (decide (x13 < (Int.tmod (IntKind.i64.wrap p2) (5 : Int)))))] H (noU_all rfl) (fun fr => by kernel_rfl) ?_
          intro fr H
          refine at_nil ?_
          show AW cfg 11 (⟨h.size, []⟩ : Gd) (right (left (left (right (left (right (right (right (right (right (right (bodyC cfg.P 11)))))))))))) fr h1 _
          refine aw_seq (by kernel_rfl) ?_
          rcases iteB_some hm with ⟨hb, hm⟩ | ⟨hb, hm⟩
          · rw [hb] at H
            refine aw_true (x := .tmp 38) (by kernel_rfl) H (fun fr => by kernel_rfl) ?_
            refine aw_skip (by kernel_rfl) ?_
            show AW cfg 11 (⟨h.size, []⟩ : Gd) (right (right (left (left (right (left (right (right (right (right (right (right (bodyC cfg.P 11))))))))))))) fr h1 _
            refine aw_seq (by kernel_rfl) ?_
            refine aw_block (id := 3) (by kernel_rfl) ?_
            refine aw_seq (by kernel_rfl) ?_
            refine aw_reg (id := 12) (n := 2) [(0, []), (1, [])] (by kernel_rfl) (by kernel_rfl) ?_
            refine at_seg [(0, []), (1, [])] [(0, .int .u16 p0), (9, .str x12), (10, .int .i64 x13), (36, .int .i64 (Int.tmod (IntKind.i64.wrap p2) (5 : Int))), (37, .int .i64 x13)] H (noU_all rfl) (fun fr => by kernel_rfl) ?_
            intro fr H
            refine at_nil ?_
            show AW cfg 11 (⟨h.size, []⟩ : Gd) (right (left (left (right (right (left (left (right (left (right (right (right (right (right (right (bodyC cfg.P 11)))))))))))))))) fr h1 _
            refine aw_reg (id := 13) (n := 8) [(0, []), (1, []), (2, []), (3, []), (4, []), (5, []), (6, []), (7, [])] (by kernel_rfl) (by kernel_rfl) ?_
            refine at_seg [(0, []), (1, []), (2, [])] [(0, .int .u16 p0), (36, .int .i64 (Int.tmod (IntKind.i64.wrap p2) (5 : Int))), (37, .int .i64 x13), (40, .str x12), (42, .int .i64 (Int.tmod x13 (2 : Int)))] H (noU_all rfl) (fun fr => by kernel_rfl) ?_
            intro fr H
            obtain ⟨x14, hx, hm⟩ := bind_some hm
            refine at_step (v := .int .u8 x14) (h1 := h1) [(0, .int .u16 p0), (36, .int .i64 (Int.tmod (IntKind.i64.wrap p2) (5 : Int))), (37, .int .i64 x13), (40, .str x12), (43, .int .u8 x14)] H (fun fr => by kernel_rfl) (fun fr => .of (s_ixS (by kernel_rfl) hx)) ?_
            intro fr t H
            obtain ⟨h2, hx, hm⟩ := bind_some hm
            refine at_step (v := .slice (some (h1.size, 0)) 1) (h1 := h2) [(0, .int .u16 p0), (36, .int .i64 (Int.tmod (IntKind.i64.wrap p2) (5 : Int))), (37, .int .i64 x13), (40, .str x12), (44, .slice (some (h1.size, 0)) 1)] H (fun fr => by kernel_rfl) (fun fr => .of (s_n' (by kernel_rfl) hx)) ?_
            intro fr t H
            obtain ⟨x15, hx, hm⟩ := bind_some hm
            refine at_step (v := .str x15) (h1 := h2) [(0, .int .u16 p0), (36, .int .i64 (Int.tmod (IntKind.i64.wrap p2) (5 : Int))), (37, .int .i64 x13), (40, .str x12), (45, .str x15)] H (fun fr => by kernel_rfl) (fun fr => .of (s_byL (s := (⟨some (h1.size, 0), 1⟩ : Sl)) (by kernel_rfl) hx)) ?_
            intro fr t H
            obtain ⟨hb, hm⟩ := need_some hm
            refine at_step (v := .str (x12 ++ x15)) (h1 := h2) [(0, .int .u16 p0), (36, .int .i64 (Int.tmod (IntKind.i64.wrap p2) (5 : Int))), (37, .int .i64 x13), (46, .str (x12 ++ x15))] H (fun fr => by kernel_rfl) (fun fr => .of (s_cat (by kernel_rfl) hb)) ?_
            intro fr t H
            refine at_seg [(7, [])] [(0, .int .u16 p0), (9, .str (x12 ++ x15)), (36, .int .i64 (Int.tmod (IntKind.i64.wrap p2) (5 : Int))), (37, .int .i64 x13)] H (noU_all rfl) (fun fr => by kernel_rfl) ?_
            intro fr H
            refine at_nil ?_
            show AW cfg 11 (⟨h.size, []⟩ : Gd) (right (right (right (left (left (right (left (right (right (right (right (right (right (bodyC cfg.P 11)))))))))))))) fr h2 _
            refine aw_reg (id := 14) (n := 2) [(0, []), (1, [])] (by kernel_rfl) (by kernel_rfl) ?_
            refine at_seg [(0, []), (1, [])] [(0, .int .u16 p0), (9, .str (x12 ++ x15)), (36, .int .i64 (Int.tmod (IntKind.i64.wrap p2) (5 : Int))), (37, .int .i64 (IntKind.i64.wrap (x13 + (1 : Int))))] H (noU_all rfl) (fun fr => by kernel_rfl) ?_
            intro fr H
            refine at_nil ?_
            exact Exists.intro (x12 ++ x15, IntKind.i64.wrap (x13 + (1 : Int)), h2) (And.intro (Option.some.inj hm).symm ⟨x12 ++ x15, IntKind.i64.wrap (x13 + (1 : Int)), rfl, rfl, H.less _ (fun fr => by kernel_rfl)⟩)
          · rw [hb] at H
            refine aw_false (x := .tmp 38) (by kernel_rfl) H (fun fr => by kernel_rfl) ?_
            refine aw_exit (i := 2) (by kernel_rfl) ?_
            exact Exists.intro _ (And.intro (Option.some.inj hm).symm (fun e => Or.inl ⟨x12, rfl, e, rfl, H.less _ (fun fr => by kernel_rfl)⟩))
        · clear ho
          intro e fr h3 hQ
          rcases hQ with ⟨x11, rfl, rfl, _, H⟩ | hF
          · skip
            show AW cfg 11 (⟨h.size, []⟩ : Gd) (right (right (right (right (right (right (right (bodyC cfg.P 11)))))))) fr h3 _
            refine aw_seq (by kernel_rfl) ?_
            refine aw_reg (id := 15) (n := 7) [(0, []), (1, []), (2, []), (3, []), (4, []), (5, []), (6, [])] (by kernel_rfl) (by kernel_rfl) ?_
            refine at_seg [(0, [])] [(0, .int .u16 p0), (49, .str x11)] H (noU_all rfl) (fun fr => by kernel_rfl) ?_
            intro fr H
            obtain ⟨⟨x16, x17⟩, hx, hm⟩ := bind_some hm
            refine at_step (v := .tuple [.int .i64 x16, .int .i64 x17]) (h1 := h3) [(0, .int .u16 p0), (50, .tuple [.int .i64 x16, .int .i64 x17])] H (fun fr => by kernel_rfl) (fun fr => Steps.call (by kernel_rfl) (ok_octal_Read hx)) ?_
            intro fr t H
            refine at_seg [(2, []), (3, []), (4, []), (5, []), (6, [])] [(0, .int .u16 p0), (11, .int .i64 x16), (12, .int .i64 x17)] H (noU_all rfl) (fun fr => by kernel_rfl) ?_
            intro fr H
            refine at_nil ?_
            show AW cfg 11 (⟨h.size, []⟩ : Gd) (right (right (right (right (right (right (right (right (bodyC cfg.P 11))))))))) fr h3 _
            refine aw_seq (by kernel_rfl) ?_
            refine aw_reg (id := 16) (n := 13) [(0, []), (1, []), (2, []), (3, []), (4, []), (5, []), (6, []), (7, []), (8, []), (9, []), (10, []), (11, []), (12, [])] (by kernel_rfl) (by kernel_rfl) ?_
            refine at_seg [(0, []), (1, []), (2, []), (3, []), (4, []), (5, [])] [(12, .int .i64 x17), (58, .bool (x16 == (bAnd .i64 (IntKind.i64.wrap p0) (511 : Int))))] H (noU_all rfl) (fun fr => by kernel_rfl) ?_
            intro fr H
            refine at_cut [(6, []), (7, []), (8, [])] (fun fr' h' => h3 = h' ∧ Has fr' 65 [(61, .bool ((x16 == (bAnd .i64 (IntKind.i64.wrap p0) (511 : Int))) && (x17 == (0 : Int))))]) ?_ ?_
            · cases hb : (x16 == (bAnd .i64 (IntKind.i64.wrap p0) (511 : Int)) : Bool) with
              | true =>
                rw [hb] at H
                refine at_seg [(6, []), (7, []), (8, [])] [(61, .bool (x17 == (0 : Int)))] H (noU_all rfl) (fun fr => by kernel_rfl) ?_
                intro fr H
                exact at_nil ⟨rfl, by first | exact H.less _ (fun fr => by rfl) | (rw [hb]; exact H.less _ (fun fr => by rfl))⟩
              | false =>
                rw [hb] at H
                refine at_seg [(6, []), (7, []), (8, [])] [(61, .bool false)] H (noU_all rfl) (fun fr => by kernel_rfl) ?_
                intro fr H
                exact at_nil ⟨rfl, by first | exact H.less _ (fun fr => by rfl) | (rw [hb]; exact H.less _ (fun fr => by rfl))⟩
            · intro t fr h' hK
              obtain ⟨e, H⟩ := hK
              subst e
              refine at_seg [(9, [])] [(62, .bool ((x16 == (bAnd .i64 (IntKind.i64.wrap p0) (511 : Int))) && (x17 == (0 : Int))))] H (noU_all rfl) (fun fr => by kernel_rfl) ?_
              intro fr H
              obtain ⟨x18, ho, hm⟩ := bind_some hm
              refine at_cut [(10, []), (11, [])] (fun fr' h' => h3 = h' ∧ Has fr' 65 [(64, .bool x18)]) ?_ ?_
              · rcases iteB_some ho with ⟨hb, hm⟩ | ⟨hb, hm⟩
                · rw [hb] at H
                  obtain ⟨x19, hx, hm⟩ := bind_some hm
                  refine at_step (v := .bool x19) (h1 := h3) [(62, .bool true), (63, .bool x19)] H (fun fr => by kernel_rfl) (fun fr => Steps.call (by kernel_rfl) (ok_boulterlaw01_awake hx)) ?_
                  intro fr t H
                  refine at_seg [(11, [])] [(64, .bool x19)] H (noU_all rfl) (fun fr => by kernel_rfl) ?_
                  intro fr H
                  have e1 := Option.some.inj hm
                  subst e1
                  exact at_nil ⟨rfl, H.less _ (fun fr => by kernel_rfl)⟩
                · rw [hb] at H
                  refine at_seg [(10, []), (11, [])] [(64, .bool false)] H (noU_all rfl) (fun fr => by kernel_rfl) ?_
                  intro fr H
                  have e1 := Option.some.inj hm
                  subst e1
                  exact at_nil ⟨rfl, H.less _ (fun fr => by kernel_rfl)⟩
              · intro t fr h' hK
                obtain ⟨e, H⟩ := hK
                subst e
                refine at_seg [(12, [])] [(6, .bool x18)] H (noU_all rfl) (fun fr => by kernel_rfl) ?_
                intro fr H
                refine at_nil ?_
                show AW cfg 11 (⟨h.size, []⟩ : Gd) (right (right (right (right (right (right (right (right (right (bodyC cfg.P 11)))))))))) fr h3 _
                refine aw_ret (by kernel_rfl) ?_
                have e1 := Option.some.inj hm
                subst e1
                exact (doneE_of .ret H (fun fr => by kernel_rfl) (.inl rfl) : doneE cfg.P _ _ _ fr _)
          · exact hF.elim
      · exact hF.elim
end Go.Abs.L
