/-
  Models of functions of package ref01, and that the abstract run tells them. Written by lift.py.
-/
import Derived.Test.YtklabpnclemmoaaLCfg
namespace Go.Abs.L
open Go.Abs
set_option linter.unusedVariables false
/-! ### boulter/boulterref01.add -/
noncomputable def M_boulterref01_add (h : AHeap) (p0 : Int) (p1 : Int) (p2 : Int) : Option (Int) :=
 iteB (decide (p0 > (9007199254740991 : Int))) (some p0) (some (IntKind.i64.wrap ((IntKind.i64.wrap (p0 * p1)) + p2)))
theorem ok_boulterref01_add {g : Gd} {h : AHeap} {p0 : Int} {p1 : Int} {p2 : Int} {r0 : Int} (hm : M_boulterref01_add h p0 p1 p2 = some r0) : Runs cfg g h 77 [.int .i64 p0, .int .i64 p1, .int .i64 p2] (.int .i64 r0) h := by
  refine runs2E (by kernel_rfl) (by kernel_rfl) (body_ofE (n := 15) (rs := [.tmp 6]) (by kernel_rfl) ?_)
  unfold M_boulterref01_add at hm
  refine start (n := 15) [(0, .int .i64 p0), (1, .int .i64 p1), (2, .int .i64 p2)] (by kernel_rfl) (by kernel_rfl) ?_
  intro fr H
  refine aw_seq (by kernel_rfl) ?_
  refine aw_reg (id := 0) (n := 1) [(0, [])] (by kernel_rfl) (by kernel_rfl) ?_
  refine at_seg [(0, [])] [(0, .int .i64 p0), (1, .int .i64 p1), (2, .int .i64 p2)] H (noU_all rfl) (fun fr => by kernel_rfl) ?_
  intro fr H
  refine at_nil ?_
  show AW cfg 77 (⟨h.size, []⟩ : Gd) (right (bodyC cfg.P 77)) fr h _
  refine aw_seq (by kernel_rfl) ?_
  refine aw_seq (by kernel_rfl) ?_
  refine aw_reg (id := 1) (n := 2) [(0, []), (1, [])] (by kernel_rfl) (by kernel_rfl) ?_
  refine at_seg [(0, []), (1, [])] [(0, .int .i64 p0), (1, .int .i64 p1), (2, .int .i64 p2), (8, .bool (decide (p0 > (9007199254740991 : Int))))] H (noU_all rfl) (fun fr => by kernel_rfl) ?_
  intro fr H
  refine at_nil ?_
  show AW cfg 77 (⟨h.size, []⟩ : Gd) (right (left (right (bodyC cfg.P 77)))) fr h _
  rcases iteB_some hm with ⟨hb, hm⟩ | ⟨hb, hm⟩
  · replace H := H.know 8 hb (by kernel_rfl)
    refine aw_true (x := .tmp 8) (by kernel_rfl) H (fun fr => by kernel_rfl) ?_
    refine aw_seq (by kernel_rfl) ?_
    refine aw_reg (id := 2) (n := 2) [(0, []), (1, [])] (by kernel_rfl) (by kernel_rfl) ?_
    refine at_seg [(0, []), (1, [])] [(6, .int .i64 p0)] H (noU_all rfl) (fun fr => by kernel_rfl) ?_
    intro fr H
    refine at_nil ?_
    show AW cfg 77 (⟨h.size, []⟩ : Gd) (right (left (right (left (right (bodyC cfg.P 77)))))) fr h _
    refine aw_ret (by kernel_rfl) ?_
    have e1 := Option.some.inj hm
    subst e1
    exact (doneE_of .ret H (fun fr => by kernel_rfl) (.inl rfl) : doneE cfg.P _ _ _ fr _)
  · replace H := H.know 8 hb (by kernel_rfl)
    refine aw_false (x := .tmp 8) (by kernel_rfl) H (fun fr => by kernel_rfl) ?_
    refine aw_skip (by kernel_rfl) ?_
    show AW cfg 77 (⟨h.size, []⟩ : Gd) (right (right (bodyC cfg.P 77))) fr h _
    refine aw_seq (by kernel_rfl) ?_
    refine aw_reg (id := 3) (n := 6) [(0, []), (1, []), (2, []), (3, []), (4, []), (5, [])] (by kernel_rfl) (by kernel_rfl) ?_
    refine at_seg [(0, []), (1, []), (2, []), (3, []), (4, []), (5, [])] [(6, .int .i64 (IntKind.i64.wrap ((IntKind.i64.wrap (p0 * p1)) + p2)))] H (noU_all rfl) (fun fr => by kernel_rfl) ?_
    intro fr H
    refine at_nil ?_
    show AW cfg 77 (⟨h.size, []⟩ : Gd) (right (right (right (bodyC cfg.P 77)))) fr h _
    refine aw_ret (by kernel_rfl) ?_
    have e1 := Option.some.inj hm
    subst e1
    exact (doneE_of .ret H (fun fr => by kernel_rfl) (.inl rfl) : doneE cfg.P _ _ _ fr _)
/-! ### boulter/boulterref01.Read -/
noncomputable def M_boulterref01_Read_L0 (h : AHeap) (p0 : List UInt8) (s : Int × Int) : Option ((Int × Int) ⊕ ((Int))) :=
  match s with
  | (x5, x6) => iteB (decide (x6 < (p0.length : Int))) ((ixS p0 x6).bind fun x7 => (M_boulterref01_add h x5 (256 : Int) (IntKind.i64.wrap x7)).bind fun x8 => some (.inl (x8, IntKind.i64.wrap (x6 + (1 : Int))))) (some (.inr x5))
noncomputable def M_boulterref01_Read_L1 (h : AHeap) (p0 : List UInt8) (s : Int × Int) : Option ((Int × Int) ⊕ ((Int))) :=
  match s with
  | (x13, x14) => iteB (decide (x14 < (p0.length : Int))) ((ixS p0 x14).bind fun x15 => (M_boulterref01_add h x13 (256 : Int) (IntKind.i64.wrap ((255 : Int) - (IntKind.i64.wrap x15)))).bind fun x16 => some (.inl (x16, IntKind.i64.wrap (x14 + (1 : Int))))) (some (.inr x13))
noncomputable def M_boulterref01_Read_L2 (p0 : List UInt8) (s : Int) : Option ((Int) ⊕ ((Int))) :=
  match s with
  | x19 => (iteB (decide (x19 < (p0.length : Int))) ((ixS p0 x19).bind fun x21 => some (x21 == (32 : Int))) (some false) : Option (Bool)).bind fun x20 => iteB x20 (some (.inl (IntKind.i64.wrap (x19 + (1 : Int))))) (some (.inr x19))
noncomputable def M_boulterref01_Read_L3 (h : AHeap) (p0 : List UInt8) (s : Int × Int) : Option ((Int × Int) ⊕ ((Int × Int))) :=
  match s with
  | (x26, x27) => (iteB (decide (x26 < (p0.length : Int))) ((ixS p0 x26).bind fun x29 => some (decide (x29 ≥ (48 : Int)))) (some false) : Option (Bool)).bind fun x28 => (iteB x28 ((ixS p0 x26).bind fun x31 => some (decide (x31 ≤ (55 : Int)))) (some false) : Option (Bool)).bind fun x30 => iteB x30 ((ixS p0 x26).bind fun x32 => (M_boulterref01_add h x27 (8 : Int) (IntKind.i64.wrap ((IntKind.i64.wrap x32) - (48 : Int)))).bind fun x33 => some (.inl (IntKind.i64.wrap (x26 + (1 : Int)), x33))) (some (.inr (x26, x27)))
noncomputable def M_boulterref01_Read_L4 (p0 : List UInt8) (s : Int) : Option ((Int) ⊕ ((Unit) ⊕ (Int × Int))) :=
  match s with
  | x37 => iteB (decide (x37 < (p0.length : Int))) ((ixS p0 x37).bind fun x38 => (iteB (x38 != (32 : Int)) ((ixS p0 x37).bind fun x40 => some (x40 != (0 : Int))) (some false) : Option (Bool)).bind fun x39 => iteB x39 (some (.inr (.inr ((0 : Int), (2 : Int))))) (some (.inl (IntKind.i64.wrap (x37 + (1 : Int)))))) (some (.inr (.inl ())))
noncomputable def M_boulterref01_Read (h : AHeap) (p0 : List UInt8) : Option (Int × Int) :=
 iteB ((decide ((p0.length : Int) < (2 : Int))) || (decide ((p0.length : Int) > (12 : Int)))) (some ((0 : Int), (1 : Int))) ((ixS p0 (0 : Int)).bind fun x1 => iteB (x1 == (128 : Int)) ((loop (M_boulterref01_Read_L0 h p0) ((0 : Int), (1 : Int))).bind fun x4 => iteB (decide (x4 > (9007199254740991 : Int))) (some ((0 : Int), (6 : Int))) (some (x4, (0 : Int)))) ((ixS p0 (0 : Int)).bind fun x9 => iteB (x9 == (255 : Int)) ((loop (M_boulterref01_Read_L1 h p0) ((0 : Int), (1 : Int))).bind fun x12 => iteB (decide ((IntKind.i64.wrap (x12 + (1 : Int))) > (9007199254740991 : Int))) (some ((0 : Int), (6 : Int))) (some (IntKind.i64.wrap ((IntKind.i64.wrap (0 - x12)) - (1 : Int)), (0 : Int)))) ((loop (M_boulterref01_Read_L2 p0) (0 : Int)).bind fun x18 => (loop (M_boulterref01_Read_L3 h p0) (x18, (0 : Int))).bind fun (x24, x25) => (loop (M_boulterref01_Read_L4 p0) x24).bind fun o5 => (match o5 with | .inl _ => iteB (decide (x25 > (9007199254740991 : Int))) (some ((0 : Int), (6 : Int))) (some (x25, (0 : Int))) | .inr (x35, x36) => some (x35, x36)))))
theorem ok_boulterref01_Read {g : Gd} {h : AHeap} {p0 : List UInt8} {r0 : Int} {r1 : Int} (hm : M_boulterref01_Read h p0 = some (r0, r1)) : Runs cfg g h 35 [.str p0] (.tuple [.int .i64 r0, .int .i64 r1]) h := by
  refine runs2E (by kernel_rfl) (by kernel_rfl) (body_ofE (n := 110) (rs := [.tmp 2, .tmp 3]) (by kernel_rfl) ?_)
  unfold M_boulterref01_Read at hm
  refine start (n := 110) [(0, .str p0)] (by kernel_rfl) (by kernel_rfl) ?_
  intro fr H
  refine aw_seq (by kernel_rfl) ?_
  refine aw_reg (id := 0) (n := 2) [(0, []), (1, [])] (by kernel_rfl) (by kernel_rfl) ?_
  refine at_seg [(0, []), (1, [])] [(0, .str p0)] H (noU_all rfl) (fun fr => by kernel_rfl) ?_
  intro fr H
  refine at_nil ?_
  show AW cfg 35 (⟨h.size, []⟩ : Gd) (right (bodyC cfg.P 35)) fr h _
  refine aw_seq (by kernel_rfl) ?_
  refine aw_reg (id := 1) (n := 3) [(0, []), (1, []), (2, [])] (by kernel_rfl) (by kernel_rfl) ?_
  refine at_seg [(0, []), (1, []), (2, [])] [(0, .str p0), (4, .int .i64 (p0.length : Int))] H (noU_all rfl) (fun fr => by kernel_rfl) ?_
  intro fr H
  refine at_nil ?_
  show AW cfg 35 (⟨h.size, []⟩ : Gd) (right (right (bodyC cfg.P 35))) fr h _
  refine aw_seq (by kernel_rfl) ?_
  refine aw_seq (by kernel_rfl) ?_
  refine aw_reg (id := 2) (n := 6) [(0, []), (1, []), (2, []), (3, []), (4, []), (5, [])] (by kernel_rfl) (by kernel_rfl) ?_
  refine at_seg [(0, []), (1, []), (2, [])] [(0, .str p0), (4, .int .i64 (p0.length : Int)), (15, .bool (decide ((p0.length : Int) < (2 : Int))))] H (noU_all rfl) (fun fr => by kernel_rfl) ?_
  intro fr H
  refine at_cut [(3, []), (4, []), (5, [])] (fun fr' h' => h = h' ∧ Has fr' 110 [(0, .str p0), (4, .int .i64 (p0.length : Int)), (18, .bool ((decide ((p0.length : Int) < (2 : Int))) || (decide ((p0.length : Int) > (12 : Int)))))]) ?_ ?_
  · cases hb : (decide ((p0.length : Int) < (2 : Int)) : Bool) with
    | true =>
      replace H := H.know 15 hb (by kernel_rfl)
      refine at_seg [(3, []), (4, []), (5, [])] [(0, .str p0), (4, .int .i64 (p0.length : Int)), (18, .bool true)] H (noU_all rfl) (fun fr => by kernel_rfl) ?_
      intro fr H
      exact at_nil ⟨rfl, by first | exact H.less _ (fun fr => by rfl) | exact H.less _ (fun fr => by rw [hb]; rfl)⟩
    | false =>
      replace H := H.know 15 hb (by kernel_rfl)
      refine at_seg [(3, []), (4, []), (5, [])] [(0, .str p0), (4, .int .i64 (p0.length : Int)), (18, .bool (decide ((p0.length : Int) > (12 : Int))))] H (noU_all rfl) (fun fr => by kernel_rfl) ?_
      intro fr H
      exact at_nil ⟨rfl, by first | exact H.less _ (fun fr => by rfl) | exact H.less _ (fun fr => by rw [hb]; rfl)⟩
  · intro t fr h' hK
    obtain ⟨e, H⟩ := hK
    subst e
    refine at_nil ?_
    show AW cfg 35 (⟨h.size, []⟩ : Gd) (right (left (right (right (bodyC cfg.P 35))))) fr h _
    rcases iteB_some hm with ⟨hb, hm⟩ | ⟨hb, hm⟩
    · replace H := H.know 18 hb (by kernel_rfl)
      refine aw_true (x := .tmp 18) (by kernel_rfl) H (fun fr => by kernel_rfl) ?_
      refine aw_seq (by kernel_rfl) ?_
      refine aw_reg (id := 3) (n := 2) [(0, []), (1, [])] (by kernel_rfl) (by kernel_rfl) ?_
      refine at_seg [(0, []), (1, [])] [(2, .int .i64 (0 : Int)), (3, .int .i64 (1 : Int))] H (noU_all rfl) (fun fr => by kernel_rfl) ?_
      intro fr H
      refine at_nil ?_
      show AW cfg 35 (⟨h.size, []⟩ : Gd) (right (left (right (left (right (right (bodyC cfg.P 35))))))) fr h _
      refine aw_ret (by kernel_rfl) ?_
      have e1 := Option.some.inj hm
      obtain ⟨u0, v0⟩ := Prod.mk.inj e1
      subst u0
      subst v0
      exact (doneE_of .ret H (fun fr => by kernel_rfl) (.inl rfl) : doneE cfg.P _ _ _ fr _)
    · replace H := H.know 18 hb (by kernel_rfl)
      refine aw_false (x := .tmp 18) (by kernel_rfl) H (fun fr => by kernel_rfl) ?_
      refine aw_skip (by kernel_rfl) ?_
      show AW cfg 35 (⟨h.size, []⟩ : Gd) (right (right (right (bodyC cfg.P 35)))) fr h _
      refine aw_seq (by kernel_rfl) ?_
      refine aw_seq (by kernel_rfl) ?_
      refine aw_reg (id := 4) (n := 3) [(0, []), (1, []), (2, [])] (by kernel_rfl) (by kernel_rfl) ?_
      refine at_seg [(0, [])] [(0, .str p0), (4, .int .i64 (p0.length : Int)), (19, .str p0)] H (noU_all rfl) (fun fr => by kernel_rfl) ?_
      intro fr H
      obtain ⟨x1, hx, hm⟩ := bind_some hm
      refine at_step (v := .int .u8 x1) (h1 := h) [(0, .str p0), (4, .int .i64 (p0.length : Int)), (20, .int .u8 x1)] H (fun fr => by kernel_rfl) (fun fr => .of (s_ixS (by kernel_rfl) hx)) ?_
      intro fr t H
      refine at_seg [(2, [])] [(0, .str p0), (4, .int .i64 (p0.length : Int)), (21, .bool (x1 == (128 : Int)))] H (noU_all rfl) (fun fr => by kernel_rfl) ?_
      intro fr H
      refine at_nil ?_
      show AW cfg 35 (⟨h.size, []⟩ : Gd) (right (left (right (right (right (bodyC cfg.P 35)))))) fr h _
      rcases iteB_some hm with ⟨hb, hm⟩ | ⟨hb, hm⟩
      · replace H := H.know 21 hb (by kernel_rfl)
        refine aw_true (x := .tmp 21) (by kernel_rfl) H (fun fr => by kernel_rfl) ?_
        refine aw_seq (by kernel_rfl) ?_
        refine aw_reg (id := 5) (n := 1) [(0, [])] (by kernel_rfl) (by kernel_rfl) ?_
        refine at_seg [(0, [])] [(0, .str p0), (4, .int .i64 (p0.length : Int)), (5, .int .i64 (0 : Int))] H (noU_all rfl) (fun fr => by kernel_rfl) ?_
        intro fr H
        refine at_nil ?_
        show AW cfg 35 (⟨h.size, []⟩ : Gd) (right (left (right (left (right (right (right (bodyC cfg.P 35)))))))) fr h _
        refine aw_seq (by kernel_rfl) ?_
        refine aw_seq (by kernel_rfl) ?_
        refine aw_reg (id := 6) (n := 1) [(0, [])] (by kernel_rfl) (by kernel_rfl) ?_
        refine at_seg [(0, [])] [(0, .str p0), (4, .int .i64 (p0.length : Int)), (5, .int .i64 (0 : Int)), (6, .int .i64 (1 : Int))] H (noU_all rfl) (fun fr => by kernel_rfl) ?_
        intro fr H
        refine at_nil ?_
        show AW cfg 35 (⟨h.size, []⟩ : Gd) (right (left (right (left (right (left (right (right (right (bodyC cfg.P 35)))))))))) fr h _
        refine aw_block (id := 0) (by kernel_rfl) ?_
        obtain ⟨o1, ho, hm⟩ := bind_some hm
        refine aw_mono (Q' := fun e fr' h' => (∃ (x4 : Int), e = .exit 0 ∧ x4 = o1 ∧ h = h' ∧ Has fr' 110 [(5, .int .i64 x4)]) ∨ False) ?_ ?_
        · refine aw_loop (by kernel_rfl) (fun (s : Int × Int) fr' h' => ∃ (x5 : Int) (x6 : Int), (x5, x6) = s ∧ h = h' ∧ Has fr' 110 [(0, .str p0), (4, .int .i64 (p0.length : Int)), (5, .int .i64 x5), (6, .int .i64 x6)]) ho ⟨(0 : Int), (1 : Int), rfl, rfl, H.less _ (fun fr => by kernel_rfl)⟩ ?_
          clear ho hm H
          intro s q fr hz hI hm
          obtain ⟨x5, x6, rfl, rfl, H⟩ := hI
          unfold M_boulterref01_Read_L0 at hm
          refine aw_seq (by kernel_rfl) ?_
          refine aw_seq (by kernel_rfl) ?_
          refine aw_reg (id := 7) (n := 3) [(0, []), (1, []), (2, [])] (by kernel_rfl) (by kernel_rfl) ?_
          refine at_seg [(0, []), (1, []), (2, [])] [(0, .str p0), (4, .int .i64 (p0.length : Int)), (5, .int .i64 x5), (6, .int .i64 x6), (24, .bool (decide (x6 < (p0.length : Int))))] H (noU_all rfl) (fun fr => by kernel_rfl) ?_
          intro fr H
          refine at_nil ?_
          show AW cfg 35 (⟨h.size, []⟩ : Gd) (right (left (left (left (right (left (right (left (right (left (right (right (right (bodyC cfg.P 35)))))))))))))) fr h _
          rcases iteB_some hm with ⟨hb, hm⟩ | ⟨hb, hm⟩
          · replace H := H.know 24 hb (by kernel_rfl)
            refine aw_true (x := .tmp 24) (by kernel_rfl) H (fun fr => by kernel_rfl) ?_
            refine aw_skip (by kernel_rfl) ?_
            show AW cfg 35 (⟨h.size, []⟩ : Gd) (right (left (left (right (left (right (left (right (left (right (right (right (bodyC cfg.P 35))))))))))))) fr h _
            refine aw_seq (by kernel_rfl) ?_
            refine aw_block (id := 1) (by kernel_rfl) ?_
            refine aw_reg (id := 9) (n := 7) [(0, []), (1, []), (2, []), (3, []), (4, []), (5, []), (6, [])] (by kernel_rfl) (by kernel_rfl) ?_
            refine at_seg [(0, []), (1, []), (2, [])] [(0, .str p0), (4, .int .i64 (p0.length : Int)), (6, .int .i64 x6), (27, .int .i64 x5), (28, .str p0), (29, .int .i64 x6)] H (noU_all rfl) (fun fr => by kernel_rfl) ?_
            intro fr H
            obtain ⟨x7, hx, hm⟩ := bind_some hm
            refine at_step (v := .int .u8 x7) (h1 := h) [(0, .str p0), (4, .int .i64 (p0.length : Int)), (6, .int .i64 x6), (27, .int .i64 x5), (30, .int .u8 x7)] H (fun fr => by kernel_rfl) (fun fr => .of (s_ixS (by kernel_rfl) hx)) ?_
            intro fr t H
            refine at_seg [(4, [])] [(0, .str p0), (4, .int .i64 (p0.length : Int)), (6, .int .i64 x6), (27, .int .i64 x5), (31, .int .i64 (IntKind.i64.wrap x7))] H (noU_all rfl) (fun fr => by kernel_rfl) ?_
            intro fr H
            obtain ⟨x8, hx, hm⟩ := bind_some hm
            refine at_step (v := .int .i64 x8) (h1 := h) [(0, .str p0), (4, .int .i64 (p0.length : Int)), (6, .int .i64 x6), (32, .int .i64 x8)] H (fun fr => by kernel_rfl) (fun fr => Steps.call (by kernel_rfl) (ok_boulterref01_add hx)) ?_
            intro fr t H
            refine at_seg [(6, [])] [(0, .str p0), (4, .int .i64 (p0.length : Int)), (5, .int .i64 x8), (6, .int .i64 x6)] H (noU_all rfl) (fun fr => by kernel_rfl) ?_
            intro fr H
            refine at_nil ?_
            show AW cfg 35 (⟨h.size, []⟩ : Gd) (right (right (left (left (right (left (right (left (right (left (right (right (right (bodyC cfg.P 35)))))))))))))) fr h _
            refine aw_reg (id := 8) (n := 3) [(0, []), (1, []), (2, [])] (by kernel_rfl) (by kernel_rfl) ?_
            refine at_seg [(0, []), (1, []), (2, [])] [(0, .str p0), (4, .int .i64 (p0.length : Int)), (5, .int .i64 x8), (6, .int .i64 (IntKind.i64.wrap (x6 + (1 : Int))))] H (noU_all rfl) (fun fr => by kernel_rfl) ?_
            intro fr H
            refine at_nil ?_
            exact Exists.intro (x8, IntKind.i64.wrap (x6 + (1 : Int))) (And.intro (Option.some.inj hm).symm ⟨x8, IntKind.i64.wrap (x6 + (1 : Int)), rfl, rfl, H.less _ (fun fr => by kernel_rfl)⟩)
          · replace H := H.know 24 hb (by kernel_rfl)
            refine aw_false (x := .tmp 24) (by kernel_rfl) H (fun fr => by kernel_rfl) ?_
            refine aw_exit (i := 0) (by kernel_rfl) ?_
            exact Exists.intro _ (And.intro (Option.some.inj hm).symm (fun e => Or.inl ⟨x5, rfl, e, rfl, H.less _ (fun fr => by kernel_rfl)⟩))
        · clear ho
          intro e fr hz hQ
          rcases hQ with ⟨x4, rfl, rfl, rfl, H⟩ | hF
          · skip
            show AW cfg 35 (⟨h.size, []⟩ : Gd) (right (right (left (right (left (right (right (right (bodyC cfg.P 35))))))))) fr h _
            refine aw_seq (by kernel_rfl) ?_
            refine aw_seq (by kernel_rfl) ?_
            refine aw_reg (id := 10) (n := 2) [(0, []), (1, [])] (by kernel_rfl) (by kernel_rfl) ?_
            refine at_seg [(0, []), (1, [])] [(5, .int .i64 x4), (34, .bool (decide (x4 > (9007199254740991 : Int))))] H (noU_all rfl) (fun fr => by kernel_rfl) ?_
            intro fr H
            refine at_nil ?_
            show AW cfg 35 (⟨h.size, []⟩ : Gd) (right (left (right (right (left (right (left (right (right (right (bodyC cfg.P 35))))))))))) fr h _
            rcases iteB_some hm with ⟨hb, hm⟩ | ⟨hb, hm⟩
            · replace H := H.know 34 hb (by kernel_rfl)
              refine aw_true (x := .tmp 34) (by kernel_rfl) H (fun fr => by kernel_rfl) ?_
              refine aw_seq (by kernel_rfl) ?_
              refine aw_reg (id := 11) (n := 2) [(0, []), (1, [])] (by kernel_rfl) (by kernel_rfl) ?_
              refine at_seg [(0, []), (1, [])] [(2, .int .i64 (0 : Int)), (3, .int .i64 (6 : Int))] H (noU_all rfl) (fun fr => by kernel_rfl) ?_
              intro fr H
              refine at_nil ?_
              show AW cfg 35 (⟨h.size, []⟩ : Gd) (right (left (right (left (right (right (left (right (left (right (right (right (bodyC cfg.P 35))))))))))))) fr h _
              refine aw_ret (by kernel_rfl) ?_
              have e1 := Option.some.inj hm
              obtain ⟨u0, v0⟩ := Prod.mk.inj e1
              subst u0
              subst v0
              exact (doneE_of .ret H (fun fr => by kernel_rfl) (.inl rfl) : doneE cfg.P _ _ _ fr _)
            · replace H := H.know 34 hb (by kernel_rfl)
              refine aw_false (x := .tmp 34) (by kernel_rfl) H (fun fr => by kernel_rfl) ?_
              refine aw_skip (by kernel_rfl) ?_
              show AW cfg 35 (⟨h.size, []⟩ : Gd) (right (right (right (left (right (left (right (right (right (bodyC cfg.P 35)))))))))) fr h _
              refine aw_seq (by kernel_rfl) ?_
              refine aw_reg (id := 12) (n := 3) [(0, []), (1, []), (2, [])] (by kernel_rfl) (by kernel_rfl) ?_
              refine at_seg [(0, []), (1, []), (2, [])] [(2, .int .i64 x4), (3, .int .i64 (0 : Int))] H (noU_all rfl) (fun fr => by kernel_rfl) ?_
              intro fr H
              refine at_nil ?_
              show AW cfg 35 (⟨h.size, []⟩ : Gd) (right (right (right (right (left (right (left (right (right (right (bodyC cfg.P 35))))))))))) fr h _
              refine aw_ret (by kernel_rfl) ?_
              have e1 := Option.some.inj hm
              obtain ⟨u0, v0⟩ := Prod.mk.inj e1
              subst u0
              subst v0
              exact (doneE_of .ret H (fun fr => by kernel_rfl) (.inl rfl) : doneE cfg.P _ _ _ fr _)
          · exact hF.elim
      · replace H := H.know 21 hb (by kernel_rfl)
        refine aw_false (x := .tmp 21) (by kernel_rfl) H (fun fr => by kernel_rfl) ?_
        refine aw_skip (by kernel_rfl) ?_
        show AW cfg 35 (⟨h.size, []⟩ : Gd) (right (right (right (right (bodyC cfg.P 35))))) fr h _
        refine aw_seq (by kernel_rfl) ?_
        refine aw_seq (by kernel_rfl) ?_
        refine aw_reg (id := 13) (n := 3) [(0, []), (1, []), (2, [])] (by kernel_rfl) (by kernel_rfl) ?_
        refine at_seg [(0, [])] [(0, .str p0), (4, .int .i64 (p0.length : Int)), (36, .str p0)] H (noU_all rfl) (fun fr => by kernel_rfl) ?_
        intro fr H
        obtain ⟨x9, hx, hm⟩ := bind_some hm
        refine at_step (v := .int .u8 x9) (h1 := h) [(0, .str p0), (4, .int .i64 (p0.length : Int)), (37, .int .u8 x9)] H (fun fr => by kernel_rfl) (fun fr => .of (s_ixS (by kernel_rfl) hx)) ?_
        intro fr t H
        refine at_seg [(2, [])] [(0, .str p0), (4, .int .i64 (p0.length : Int)), (38, .bool (x9 == (255 : Int)))] H (noU_all rfl) (fun fr => by kernel_rfl) ?_
        intro fr H
        refine at_nil ?_
        show AW cfg 35 (⟨h.size, []⟩ : Gd) (right (left (right (right (right (right (bodyC cfg.P 35))))))) fr h _
        rcases iteB_some hm with ⟨hb, hm⟩ | ⟨hb, hm⟩
        · replace H := H.know 38 hb (by kernel_rfl)
          refine aw_true (x := .tmp 38) (by kernel_rfl) H (fun fr => by kernel_rfl) ?_
          refine aw_seq (by kernel_rfl) ?_
          refine aw_reg (id := 14) (n := 1) [(0, [])] (by kernel_rfl) (by kernel_rfl) ?_
          refine at_seg [(0, [])] [(0, .str p0), (4, .int .i64 (p0.length : Int)), (7, .int .i64 (0 : Int))] H (noU_all rfl) (fun fr => by kernel_rfl) ?_
          intro fr H
          refine at_nil ?_
          show AW cfg 35 (⟨h.size, []⟩ : Gd) (right (left (right (left (right (right (right (right (bodyC cfg.P 35))))))))) fr h _
          refine aw_seq (by kernel_rfl) ?_
          refine aw_seq (by kernel_rfl) ?_
          refine aw_reg (id := 15) (n := 1) [(0, [])] (by kernel_rfl) (by kernel_rfl) ?_
          refine at_seg [(0, [])] [(0, .str p0), (4, .int .i64 (p0.length : Int)), (7, .int .i64 (0 : Int)), (8, .int .i64 (1 : Int))] H (noU_all rfl) (fun fr => by kernel_rfl) ?_
          intro fr H
          refine at_nil ?_
          show AW cfg 35 (⟨h.size, []⟩ : Gd) (right (left (right (left (right (left (right (right (right (right (bodyC cfg.P 35))))))))))) fr h _
          refine aw_block (id := 2) (by kernel_rfl) ?_
          obtain ⟨o2, ho, hm⟩ := bind_some hm
          refine aw_mono (Q' := fun e fr' h' => (∃ (x12 : Int), e = .exit 2 ∧ x12 = o2 ∧ h = h' ∧ Has fr' 110 [(7, .int .i64 x12)]) ∨ False) ?_ ?_
          · refine aw_loop (by kernel_rfl) (fun (s : Int × Int) fr' h' => ∃ (x13 : Int) (x14 : Int), (x13, x14) = s ∧ h = h' ∧ Has fr' 110 [(0, .str p0), (4, .int .i64 (p0.length : Int)), (7, .int .i64 x13), (8, .int .i64 x14)]) ho ⟨(0 : Int), (1 : Int), rfl, rfl, H.less _ (fun fr => by kernel_rfl)⟩ ?_
            clear ho hm H
            intro s q fr hz hI hm
            obtain ⟨x13, x14, rfl, rfl, H⟩ := hI
            unfold M_boulterref01_Read_L1 at hm
            refine aw_seq (by kernel_rfl) ?_
            refine aw_seq (by kernel_rfl) ?_
            refine aw_reg (id := 16) (n := 3) [(0, []), (1, []), (2, [])] (by kernel_rfl) (by kernel_rfl) ?_
            refine at_seg [(0, []), (1, []), (2, [])] [(0, .str p0), (4, .int .i64 (p0.length : Int)), (7, .int .i64 x13), (8, .int .i64 x14), (41, .bool (decide (x14 < (p0.length : Int))))] H (noU_all rfl) (fun fr => by kernel_rfl) ?_
            intro fr H
            refine at_nil ?_
            show AW cfg 35 (⟨h.size, []⟩ : Gd) (right (left (left (left (right (left (right (left (right (left (right (right (right (right (bodyC cfg.P 35))))))))))))))) fr h _
            rcases iteB_some hm with ⟨hb, hm⟩ | ⟨hb, hm⟩
            · replace H := H.know 41 hb (by kernel_rfl)
              refine aw_true (x := .tmp 41) (by kernel_rfl) H (fun fr => by kernel_rfl) ?_
              refine aw_skip (by kernel_rfl) ?_
              show AW cfg 35 (⟨h.size, []⟩ : Gd) (right (left (left (right (left (right (left (right (left (right (right (right (right (bodyC cfg.P 35)))))))))))))) fr h _
              refine aw_seq (by kernel_rfl) ?_
              refine aw_block (id := 3) (by kernel_rfl) ?_
              refine aw_reg (id := 18) (n := 8) [(0, []), (1, []), (2, []), (3, []), (4, []), (5, []), (6, []), (7, [])] (by kernel_rfl) (by kernel_rfl) ?_
              refine at_seg [(0, []), (1, []), (2, [])] [(0, .str p0), (4, .int .i64 (p0.length : Int)), (8, .int .i64 x14), (44, .int .i64 x13), (45, .str p0), (46, .int .i64 x14)] H (noU_all rfl) (fun fr => by kernel_rfl) ?_
              intro fr H
              obtain ⟨x15, hx, hm⟩ := bind_some hm
              refine at_step (v := .int .u8 x15) (h1 := h) [(0, .str p0), (4, .int .i64 (p0.length : Int)), (8, .int .i64 x14), (44, .int .i64 x13), (47, .int .u8 x15)] H (fun fr => by kernel_rfl) (fun fr => .of (s_ixS (by kernel_rfl) hx)) ?_
              intro fr t H
              refine at_seg [(4, []), (5, [])] [(0, .str p0), (4, .int .i64 (p0.length : Int)), (8, .int .i64 x14), (44, .int .i64 x13), (49, .int .i64 (IntKind.i64.wrap ((255 : Int) - (IntKind.i64.wrap x15))))] H (noU_all rfl) (fun fr => by kernel_rfl) ?_
              intro fr H
              obtain ⟨x16, hx, hm⟩ := bind_some hm
              refine at_step (v := .int .i64 x16) (h1 := h) [(0, .str p0), (4, .int .i64 (p0.length : Int)), (8, .int .i64 x14), (50, .int .i64 x16)] H (fun fr => by kernel_rfl) (fun fr => Steps.call (by kernel_rfl) (ok_boulterref01_add hx)) ?_
              intro fr t H
              refine at_seg [(7, [])] [(0, .str p0), (4, .int .i64 (p0.length : Int)), (7, .int .i64 x16), (8, .int .i64 x14)] H (noU_all rfl) (fun fr => by kernel_rfl) ?_
              intro fr H
              refine at_nil ?_
              show AW cfg 35 (⟨h.size, []⟩ : Gd) (right (right (left (left (right (left (right (left (right (left (right (right (right (right (bodyC cfg.P 35))))))))))))))) fr h _
              refine aw_reg (id := 17) (n := 3) [(0, []), (1, []), (2, [])] (by kernel_rfl) (by kernel_rfl) ?_
              refine at_seg [(0, []), (1, []), (2, [])] [(0, .str p0), (4, .int .i64 (p0.length : Int)), (7, .int .i64 x16), (8, .int .i64 (IntKind.i64.wrap (x14 + (1 : Int))))] H (noU_all rfl) (fun fr => by kernel_rfl) ?_
              intro fr H
              refine at_nil ?_
              exact Exists.intro (x16, IntKind.i64.wrap (x14 + (1 : Int))) (And.intro (Option.some.inj hm).symm ⟨x16, IntKind.i64.wrap (x14 + (1 : Int)), rfl, rfl, H.less _ (fun fr => by kernel_rfl)⟩)
            · replace H := H.know 41 hb (by kernel_rfl)
              refine aw_false (x := .tmp 41) (by kernel_rfl) H (fun fr => by kernel_rfl) ?_
              refine aw_exit (i := 2) (by kernel_rfl) ?_
              exact Exists.intro _ (And.intro (Option.some.inj hm).symm (fun e => Or.inl ⟨x13, rfl, e, rfl, H.less _ (fun fr => by kernel_rfl)⟩))
          · clear ho
            intro e fr hz hQ
            rcases hQ with ⟨x12, rfl, rfl, rfl, H⟩ | hF
            · skip
              show AW cfg 35 (⟨h.size, []⟩ : Gd) (right (right (left (right (left (right (right (right (right (bodyC cfg.P 35)))))))))) fr h _
              refine aw_seq (by kernel_rfl) ?_
              refine aw_seq (by kernel_rfl) ?_
              refine aw_reg (id := 19) (n := 3) [(0, []), (1, []), (2, [])] (by kernel_rfl) (by kernel_rfl) ?_
              refine at_seg [(0, []), (1, []), (2, [])] [(7, .int .i64 x12), (53, .bool (decide ((IntKind.i64.wrap (x12 + (1 : Int))) > (9007199254740991 : Int))))] H (noU_all rfl) (fun fr => by kernel_rfl) ?_
              intro fr H
              refine at_nil ?_
              show AW cfg 35 (⟨h.size, []⟩ : Gd) (right (left (right (right (left (right (left (right (right (right (right (bodyC cfg.P 35)))))))))))) fr h _
              rcases iteB_some hm with ⟨hb, hm⟩ | ⟨hb, hm⟩
              · replace H := H.know 53 hb (by kernel_rfl)
                refine aw_true (x := .tmp 53) (by kernel_rfl) H (fun fr => by kernel_rfl) ?_
                refine aw_seq (by kernel_rfl) ?_
                refine aw_reg (id := 20) (n := 2) [(0, []), (1, [])] (by kernel_rfl) (by kernel_rfl) ?_
                refine at_seg [(0, []), (1, [])] [(2, .int .i64 (0 : Int)), (3, .int .i64 (6 : Int))] H (noU_all rfl) (fun fr => by kernel_rfl) ?_
                intro fr H
                refine at_nil ?_
                show AW cfg 35 (⟨h.size, []⟩ : Gd) (right (left (right (left (right (right (left (right (left (right (right (right (right (bodyC cfg.P 35)))))))))))))) fr h _
                refine aw_ret (by kernel_rfl) ?_
                have e1 := Option.some.inj hm
                obtain ⟨u0, v0⟩ := Prod.mk.inj e1
                subst u0
                subst v0
                exact (doneE_of .ret H (fun fr => by kernel_rfl) (.inl rfl) : doneE cfg.P _ _ _ fr _)
              · replace H := H.know 53 hb (by kernel_rfl)
                refine aw_false (x := .tmp 53) (by kernel_rfl) H (fun fr => by kernel_rfl) ?_
                refine aw_skip (by kernel_rfl) ?_
                show AW cfg 35 (⟨h.size, []⟩ : Gd) (right (right (right (left (right (left (right (right (right (right (bodyC cfg.P 35))))))))))) fr h _
                refine aw_seq (by kernel_rfl) ?_
                refine aw_reg (id := 21) (n := 5) [(0, []), (1, []), (2, []), (3, []), (4, [])] (by kernel_rfl) (by kernel_rfl) ?_
                refine at_seg [(0, []), (1, []), (2, []), (3, []), (4, [])] [(2, .int .i64 (IntKind.i64.wrap ((IntKind.i64.wrap (0 - x12)) - (1 : Int)))), (3, .int .i64 (0 : Int))] H (noU_all rfl) (fun fr => by kernel_rfl) ?_
                intro fr H
                refine at_nil ?_
                show AW cfg 35 (⟨h.size, []⟩ : Gd) (right (right (right (right (left (right (left (right (right (right (right (bodyC cfg.P 35)))))))))))) fr h _
                refine aw_ret (by kernel_rfl) ?_
                have e1 := Option.some.inj hm
                obtain ⟨u0, v0⟩ := Prod.mk.inj e1
                subst u0
                subst v0
                exact (doneE_of .ret H (fun fr => by kernel_rfl) (.inl rfl) : doneE cfg.P _ _ _ fr _)
            · exact hF.elim
        · replace H := H.know 38 hb (by kernel_rfl)
          refine aw_false (x := .tmp 38) (by kernel_rfl) H (fun fr => by kernel_rfl) ?_
          refine aw_skip (by kernel_rfl) ?_
          show AW cfg 35 (⟨h.size, []⟩ : Gd) (right (right (right (right (right (bodyC cfg.P 35)))))) fr h _
          refine aw_seq (by kernel_rfl) ?_
          refine aw_reg (id := 22) (n := 1) [(0, [])] (by kernel_rfl) (by kernel_rfl) ?_
          refine at_seg [(0, [])] [(0, .str p0), (4, .int .i64 (p0.length : Int)), (9, .int .i64 (0 : Int))] H (noU_all rfl) (fun fr => by kernel_rfl) ?_
          intro fr H
          refine at_nil ?_
          show AW cfg 35 (⟨h.size, []⟩ : Gd) (right (right (right (right (right (right (bodyC cfg.P 35))))))) fr h _
          refine aw_seq (by kernel_rfl) ?_
          refine aw_block (id := 4) (by kernel_rfl) ?_
          obtain ⟨o3, ho, hm⟩ := bind_some hm
          refine aw_mono (Q' := fun e fr' h' => (∃ (x18 : Int), e = .exit 4 ∧ x18 = o3 ∧ h = h' ∧ Has fr' 110 [(0, .str p0), (4, .int .i64 (p0.length : Int)), (9, .int .i64 x18)]) ∨ False) ?_ ?_
          · refine aw_loop (by kernel_rfl) (fun (s : Int) fr' h' => ∃ (x19 : Int), x19 = s ∧ h = h' ∧ Has fr' 110 [(0, .str p0), (4, .int .i64 (p0.length : Int)), (9, .int .i64 x19)]) ho ⟨(0 : Int), rfl, rfl, H.less _ (fun fr => by kernel_rfl)⟩ ?_
            clear ho hm H
            intro s q fr hz hI hm
            obtain ⟨x19, rfl, rfl, H⟩ := hI
            unfold M_boulterref01_Read_L2 at hm
            refine aw_seq (by kernel_rfl) ?_
            refine aw_seq (by kernel_rfl) ?_
            refine aw_reg (id := 23) (n := 9) [(0, []), (1, []), (2, []), (3, []), (4, []), (5, []), (6, []), (7, []), (8, [])] (by kernel_rfl) (by kernel_rfl) ?_
            refine at_seg [(0, []), (1, []), (2, []), (3, [])] [(0, .str p0), (4, .int .i64 (p0.length : Int)), (9, .int .i64 x19), (60, .bool (decide (x19 < (p0.length : Int))))] H (noU_all rfl) (fun fr => by kernel_rfl) ?_
            intro fr H
            obtain ⟨x20, ho, hm⟩ := bind_some hm
            refine at_cut [(4, []), (5, []), (6, []), (7, []), (8, [])] (fun fr' h' => h = h' ∧ Has fr' 110 [(0, .str p0), (4, .int .i64 (p0.length : Int)), (9, .int .i64 x19), (65, .bool x20)]) ?_ ?_
            · rcases iteB_some ho with ⟨hb, hm⟩ | ⟨hb, hm⟩
              · replace H := H.know 60 hb (by kernel_rfl)
                refine at_seg [(4, []), (5, [])] [(0, .str p0), (4, .int .i64 (p0.length : Int)), (9, .int .i64 x19), (60, .bool true), (61, .str p0), (62, .int .i64 x19)] H (noU_all rfl) (fun fr => by kernel_rfl) ?_
                intro fr H
                obtain ⟨x21, hx, hm⟩ := bind_some hm
                refine at_step (v := .int .u8 x21) (h1 := h) [(0, .str p0), (4, .int .i64 (p0.length : Int)), (9, .int .i64 x19), (60, .bool true), (63, .int .u8 x21)] H (fun fr => by kernel_rfl) (fun fr => .of (s_ixS (by kernel_rfl) hx)) ?_
                intro fr t H
                refine at_seg [(7, []), (8, [])] [(0, .str p0), (4, .int .i64 (p0.length : Int)), (9, .int .i64 x19), (65, .bool (x21 == (32 : Int)))] H (noU_all rfl) (fun fr => by kernel_rfl) ?_
                intro fr H
                have e1 := Option.some.inj hm
                subst e1
                exact at_nil ⟨rfl, H.less _ (fun fr => by kernel_rfl)⟩
              · replace H := H.know 60 hb (by kernel_rfl)
                refine at_seg [(4, []), (5, []), (6, []), (7, []), (8, [])] [(0, .str p0), (4, .int .i64 (p0.length : Int)), (9, .int .i64 x19), (65, .bool false)] H (noU_all rfl) (fun fr => by kernel_rfl) ?_
                intro fr H
                have e1 := Option.some.inj hm
                subst e1
                exact at_nil ⟨rfl, H.less _ (fun fr => by kernel_rfl)⟩
            · intro t fr h' hK
              obtain ⟨e, H⟩ := hK
              subst e
              refine at_nil ?_
              show AW cfg 35 (⟨h.size, []⟩ : Gd) (right (left (left (left (left (right (right (right (right (right (right (bodyC cfg.P 35)))))))))))) fr h _
              rcases iteB_some hm with ⟨hb, hm⟩ | ⟨hb, hm⟩
              · replace H := H.know 65 hb (by kernel_rfl)
                refine aw_true (x := .tmp 65) (by kernel_rfl) H (fun fr => by kernel_rfl) ?_
                refine aw_skip (by kernel_rfl) ?_
                show AW cfg 35 (⟨h.size, []⟩ : Gd) (right (left (left (left (right (right (right (right (right (right (bodyC cfg.P 35))))))))))) fr h _
                refine aw_block (id := 5) (by kernel_rfl) ?_
                refine aw_reg (id := 24) (n := 3) [(0, []), (1, []), (2, [])] (by kernel_rfl) (by kernel_rfl) ?_
                refine at_seg [(0, []), (1, []), (2, [])] [(0, .str p0), (4, .int .i64 (p0.length : Int)), (9, .int .i64 (IntKind.i64.wrap (x19 + (1 : Int))))] H (noU_all rfl) (fun fr => by kernel_rfl) ?_
                intro fr H
                refine at_nil ?_
                exact Exists.intro (IntKind.i64.wrap (x19 + (1 : Int))) (And.intro (Option.some.inj hm).symm ⟨IntKind.i64.wrap (x19 + (1 : Int)), rfl, rfl, H.less _ (fun fr => by kernel_rfl)⟩)
              · replace H := H.know 65 hb (by kernel_rfl)
                refine aw_false (x := .tmp 65) (by kernel_rfl) H (fun fr => by kernel_rfl) ?_
                refine aw_exit (i := 4) (by kernel_rfl) ?_
                exact Exists.intro _ (And.intro (Option.some.inj hm).symm (fun e => Or.inl ⟨x19, rfl, e, rfl, H.less _ (fun fr => by kernel_rfl)⟩))
          · clear ho
            intro e fr hz hQ
            rcases hQ with ⟨x18, rfl, rfl, rfl, H⟩ | hF
            · skip
              show AW cfg 35 (⟨h.size, []⟩ : Gd) (right (right (right (right (right (right (right (bodyC cfg.P 35)))))))) fr h _
              refine aw_seq (by kernel_rfl) ?_
              refine aw_reg (id := 25) (n := 1) [(0, [])] (by kernel_rfl) (by kernel_rfl) ?_
              refine at_seg [(0, [])] [(0, .str p0), (4, .int .i64 (p0.length : Int)), (9, .int .i64 x18), (10, .int .i64 (0 : Int))] H (noU_all rfl) (fun fr => by kernel_rfl) ?_
              intro fr H
              refine at_nil ?_
              show AW cfg 35 (⟨h.size, []⟩ : Gd) (right (right (right (right (right (right (right (right (bodyC cfg.P 35))))))))) fr h _
              refine aw_seq (by kernel_rfl) ?_
              refine aw_block (id := 6) (by kernel_rfl) ?_
              obtain ⟨o4, ho, hm⟩ := bind_some hm
              refine aw_mono (Q' := fun e fr' h' => (∃ (x24 : Int) (x25 : Int), e = .exit 6 ∧ (x24, x25) = o4 ∧ h = h' ∧ Has fr' 110 [(0, .str p0), (4, .int .i64 (p0.length : Int)), (9, .int .i64 x24), (10, .int .i64 x25)]) ∨ False) ?_ ?_
              · refine aw_loop (by kernel_rfl) (fun (s : Int × Int) fr' h' => ∃ (x26 : Int) (x27 : Int), (x26, x27) = s ∧ h = h' ∧ Has fr' 110 [(0, .str p0), (4, .int .i64 (p0.length : Int)), (9, .int .i64 x26), (10, .int .i64 x27)]) ho ⟨x18, (0 : Int), rfl, rfl, H.less _ (fun fr => by kernel_rfl)⟩ ?_
                clear ho hm H
                intro s q fr hz hI hm
                obtain ⟨x26, x27, rfl, rfl, H⟩ := hI
                unfold M_boulterref01_Read_L3 at hm
                refine aw_seq (by kernel_rfl) ?_
                refine aw_seq (by kernel_rfl) ?_
                refine aw_reg (id := 26) (n := 15) [(0, []), (1, []), (2, []), (3, []), (4, []), (5, []), (6, []), (7, []), (8, []), (9, []), (10, []), (11, []), (12, []), (13, []), (14, [])] (by kernel_rfl) (by kernel_rfl) ?_
                refine at_seg [(0, []), (1, []), (2, []), (3, [])] [(0, .str p0), (4, .int .i64 (p0.length : Int)), (9, .int .i64 x26), (10, .int .i64 x27), (71, .bool (decide (x26 < (p0.length : Int))))] H (noU_all rfl) (fun fr => by kernel_rfl) ?_
                intro fr H
                obtain ⟨x28, ho, hm⟩ := bind_some hm
                refine at_cut [(4, []), (5, []), (6, []), (7, []), (8, [])] (fun fr' h' => h = h' ∧ Has fr' 110 [(0, .str p0), (4, .int .i64 (p0.length : Int)), (9, .int .i64 x26), (10, .int .i64 x27), (76, .bool x28)]) ?_ ?_
                · rcases iteB_some ho with ⟨hb, hm⟩ | ⟨hb, hm⟩
                  · replace H := H.know 71 hb (by kernel_rfl)
                    refine at_seg [(4, []), (5, [])] [(0, .str p0), (4, .int .i64 (p0.length : Int)), (9, .int .i64 x26), (10, .int .i64 x27), (71, .bool true), (72, .str p0), (73, .int .i64 x26)] H (noU_all rfl) (fun fr => by kernel_rfl) ?_
                    intro fr H
                    obtain ⟨x29, hx, hm⟩ := bind_some hm
                    refine at_step (v := .int .u8 x29) (h1 := h) [(0, .str p0), (4, .int .i64 (p0.length : Int)), (9, .int .i64 x26), (10, .int .i64 x27), (71, .bool true), (74, .int .u8 x29)] H (fun fr => by kernel_rfl) (fun fr => .of (s_ixS (by kernel_rfl) hx)) ?_
                    intro fr t H
                    refine at_seg [(7, []), (8, [])] [(0, .str p0), (4, .int .i64 (p0.length : Int)), (9, .int .i64 x26), (10, .int .i64 x27), (76, .bool (decide (x29 ≥ (48 : Int))))] H (noU_all rfl) (fun fr => by kernel_rfl) ?_
                    intro fr H
                    have e1 := Option.some.inj hm
                    subst e1
                    exact at_nil ⟨rfl, H.less _ (fun fr => by kernel_rfl)⟩
                  · replace H := H.know 71 hb (by kernel_rfl)
                    refine at_seg [(4, []), (5, []), (6, []), (7, []), (8, [])] [(0, .str p0), (4, .int .i64 (p0.length : Int)), (9, .int .i64 x26), (10, .int .i64 x27), (76, .bool false)] H (noU_all rfl) (fun fr => by kernel_rfl) ?_
                    intro fr H
                    have e1 := Option.some.inj hm
                    subst e1
                    exact at_nil ⟨rfl, H.less _ (fun fr => by kernel_rfl)⟩
                · intro t fr h' hK
                  obtain ⟨e, H⟩ := hK
                  subst e
                  refine at_seg [(9, [])] [(0, .str p0), (4, .int .i64 (p0.length : Int)), (9, .int .i64 x26), (10, .int .i64 x27), (77, .bool x28)] H (noU_all rfl) (fun fr => by kernel_rfl) ?_
                  intro fr H
                  obtain ⟨x30, ho, hm⟩ := bind_some hm
                  refine at_cut [(10, []), (11, []), (12, []), (13, []), (14, [])] (fun fr' h' => h = h' ∧ Has fr' 110 [(0, .str p0), (4, .int .i64 (p0.length : Int)), (9, .int .i64 x26), (10, .int .i64 x27), (82, .bool x30)]) ?_ ?_
                  · rcases iteB_some ho with ⟨hb, hm⟩ | ⟨hb, hm⟩
                    · replace H := H.know 77 hb (by kernel_rfl)
                      refine at_seg [(10, []), (11, [])] [(0, .str p0), (4, .int .i64 (p0.length : Int)), (9, .int .i64 x26), (10, .int .i64 x27), (77, .bool true), (78, .str p0), (79, .int .i64 x26)] H (noU_all rfl) (fun fr => by kernel_rfl) ?_
                      intro fr H
                      obtain ⟨x31, hx, hm⟩ := bind_some hm
                      refine at_step (v := .int .u8 x31) (h1 := h) [(0, .str p0), (4, .int .i64 (p0.length : Int)), (9, .int .i64 x26), (10, .int .i64 x27), (77, .bool true), (80, .int .u8 x31)] H (fun fr => by kernel_rfl) (fun fr => .of (s_ixS (by kernel_rfl) hx)) ?_
                      intro fr t H
                      refine at_seg [(13, []), (14, [])] [(0, .str p0), (4, .int .i64 (p0.length : Int)), (9, .int .i64 x26), (10, .int .i64 x27), (82, .bool (decide (x31 ≤ (55 : Int))))] H (noU_all rfl) (fun fr => by kernel_rfl) ?_
                      intro fr H
                      have e1 := Option.some.inj hm
                      subst e1
                      exact at_nil ⟨rfl, H.less _ (fun fr => by kernel_rfl)⟩
                    · replace H := H.know 77 hb (by kernel_rfl)
                      refine at_seg [(10, []), (11, []), (12, []), (13, []), (14, [])] [(0, .str p0), (4, .int .i64 (p0.length : Int)), (9, .int .i64 x26), (10, .int .i64 x27), (82, .bool false)] H (noU_all rfl) (fun fr => by kernel_rfl) ?_
                      intro fr H
                      have e1 := Option.some.inj hm
                      subst e1
                      exact at_nil ⟨rfl, H.less _ (fun fr => by kernel_rfl)⟩
                  · intro t fr h' hK
                    obtain ⟨e, H⟩ := hK
                    subst e
                    refine at_nil ?_
                    show AW cfg 35 (⟨h.size, []⟩ : Gd) (right (left (left (left (left (right (right (right (right (right (right (right (right (bodyC cfg.P 35)))))))))))))) fr h _
                    rcases iteB_some hm with ⟨hb, hm⟩ | ⟨hb, hm⟩
                    · replace H := H.know 82 hb (by kernel_rfl)
                      refine aw_true (x := .tmp 82) (by kernel_rfl) H (fun fr => by kernel_rfl) ?_
                      refine aw_skip (by kernel_rfl) ?_
                      show AW cfg 35 (⟨h.size, []⟩ : Gd) (right (left (left (left (right (right (right (right (right (right (right (right (bodyC cfg.P 35))))))))))))) fr h _
                      refine aw_block (id := 7) (by kernel_rfl) ?_
                      refine aw_seq (by kernel_rfl) ?_
                      refine aw_reg (id := 27) (n := 8) [(0, []), (1, []), (2, []), (3, []), (4, []), (5, []), (6, []), (7, [])] (by kernel_rfl) (by kernel_rfl) ?_
                      refine at_seg [(0, []), (1, []), (2, [])] [(0, .str p0), (4, .int .i64 (p0.length : Int)), (9, .int .i64 x26), (83, .int .i64 x27), (84, .str p0), (85, .int .i64 x26)] H (noU_all rfl) (fun fr => by kernel_rfl) ?_
                      intro fr H
                      obtain ⟨x32, hx, hm⟩ := bind_some hm
                      refine at_step (v := .int .u8 x32) (h1 := h) [(0, .str p0), (4, .int .i64 (p0.length : Int)), (9, .int .i64 x26), (83, .int .i64 x27), (86, .int .u8 x32)] H (fun fr => by kernel_rfl) (fun fr => .of (s_ixS (by kernel_rfl) hx)) ?_
                      intro fr t H
                      refine at_seg [(4, []), (5, [])] [(0, .str p0), (4, .int .i64 (p0.length : Int)), (9, .int .i64 x26), (83, .int .i64 x27), (88, .int .i64 (IntKind.i64.wrap ((IntKind.i64.wrap x32) - (48 : Int))))] H (noU_all rfl) (fun fr => by kernel_rfl) ?_
                      intro fr H
                      obtain ⟨x33, hx, hm⟩ := bind_some hm
                      refine at_step (v := .int .i64 x33) (h1 := h) [(0, .str p0), (4, .int .i64 (p0.length : Int)), (9, .int .i64 x26), (89, .int .i64 x33)] H (fun fr => by kernel_rfl) (fun fr => Steps.call (by kernel_rfl) (ok_boulterref01_add hx)) ?_
                      intro fr t H
                      refine at_seg [(7, [])] [(0, .str p0), (4, .int .i64 (p0.length : Int)), (9, .int .i64 x26), (10, .int .i64 x33)] H (noU_all rfl) (fun fr => by kernel_rfl) ?_
                      intro fr H
                      refine at_nil ?_
                      show AW cfg 35 (⟨h.size, []⟩ : Gd) (right (left (right (left (left (left (right (right (right (right (right (right (right (right (bodyC cfg.P 35))))))))))))))) fr h _
                      refine aw_reg (id := 28) (n := 3) [(0, []), (1, []), (2, [])] (by kernel_rfl) (by kernel_rfl) ?_
                      refine at_seg [(0, []), (1, []), (2, [])] [(0, .str p0), (4, .int .i64 (p0.length : Int)), (9, .int .i64 (IntKind.i64.wrap (x26 + (1 : Int)))), (10, .int .i64 x33)] H (noU_all rfl) (fun fr => by kernel_rfl) ?_
                      intro fr H
                      refine at_nil ?_
                      exact Exists.intro (IntKind.i64.wrap (x26 + (1 : Int)), x33) (And.intro (Option.some.inj hm).symm ⟨IntKind.i64.wrap (x26 + (1 : Int)), x33, rfl, rfl, H.less _ (fun fr => by kernel_rfl)⟩)
                    · replace H := H.know 82 hb (by kernel_rfl)
                      refine aw_false (x := .tmp 82) (by kernel_rfl) H (fun fr => by kernel_rfl) ?_
                      refine aw_exit (i := 6) (by kernel_rfl) ?_
                      exact Exists.intro _ (And.intro (Option.some.inj hm).symm (fun e => Or.inl ⟨x26, x27, rfl, e, rfl, H.less _ (fun fr => by kernel_rfl)⟩))
              · clear ho
                intro e fr hz hQ
                rcases hQ with ⟨x24, x25, rfl, rfl, rfl, H⟩ | hF
                · skip
                  show AW cfg 35 (⟨h.size, []⟩ : Gd) (right (right (right (right (right (right (right (right (right (bodyC cfg.P 35)))))))))) fr h _
                  refine aw_seq (by kernel_rfl) ?_
                  refine aw_block (id := 8) (by kernel_rfl) ?_
                  obtain ⟨o5, ho, hm⟩ := bind_some hm
                  refine aw_mono (Q' := fun e fr' h' => (e = .exit 8 ∧ .inl () = o5 ∧ h = h' ∧ Has fr' 110 [(10, .int .i64 x25)]) ∨ (∃ (x35 : Int) (x36 : Int), e = .ret ∧ .inr (x35, x36) = o5 ∧ h = h' ∧ Has fr' 110 [(2, .int .i64 x35), (3, .int .i64 x36)]) ∨ False) ?_ ?_
                  · refine aw_loop (by kernel_rfl) (fun (s : Int) fr' h' => ∃ (x37 : Int), x37 = s ∧ h = h' ∧ Has fr' 110 [(0, .str p0), (4, .int .i64 (p0.length : Int)), (9, .int .i64 x37), (10, .int .i64 x25)]) ho ⟨x24, rfl, rfl, H.less _ (fun fr => by kernel_rfl)⟩ ?_
                    clear ho hm H
                    intro s q fr hz hI hm
                    obtain ⟨x37, rfl, rfl, H⟩ := hI
                    unfold M_boulterref01_Read_L4 at hm
                    refine aw_seq (by kernel_rfl) ?_
                    refine aw_seq (by kernel_rfl) ?_
                    refine aw_reg (id := 29) (n := 3) [(0, []), (1, []), (2, [])] (by kernel_rfl) (by kernel_rfl) ?_
                    refine at_seg [(0, []), (1, []), (2, [])] [(0, .str p0), (4, .int .i64 (p0.length : Int)), (9, .int .i64 x37), (10, .int .i64 x25), (94, .bool (decide (x37 < (p0.length : Int))))] H (noU_all rfl) (fun fr => by kernel_rfl) ?_
                    intro fr H
                    refine at_nil ?_
                    show AW cfg 35 (⟨h.size, []⟩ : Gd) (right (left (left (left (left (right (right (right (right (right (right (right (right (right (bodyC cfg.P 35))))))))))))))) fr h _
                    rcases iteB_some hm with ⟨hb, hm⟩ | ⟨hb, hm⟩
                    · replace H := H.know 94 hb (by kernel_rfl)
                      refine aw_true (x := .tmp 94) (by kernel_rfl) H (fun fr => by kernel_rfl) ?_
                      refine aw_skip (by kernel_rfl) ?_
                      show AW cfg 35 (⟨h.size, []⟩ : Gd) (right (left (left (left (right (right (right (right (right (right (right (right (right (bodyC cfg.P 35)))))))))))))) fr h _
                      refine aw_block (id := 9) (by kernel_rfl) ?_
                      refine aw_seq (by kernel_rfl) ?_
                      refine aw_seq (by kernel_rfl) ?_
                      refine aw_reg (id := 30) (n := 10) [(0, []), (1, []), (2, []), (3, []), (4, []), (5, []), (6, []), (7, []), (8, []), (9, [])] (by kernel_rfl) (by kernel_rfl) ?_
                      refine at_seg [(0, []), (1, [])] [(0, .str p0), (4, .int .i64 (p0.length : Int)), (9, .int .i64 x37), (10, .int .i64 x25), (95, .str p0), (96, .int .i64 x37)] H (noU_all rfl) (fun fr => by kernel_rfl) ?_
                      intro fr H
                      obtain ⟨x38, hx, hm⟩ := bind_some hm
                      refine at_step (v := .int .u8 x38) (h1 := h) [(0, .str p0), (4, .int .i64 (p0.length : Int)), (9, .int .i64 x37), (10, .int .i64 x25), (97, .int .u8 x38)] H (fun fr => by kernel_rfl) (fun fr => .of (s_ixS (by kernel_rfl) hx)) ?_
                      intro fr t H
                      refine at_seg [(3, []), (4, [])] [(0, .str p0), (4, .int .i64 (p0.length : Int)), (9, .int .i64 x37), (10, .int .i64 x25), (99, .bool (x38 != (32 : Int)))] H (noU_all rfl) (fun fr => by kernel_rfl) ?_
                      intro fr H
                      obtain ⟨x39, ho, hm⟩ := bind_some hm
                      refine at_cut [(5, []), (6, []), (7, []), (8, []), (9, [])] (fun fr' h' => h = h' ∧ Has fr' 110 [(0, .str p0), (4, .int .i64 (p0.length : Int)), (9, .int .i64 x37), (10, .int .i64 x25), (104, .bool x39)]) ?_ ?_
                      · rcases iteB_some ho with ⟨hb, hm⟩ | ⟨hb, hm⟩
                        · replace H := H.know 99 hb (by kernel_rfl)
                          refine at_seg [(5, []), (6, [])] [(0, .str p0), (4, .int .i64 (p0.length : Int)), (9, .int .i64 x37), (10, .int .i64 x25), (99, .bool true), (100, .str p0), (101, .int .i64 x37)] H (noU_all rfl) (fun fr => by kernel_rfl) ?_
                          intro fr H
                          obtain ⟨x40, hx, hm⟩ := bind_some hm
                          refine at_step (v := .int .u8 x40) (h1 := h) [(0, .str p0), (4, .int .i64 (p0.length : Int)), (9, .int .i64 x37), (10, .int .i64 x25), (99, .bool true), (102, .int .u8 x40)] H (fun fr => by kernel_rfl) (fun fr => .of (s_ixS (by kernel_rfl) hx)) ?_
                          intro fr t H
                          refine at_seg [(8, []), (9, [])] [(0, .str p0), (4, .int .i64 (p0.length : Int)), (9, .int .i64 x37), (10, .int .i64 x25), (104, .bool (x40 != (0 : Int)))] H (noU_all rfl) (fun fr => by kernel_rfl) ?_
                          intro fr H
                          have e1 := Option.some.inj hm
                          subst e1
                          exact at_nil ⟨rfl, H.less _ (fun fr => by kernel_rfl)⟩
                        · replace H := H.know 99 hb (by kernel_rfl)
                          refine at_seg [(5, []), (6, []), (7, []), (8, []), (9, [])] [(0, .str p0), (4, .int .i64 (p0.length : Int)), (9, .int .i64 x37), (10, .int .i64 x25), (104, .bool false)] H (noU_all rfl) (fun fr => by kernel_rfl) ?_
                          intro fr H
                          have e1 := Option.some.inj hm
                          subst e1
                          exact at_nil ⟨rfl, H.less _ (fun fr => by kernel_rfl)⟩
                      · intro t fr h' hK
                        obtain ⟨e, H⟩ := hK
                        subst e
                        refine at_nil ?_
                        show AW cfg 35 (⟨h.size, []⟩ : Gd) (right (left (left (right (left (left (left (right (right (right (right (right (right (right (right (right (bodyC cfg.P 35))))))))))))))))) fr h _
                        rcases iteB_some hm with ⟨hb, hm⟩ | ⟨hb, hm⟩
                        · replace H := H.know 104 hb (by kernel_rfl)
                          refine aw_true (x := .tmp 104) (by kernel_rfl) H (fun fr => by kernel_rfl) ?_
                          refine aw_seq (by kernel_rfl) ?_
                          refine aw_reg (id := 31) (n := 2) [(0, []), (1, [])] (by kernel_rfl) (by kernel_rfl) ?_
                          refine at_seg [(0, []), (1, [])] [(2, .int .i64 (0 : Int)), (3, .int .i64 (2 : Int))] H (noU_all rfl) (fun fr => by kernel_rfl) ?_
                          intro fr H
                          refine at_nil ?_
                          show AW cfg 35 (⟨h.size, []⟩ : Gd) (right (left (right (left (left (right (left (left (left (right (right (right (right (right (right (right (right (right (bodyC cfg.P 35))))))))))))))))))) fr h _
                          refine aw_ret (by kernel_rfl) ?_
                          exact Exists.intro _ (And.intro (Option.some.inj hm).symm (fun e => Or.inr (Or.inl ⟨(0 : Int), (2 : Int), rfl, e, rfl, H.less _ (fun fr => by kernel_rfl)⟩)))
                        · replace H := H.know 104 hb (by kernel_rfl)
                          refine aw_false (x := .tmp 104) (by kernel_rfl) H (fun fr => by kernel_rfl) ?_
                          refine aw_skip (by kernel_rfl) ?_
                          show AW cfg 35 (⟨h.size, []⟩ : Gd) (right (left (right (left (left (left (right (right (right (right (right (right (right (right (right (bodyC cfg.P 35)))))))))))))))) fr h _
                          refine aw_reg (id := 32) (n := 3) [(0, []), (1, []), (2, [])] (by kernel_rfl) (by kernel_rfl) ?_
                          refine at_seg [(0, []), (1, []), (2, [])] [(0, .str p0), (4, .int .i64 (p0.length : Int)), (9, .int .i64 (IntKind.i64.wrap (x37 + (1 : Int)))), (10, .int .i64 x25)] H (noU_all rfl) (fun fr => by kernel_rfl) ?_
                          intro fr H
                          refine at_nil ?_
                          exact Exists.intro (IntKind.i64.wrap (x37 + (1 : Int))) (And.intro (Option.some.inj hm).symm ⟨IntKind.i64.wrap (x37 + (1 : Int)), rfl, rfl, H.less _ (fun fr => by kernel_rfl)⟩)
                    · replace H := H.know 94 hb (by kernel_rfl)
                      refine aw_false (x := .tmp 94) (by kernel_rfl) H (fun fr => by kernel_rfl) ?_
                      refine aw_exit (i := 8) (by kernel_rfl) ?_
                      exact Exists.intro _ (And.intro (Option.some.inj hm).symm (fun e => Or.inl ⟨rfl, e, rfl, H.less _ (fun fr => by kernel_rfl)⟩))
                  · clear ho
                    intro e fr hz hQ
                    rcases hQ with ⟨rfl, rfl, rfl, H⟩ | ⟨x35, x36, rfl, rfl, rfl, H⟩ | hF
                    · skip
                      show AW cfg 35 (⟨h.size, []⟩ : Gd) (right (right (right (right (right (right (right (right (right (right (bodyC cfg.P 35))))))))))) fr h _
                      refine aw_seq (by kernel_rfl) ?_
                      refine aw_seq (by kernel_rfl) ?_
                      refine aw_reg (id := 33) (n := 2) [(0, []), (1, [])] (by kernel_rfl) (by kernel_rfl) ?_
                      refine at_seg [(0, []), (1, [])] [(10, .int .i64 x25), (108, .bool (decide (x25 > (9007199254740991 : Int))))] H (noU_all rfl) (fun fr => by kernel_rfl) ?_
                      intro fr H
                      refine at_nil ?_
                      show AW cfg 35 (⟨h.size, []⟩ : Gd) (right (left (right (right (right (right (right (right (right (right (right (right (bodyC cfg.P 35))))))))))))) fr h _
                      rcases iteB_some hm with ⟨hb, hm⟩ | ⟨hb, hm⟩
                      · replace H := H.know 108 hb (by kernel_rfl)
                        refine aw_true (x := .tmp 108) (by kernel_rfl) H (fun fr => by kernel_rfl) ?_
                        refine aw_seq (by kernel_rfl) ?_
                        refine aw_reg (id := 34) (n := 2) [(0, []), (1, [])] (by kernel_rfl) (by kernel_rfl) ?_
                        refine at_seg [(0, []), (1, [])] [(2, .int .i64 (0 : Int)), (3, .int .i64 (6 : Int))] H (noU_all rfl) (fun fr => by kernel_rfl) ?_
                        intro fr H
                        refine at_nil ?_
                        show AW cfg 35 (⟨h.size, []⟩ : Gd) (right (left (right (left (right (right (right (right (right (right (right (right (right (right (bodyC cfg.P 35))))))))))))))) fr h _
                        refine aw_ret (by kernel_rfl) ?_
                        have e1 := Option.some.inj hm
                        obtain ⟨u0, v0⟩ := Prod.mk.inj e1
                        subst u0
                        subst v0
                        exact (doneE_of .ret H (fun fr => by kernel_rfl) (.inl rfl) : doneE cfg.P _ _ _ fr _)
                      · replace H := H.know 108 hb (by kernel_rfl)
                        refine aw_false (x := .tmp 108) (by kernel_rfl) H (fun fr => by kernel_rfl) ?_
                        refine aw_skip (by kernel_rfl) ?_
                        show AW cfg 35 (⟨h.size, []⟩ : Gd) (right (right (right (right (right (right (right (right (right (right (right (bodyC cfg.P 35)))))))))))) fr h _
                        refine aw_seq (by kernel_rfl) ?_
                        refine aw_reg (id := 35) (n := 3) [(0, []), (1, []), (2, [])] (by kernel_rfl) (by kernel_rfl) ?_
                        refine at_seg [(0, []), (1, []), (2, [])] [(2, .int .i64 x25), (3, .int .i64 (0 : Int))] H (noU_all rfl) (fun fr => by kernel_rfl) ?_
                        intro fr H
                        refine at_nil ?_
                        show AW cfg 35 (⟨h.size, []⟩ : Gd) (right (right (right (right (right (right (right (right (right (right (right (right (bodyC cfg.P 35))))))))))))) fr h _
                        refine aw_ret (by kernel_rfl) ?_
                        have e1 := Option.some.inj hm
                        obtain ⟨u0, v0⟩ := Prod.mk.inj e1
                        subst u0
                        subst v0
                        exact (doneE_of .ret H (fun fr => by kernel_rfl) (.inl rfl) : doneE cfg.P _ _ _ fr _)
                    · skip
                      have e1 := Option.some.inj hm
                      obtain ⟨u0, v0⟩ := Prod.mk.inj e1
                      subst u0
                      subst v0
                      exact (doneE_of .ret H (fun fr => by kernel_rfl) (.inl rfl) : doneE cfg.P _ _ _ fr _)
                    · exact hF.elim
                · exact hF.elim
            · exact hF.elim
/-! ### boulter/boulterref01.power -/
noncomputable def M_boulterref01_power_L0 (p0 : Int) (p1 : Int) (s : Int × Int) : Option ((Int × Int) ⊕ ((Int))) :=
  match s with
  | (x4, x5) => iteB ((decide (x5 < p1)) && (decide (x4 < (18014398509481984 : Int)))) (some (.inl (IntKind.i64.wrap (x4 * p0), IntKind.i64.wrap (x5 + (1 : Int))))) (some (.inr x4))
noncomputable def M_boulterref01_power (h : AHeap) (p0 : Int) (p1 : Int) : Option (Int) :=
 (loop (M_boulterref01_power_L0 p0 p1) ((1 : Int), (0 : Int))).bind fun x3 => some x3
theorem ok_boulterref01_power {g : Gd} {h : AHeap} {p0 : Int} {p1 : Int} {r0 : Int} (hm : M_boulterref01_power h p0 p1 = some r0) : Runs cfg g h 78 [.int .i64 p0, .int .i64 p1] (.int .i64 r0) h := by
  refine runs2E (by kernel_rfl) (by kernel_rfl) (body_ofE (n := 20) (rs := [.tmp 4]) (by kernel_rfl) ?_)
  unfold M_boulterref01_power at hm
  refine start (n := 20) [(0, .int .i64 p0), (1, .int .i64 p1)] (by kernel_rfl) (by kernel_rfl) ?_
  intro fr H
  refine aw_seq (by kernel_rfl) ?_
  refine aw_reg (id := 0) (n := 1) [(0, [])] (by kernel_rfl) (by kernel_rfl) ?_
  refine at_seg [(0, [])] [(0, .int .i64 p0), (1, .int .i64 p1)] H (noU_all rfl) (fun fr => by kernel_rfl) ?_
  intro fr H
  refine at_nil ?_
  show AW cfg 78 (⟨h.size, []⟩ : Gd) (right (bodyC cfg.P 78)) fr h _
  refine aw_seq (by kernel_rfl) ?_
  refine aw_reg (id := 1) (n := 1) [(0, [])] (by kernel_rfl) (by kernel_rfl) ?_
  refine at_seg [(0, [])] [(0, .int .i64 p0), (1, .int .i64 p1), (5, .int .i64 (1 : Int))] H (noU_all rfl) (fun fr => by kernel_rfl) ?_
  intro fr H
  refine at_nil ?_
  show AW cfg 78 (⟨h.size, []⟩ : Gd) (right (right (bodyC cfg.P 78))) fr h _
  refine aw_seq (by kernel_rfl) ?_
  refine aw_seq (by kernel_rfl) ?_
  refine aw_reg (id := 2) (n := 1) [(0, [])] (by kernel_rfl) (by kernel_rfl) ?_
  refine at_seg [(0, [])] [(0, .int .i64 p0), (1, .int .i64 p1), (5, .int .i64 (1 : Int)), (6, .int .i64 (0 : Int))] H (noU_all rfl) (fun fr => by kernel_rfl) ?_
  intro fr H
  refine at_nil ?_
  show AW cfg 78 (⟨h.size, []⟩ : Gd) (right (left (right (right (bodyC cfg.P 78))))) fr h _
  refine aw_block (id := 0) (by kernel_rfl) ?_
  obtain ⟨o1, ho, hm⟩ := bind_some hm
  refine aw_mono (Q' := fun e fr' h' => (∃ (x3 : Int), e = .exit 0 ∧ x3 = o1 ∧ h = h' ∧ Has fr' 20 [(5, .int .i64 x3)]) ∨ False) ?_ ?_
  · refine aw_loop (by kernel_rfl) (fun (s : Int × Int) fr' h' => ∃ (x4 : Int) (x5 : Int), (x4, x5) = s ∧ h = h' ∧ Has fr' 20 [(0, .int .i64 p0), (1, .int .i64 p1), (5, .int .i64 x4), (6, .int .i64 x5)]) ho ⟨(1 : Int), (0 : Int), rfl, rfl, H.less _ (fun fr => by kernel_rfl)⟩ ?_
    clear ho hm H
    intro s q fr hz hI hm
    obtain ⟨x4, x5, rfl, rfl, H⟩ := hI
    unfold M_boulterref01_power_L0 at hm
    refine aw_seq (by kernel_rfl) ?_
    refine aw_seq (by kernel_rfl) ?_
    refine aw_reg (id := 3) (n := 7) [(0, []), (1, []), (2, []), (3, []), (4, []), (5, []), (6, [])] (by kernel_rfl) (by kernel_rfl) ?_
    refine at_seg [(0, []), (1, []), (2, []), (3, [])] [(0, .int .i64 p0), (1, .int .i64 p1), (5, .int .i64 x4), (6, .int .i64 x5), (10, .bool (decide (x5 < p1)))] H (noU_all rfl) (fun fr => by kernel_rfl) ?_
    intro fr H
    refine at_cut [(4, []), (5, []), (6, [])] (fun fr' h' => h = h' ∧ Has fr' 20 [(0, .int .i64 p0), (1, .int .i64 p1), (5, .int .i64 x4), (6, .int .i64 x5), (13, .bool ((decide (x5 < p1)) && (decide (x4 < (18014398509481984 : Int)))))]) ?_ ?_
    · cases hb : (decide (x5 < p1) : Bool) with
      | true =>
        replace H := H.know 10 hb (by kernel_rfl)
        refine at_seg [(4, []), (5, []), (6, [])] [(0, .int .i64 p0), (1, .int .i64 p1), (5, .int .i64 x4), (6, .int .i64 x5), (13, .bool (decide (x4 < (18014398509481984 : Int))))] H (noU_all rfl) (fun fr => by kernel_rfl) ?_
        intro fr H
        exact at_nil ⟨rfl, by first | exact H.less _ (fun fr => by rfl) | exact H.less _ (fun fr => by rw [hb]; rfl)⟩
      | false =>
        replace H := H.know 10 hb (by kernel_rfl)
        refine at_seg [(4, []), (5, []), (6, [])] [(0, .int .i64 p0), (1, .int .i64 p1), (5, .int .i64 x4), (6, .int .i64 x5), (13, .bool false)] H (noU_all rfl) (fun fr => by kernel_rfl) ?_
        intro fr H
        exact at_nil ⟨rfl, by first | exact H.less _ (fun fr => by rfl) | exact H.less _ (fun fr => by rw [hb]; rfl)⟩
    · intro t fr h' hK
      obtain ⟨e, H⟩ := hK
      subst e
      refine at_nil ?_
      show AW cfg 78 (⟨h.size, []⟩ : Gd) (right (left (left (left (right (left (right (right (bodyC cfg.P 78))))))))) fr h _
      rcases iteB_some hm with ⟨hb, hm⟩ | ⟨hb, hm⟩
      · replace H := H.know 13 hb (by kernel_rfl)
        refine aw_true (x := .tmp 13) (by kernel_rfl) H (fun fr => by kernel_rfl) ?_
        refine aw_skip (by kernel_rfl) ?_
        show AW cfg 78 (⟨h.size, []⟩ : Gd) (right (left (left (right (left (right (right (bodyC cfg.P 78)))))))) fr h _
        refine aw_seq (by kernel_rfl) ?_
        refine aw_block (id := 1) (by kernel_rfl) ?_
        refine aw_reg (id := 5) (n := 4) [(0, []), (1, []), (2, []), (3, [])] (by kernel_rfl) (by kernel_rfl) ?_
        refine at_seg [(0, []), (1, []), (2, []), (3, [])] [(0, .int .i64 p0), (1, .int .i64 p1), (5, .int .i64 (IntKind.i64.wrap (x4 * p0))), (6, .int .i64 x5)] H (noU_all rfl) (fun fr => by kernel_rfl) ?_
        intro fr H
        refine at_nil ?_
        show AW cfg 78 (⟨h.size, []⟩ : Gd) (right (right (left (left (right (left (right (right (bodyC cfg.P 78))))))))) fr h _
        refine aw_reg (id := 4) (n := 3) [(0, []), (1, []), (2, [])] (by kernel_rfl) (by kernel_rfl) ?_
        refine at_seg [(0, []), (1, []), (2, [])] [(0, .int .i64 p0), (1, .int .i64 p1), (5, .int .i64 (IntKind.i64.wrap (x4 * p0))), (6, .int .i64 (IntKind.i64.wrap (x5 + (1 : Int))))] H (noU_all rfl) (fun fr => by kernel_rfl) ?_
        intro fr H
        refine at_nil ?_
        exact Exists.intro (IntKind.i64.wrap (x4 * p0), IntKind.i64.wrap (x5 + (1 : Int))) (And.intro (Option.some.inj hm).symm ⟨IntKind.i64.wrap (x4 * p0), IntKind.i64.wrap (x5 + (1 : Int)), rfl, rfl, H.less _ (fun fr => by kernel_rfl)⟩)
      · replace H := H.know 13 hb (by kernel_rfl)
        refine aw_false (x := .tmp 13) (by kernel_rfl) H (fun fr => by kernel_rfl) ?_
        refine aw_exit (i := 0) (by kernel_rfl) ?_
        exact Exists.intro _ (And.intro (Option.some.inj hm).symm (fun e => Or.inl ⟨x4, rfl, e, rfl, H.less _ (fun fr => by kernel_rfl)⟩))
  · clear ho
    intro e fr hz hQ
    rcases hQ with ⟨x3, rfl, rfl, rfl, H⟩ | hF
    · skip
      show AW cfg 78 (⟨h.size, []⟩ : Gd) (right (right (right (bodyC cfg.P 78)))) fr h _
      refine aw_seq (by kernel_rfl) ?_
      refine aw_reg (id := 6) (n := 2) [(0, []), (1, [])] (by kernel_rfl) (by kernel_rfl) ?_
      refine at_seg [(0, []), (1, [])] [(4, .int .i64 x3)] H (noU_all rfl) (fun fr => by kernel_rfl) ?_
      intro fr H
      refine at_nil ?_
      show AW cfg 78 (⟨h.size, []⟩ : Gd) (right (right (right (right (bodyC cfg.P 78))))) fr h _
      refine aw_ret (by kernel_rfl) ?_
      have e1 := Option.some.inj hm
      subst e1
      exact (doneE_of .ret H (fun fr => by kernel_rfl) (.inl rfl) : doneE cfg.P _ _ _ fr _)
    · exact hF.elim
/-! ### boulter/boulterref01.Octal -/
noncomputable def M_boulterref01_Octal_L0 (p1 : Int) (s : Int × (List UInt8) × Int) : Option ((Int × (List UInt8) × Int) ⊕ (((List UInt8)))) :=
  match s with
  | (x7, x8, x9) => iteB (decide (x9 < p1)) ((subS ([48, 49, 50, 51, 52, 53, 54, 55] : List UInt8) (some (Int.tmod x7 (8 : Int))) (some (IntKind.i64.wrap ((Int.tmod x7 (8 : Int)) + (1 : Int))))).bind fun x10 => need (decide (x10.length + x8.length ≤ 9223372036854775807)) <| some (.inl (IntKind.i64.wrap (Int.tdiv x7 (8 : Int)), x10 ++ x8, IntKind.i64.wrap (x9 + (1 : Int))))) (some (.inr x8))
noncomputable def M_boulterref01_Octal (h : AHeap) (p0 : Int) (p1 : Int) : Option ((List UInt8) × Bool) :=
 (iteB (((decide (p1 < (2 : Int))) || (decide (p1 > (12 : Int)))) || (decide (p0 < (0 : Int)))) (some true) ((M_boulterref01_power h (8 : Int) (IntKind.i64.wrap (p1 - (1 : Int)))).bind fun x2 => some (decide (p0 ≥ x2))) : Option (Bool)).bind fun x1 => iteB x1 (some (([] : List UInt8), false)) ((loop (M_boulterref01_Octal_L0 p1) (p0, ([0] : List UInt8), (1 : Int))).bind fun x6 => some (x6, true))
theorem ok_boulterref01_Octal {g : Gd} {h : AHeap} {p0 : Int} {p1 : Int} {r0 : List UInt8} {r1 : Bool} (hm : M_boulterref01_Octal h p0 p1 = some (r0, r1)) : Runs cfg g h 39 [.int .i64 p0, .int .i64 p1] (.tuple [.str r0, .bool r1]) h := by
  refine runs2E (by kernel_rfl) (by kernel_rfl) (body_ofE (n := 41) (rs := [.tmp 4, .tmp 5]) (by kernel_rfl) ?_)
  unfold M_boulterref01_Octal at hm
  refine start (n := 41) [(0, .int .i64 p0), (1, .int .i64 p1)] (by kernel_rfl) (by kernel_rfl) ?_
  intro fr H
  refine aw_seq (by kernel_rfl) ?_
  refine aw_reg (id := 0) (n := 2) [(0, []), (1, [])] (by kernel_rfl) (by kernel_rfl) ?_
  refine at_seg [(0, []), (1, [])] [(0, .int .i64 p0), (1, .int .i64 p1)] H (noU_all rfl) (fun fr => by kernel_rfl) ?_
  intro fr H
  refine at_nil ?_
  show AW cfg 39 (⟨h.size, []⟩ : Gd) (right (bodyC cfg.P 39)) fr h _
  refine aw_seq (by kernel_rfl) ?_
  refine aw_seq (by kernel_rfl) ?_
  refine aw_reg (id := 1) (n := 17) [(0, []), (1, []), (2, []), (3, []), (4, []), (5, []), (6, []), (7, []), (8, []), (9, []), (10, []), (11, []), (12, []), (13, []), (14, []), (15, []), (16, [])] (by kernel_rfl) (by kernel_rfl) ?_
  refine at_seg [(0, []), (1, []), (2, [])] [(0, .int .i64 p0), (1, .int .i64 p1), (10, .bool (decide (p1 < (2 : Int))))] H (noU_all rfl) (fun fr => by kernel_rfl) ?_
  intro fr H
  refine at_cut [(3, []), (4, []), (5, [])] (fun fr' h' => h = h' ∧ Has fr' 41 [(0, .int .i64 p0), (1, .int .i64 p1), (13, .bool ((decide (p1 < (2 : Int))) || (decide (p1 > (12 : Int)))))]) ?_ ?_
  · cases hb : (decide (p1 < (2 : Int)) : Bool) with
    | true =>
      replace H := H.know 10 hb (by kernel_rfl)
      refine at_seg [(3, []), (4, []), (5, [])] [(0, .int .i64 p0), (1, .int .i64 p1), (13, .bool true)] H (noU_all rfl) (fun fr => by kernel_rfl) ?_
      intro fr H
      exact at_nil ⟨rfl, by first | exact H.less _ (fun fr => by rfl) | exact H.less _ (fun fr => by rw [hb]; rfl)⟩
    | false =>
      replace H := H.know 10 hb (by kernel_rfl)
      refine at_seg [(3, []), (4, []), (5, [])] [(0, .int .i64 p0), (1, .int .i64 p1), (13, .bool (decide (p1 > (12 : Int))))] H (noU_all rfl) (fun fr => by kernel_rfl) ?_
      intro fr H
      exact at_nil ⟨rfl, by first | exact H.less _ (fun fr => by rfl) | exact H.less _ (fun fr => by rw [hb]; rfl)⟩
  · intro t fr h' hK
    obtain ⟨e, H⟩ := hK
    subst e
    refine at_seg [(6, [])] [(0, .int .i64 p0), (1, .int .i64 p1), (14, .bool ((decide (p1 < (2 : Int))) || (decide (p1 > (12 : Int)))))] H (noU_all rfl) (fun fr => by kernel_rfl) ?_
    intro fr H
    refine at_cut [(7, []), (8, []), (9, [])] (fun fr' h' => h = h' ∧ Has fr' 41 [(0, .int .i64 p0), (1, .int .i64 p1), (17, .bool (((decide (p1 < (2 : Int))) || (decide (p1 > (12 : Int)))) || (decide (p0 < (0 : Int)))))]) ?_ ?_
    · cases hb : ((decide (p1 < (2 : Int))) || (decide (p1 > (12 : Int))) : Bool) with
      | true =>
        replace H := H.know 14 hb (by kernel_rfl)
        refine at_seg [(7, []), (8, []), (9, [])] [(0, .int .i64 p0), (1, .int .i64 p1), (17, .bool true)] H (noU_all rfl) (fun fr => by kernel_rfl) ?_
        intro fr H
        exact at_nil ⟨rfl, by first | exact H.less _ (fun fr => by rfl) | exact H.less _ (fun fr => by rw [hb]; rfl)⟩
      | false =>
        replace H := H.know 14 hb (by kernel_rfl)
        refine at_seg [(7, []), (8, []), (9, [])] [(0, .int .i64 p0), (1, .int .i64 p1), (17, .bool (decide (p0 < (0 : Int))))] H (noU_all rfl) (fun fr => by kernel_rfl) ?_
        intro fr H
        exact at_nil ⟨rfl, by first | exact H.less _ (fun fr => by rfl) | exact H.less _ (fun fr => by rw [hb]; rfl)⟩
    · intro t fr h' hK
      obtain ⟨e, H⟩ := hK
      subst e
      refine at_seg [(10, [])] [(0, .int .i64 p0), (1, .int .i64 p1), (18, .bool (((decide (p1 < (2 : Int))) || (decide (p1 > (12 : Int)))) || (decide (p0 < (0 : Int)))))] H (noU_all rfl) (fun fr => by kernel_rfl) ?_
      intro fr H
      obtain ⟨x1, ho, hm⟩ := bind_some hm
      refine at_cut [(11, []), (12, []), (13, []), (14, []), (15, []), (16, [])] (fun fr' h' => h = h' ∧ Has fr' 41 [(0, .int .i64 p0), (1, .int .i64 p1), (24, .bool x1)]) ?_ ?_
      · rcases iteB_some ho with ⟨hb, hm⟩ | ⟨hb, hm⟩
        · replace H := H.know 18 hb (by kernel_rfl)
          refine at_seg [(11, []), (12, []), (13, []), (14, []), (15, []), (16, [])] [(0, .int .i64 p0), (1, .int .i64 p1), (24, .bool true)] H (noU_all rfl) (fun fr => by kernel_rfl) ?_
          intro fr H
          have e1 := Option.some.inj hm
          subst e1
          exact at_nil ⟨rfl, H.less _ (fun fr => by kernel_rfl)⟩
        · replace H := H.know 18 hb (by kernel_rfl)
          refine at_seg [(11, []), (12, []), (13, [])] [(0, .int .i64 p0), (1, .int .i64 p1), (18, .bool false), (19, .int .i64 p0), (21, .int .i64 (IntKind.i64.wrap (p1 - (1 : Int))))] H (noU_all rfl) (fun fr => by kernel_rfl) ?_
          intro fr H
          obtain ⟨x2, hx, hm⟩ := bind_some hm
          refine at_step (v := .int .i64 x2) (h1 := h) [(0, .int .i64 p0), (1, .int .i64 p1), (18, .bool false), (19, .int .i64 p0), (22, .int .i64 x2)] H (fun fr => by kernel_rfl) (fun fr => Steps.call (by kernel_rfl) (ok_boulterref01_power hx)) ?_
          intro fr t H
          refine at_seg [(15, []), (16, [])] [(0, .int .i64 p0), (1, .int .i64 p1), (24, .bool (decide (p0 ≥ x2)))] H (noU_all rfl) (fun fr => by kernel_rfl) ?_
          intro fr H
          have e1 := Option.some.inj hm
          subst e1
          exact at_nil ⟨rfl, H.less _ (fun fr => by kernel_rfl)⟩
      · intro t fr h' hK
        obtain ⟨e, H⟩ := hK
        subst e
        refine at_nil ?_
        show AW cfg 39 (⟨h.size, []⟩ : Gd) (right (left (right (bodyC cfg.P 39)))) fr h _
        rcases iteB_some hm with ⟨hb, hm⟩ | ⟨hb, hm⟩
        · replace H := H.know 24 hb (by kernel_rfl)
          refine aw_true (x := .tmp 24) (by kernel_rfl) H (fun fr => by kernel_rfl) ?_
          refine aw_seq (by kernel_rfl) ?_
          refine aw_reg (id := 2) (n := 2) [(0, []), (1, [])] (by kernel_rfl) (by kernel_rfl) ?_
          refine at_seg [(0, []), (1, [])] [(4, .str ([] : List UInt8)), (5, .bool false)] H (noU_all rfl) (fun fr => by kernel_rfl) ?_
          intro fr H
          refine at_nil ?_
          show AW cfg 39 (⟨h.size, []⟩ : Gd) (right (left (right (left (right (bodyC cfg.P 39)))))) fr h _
          refine aw_ret (by kernel_rfl) ?_
          have e1 := Option.some.inj hm
          obtain ⟨u0, v0⟩ := Prod.mk.inj e1
          subst u0
          subst v0
          exact (doneE_of .ret H (fun fr => by kernel_rfl) (.inl rfl) : doneE cfg.P _ _ _ fr _)
        · replace H := H.know 24 hb (by kernel_rfl)
          refine aw_false (x := .tmp 24) (by kernel_rfl) H (fun fr => by kernel_rfl) ?_
          refine aw_skip (by kernel_rfl) ?_
          show AW cfg 39 (⟨h.size, []⟩ : Gd) (right (right (bodyC cfg.P 39))) fr h _
          refine aw_seq (by kernel_rfl) ?_
          refine aw_reg (id := 3) (n := 1) [(0, [])] (by kernel_rfl) (by kernel_rfl) ?_
          refine at_seg [(0, [])] [(0, .int .i64 p0), (1, .int .i64 p1), (6, .str ([0] : List UInt8))] H (noU_all rfl) (fun fr => by kernel_rfl) ?_
          intro fr H
          refine at_nil ?_
          show AW cfg 39 (⟨h.size, []⟩ : Gd) (right (right (right (bodyC cfg.P 39)))) fr h _
          refine aw_seq (by kernel_rfl) ?_
          refine aw_seq (by kernel_rfl) ?_
          refine aw_reg (id := 4) (n := 1) [(0, [])] (by kernel_rfl) (by kernel_rfl) ?_
          refine at_seg [(0, [])] [(0, .int .i64 p0), (1, .int .i64 p1), (6, .str ([0] : List UInt8)), (7, .int .i64 (1 : Int))] H (noU_all rfl) (fun fr => by kernel_rfl) ?_
          intro fr H
          refine at_nil ?_
          show AW cfg 39 (⟨h.size, []⟩ : Gd) (right (left (right (right (right (bodyC cfg.P 39)))))) fr h _
          refine aw_block (id := 0) (by kernel_rfl) ?_
          obtain ⟨o1, ho, hm⟩ := bind_some hm
          refine aw_mono (Q' := fun e fr' h' => (∃ (x6 : List UInt8), e = .exit 0 ∧ x6 = o1 ∧ h = h' ∧ Has fr' 41 [(6, .str x6)]) ∨ False) ?_ ?_
          · refine aw_loop (by kernel_rfl) (fun (s : Int × (List UInt8) × Int) fr' h' => ∃ (x7 : Int) (x8 : List UInt8) (x9 : Int), (x7, x8, x9) = s ∧ h = h' ∧ Has fr' 41 [(0, .int .i64 x7), (1, .int .i64 p1), (6, .str x8), (7, .int .i64 x9)]) ho ⟨p0, ([0] : List UInt8), (1 : Int), rfl, rfl, H.less _ (fun fr => by kernel_rfl)⟩ ?_
            clear ho hm H
            intro s q fr hz hI hm
            obtain ⟨x7, x8, x9, rfl, rfl, H⟩ := hI
            unfold M_boulterref01_Octal_L0 at hm
            refine aw_seq (by kernel_rfl) ?_
            refine aw_seq (by kernel_rfl) ?_
            refine aw_reg (id := 5) (n := 3) [(0, []), (1, []), (2, [])] (by kernel_rfl) (by kernel_rfl) ?_
            refine at_seg [(0, []), (1, []), (2, [])] [(0, .int .i64 x7), (1, .int .i64 p1), (6, .str x8), (7, .int .i64 x9), (27, .bool (decide (x9 < p1)))] H (noU_all rfl) (fun fr => by kernel_rfl) ?_
            intro fr H
            refine at_nil ?_
            show AW cfg 39 (⟨h.size, []⟩ : Gd) (right (left (left (left (right (left (right (right (right (bodyC cfg.P 39)))))))))) fr h _
            rcases iteB_some hm with ⟨hb, hm⟩ | ⟨hb, hm⟩
            · replace H := H.know 27 hb (by kernel_rfl)
              refine aw_true (x := .tmp 27) (by kernel_rfl) H (fun fr => by kernel_rfl) ?_
              refine aw_skip (by kernel_rfl) ?_
              show AW cfg 39 (⟨h.size, []⟩ : Gd) (right (left (left (right (left (right (right (right (bodyC cfg.P 39))))))))) fr h _
              refine aw_seq (by kernel_rfl) ?_
              refine aw_block (id := 1) (by kernel_rfl) ?_
              refine aw_seq (by kernel_rfl) ?_
              refine aw_reg (id := 7) (n := 9) [(0, []), (1, []), (2, []), (3, []), (4, []), (5, []), (6, []), (7, []), (8, [])] (by kernel_rfl) (by kernel_rfl) ?_
              refine at_seg [(0, []), (1, []), (2, []), (3, []), (4, [])] [(0, .int .i64 x7), (1, .int .i64 p1), (6, .str x8), (7, .int .i64 x9), (31, .int .i64 (Int.tmod x7 (8 : Int))), (34, .int .i64 (IntKind.i64.wrap ((Int.tmod x7 (8 : Int)) + (1 : Int))))] H (noU_all rfl) (fun fr => by kernel_rfl) ?_
              intro fr H
              obtain ⟨x10, hx, hm⟩ := bind_some hm
              refine at_step (v := .str x10) (h1 := h) [(0, .int .i64 x7), (1, .int .i64 p1), (6, .str x8), (7, .int .i64 x9), (35, .str x10)] H (fun fr => by kernel_rfl) (fun fr => .of (s_subS (k := .i64) (k' := .i64) (lo := (some (Int.tmod x7 (8 : Int)))) (hi := (some (IntKind.i64.wrap ((Int.tmod x7 (8 : Int)) + (1 : Int))))) (by kernel_rfl) hx)) ?_
              intro fr t H
              refine at_seg [(6, [])] [(0, .int .i64 x7), (1, .int .i64 p1), (7, .int .i64 x9), (35, .str x10), (36, .str x8)] H (noU_all rfl) (fun fr => by kernel_rfl) ?_
              intro fr H
              obtain ⟨hb, hm⟩ := need_some hm
              refine at_step (v := .str (x10 ++ x8)) (h1 := h) [(0, .int .i64 x7), (1, .int .i64 p1), (7, .int .i64 x9), (37, .str (x10 ++ x8))] H (fun fr => by kernel_rfl) (fun fr => .of (s_cat (by kernel_rfl) hb)) ?_
              intro fr t H
              refine at_seg [(8, [])] [(0, .int .i64 x7), (1, .int .i64 p1), (6, .str (x10 ++ x8)), (7, .int .i64 x9)] H (noU_all rfl) (fun fr => by kernel_rfl) ?_
              intro fr H
              refine at_nil ?_
              show AW cfg 39 (⟨h.size, []⟩ : Gd) (right (left (left (right (left (left (right (left (right (right (right (bodyC cfg.P 39)))))))))))) fr h _
              refine aw_reg (id := 8) (n := 3) [(0, []), (1, []), (2, [])] (by kernel_rfl) (by kernel_rfl) ?_
              refine at_seg [(0, []), (1, []), (2, [])] [(0, .int .i64 (IntKind.i64.wrap (Int.tdiv x7 (8 : Int)))), (1, .int .i64 p1), (6, .str (x10 ++ x8)), (7, .int .i64 x9)] H (noU_all rfl) (fun fr => by kernel_rfl) ?_
              intro fr H
              refine at_nil ?_
              show AW cfg 39 (⟨h.size, []⟩ : Gd) (right (right (left (left (right (left (right (right (right (bodyC cfg.P 39)))))))))) fr h _
              refine aw_reg (id := 6) (n := 3) [(0, []), (1, []), (2, [])] (by kernel_rfl) (by kernel_rfl) ?_
              refine at_seg [(0, []), (1, []), (2, [])] [(0, .int .i64 (IntKind.i64.wrap (Int.tdiv x7 (8 : Int)))), (1, .int .i64 p1), (6, .str (x10 ++ x8)), (7, .int .i64 (IntKind.i64.wrap (x9 + (1 : Int))))] H (noU_all rfl) (fun fr => by kernel_rfl) ?_
              intro fr H
              refine at_nil ?_
              exact Exists.intro (IntKind.i64.wrap (Int.tdiv x7 (8 : Int)), x10 ++ x8, IntKind.i64.wrap (x9 + (1 : Int))) (And.intro (Option.some.inj hm).symm ⟨IntKind.i64.wrap (Int.tdiv x7 (8 : Int)), x10 ++ x8, IntKind.i64.wrap (x9 + (1 : Int)), rfl, rfl, H.less _ (fun fr => by kernel_rfl)⟩)
            · replace H := H.know 27 hb (by kernel_rfl)
              refine aw_false (x := .tmp 27) (by kernel_rfl) H (fun fr => by kernel_rfl) ?_
              refine aw_exit (i := 0) (by kernel_rfl) ?_
              exact Exists.intro _ (And.intro (Option.some.inj hm).symm (fun e => Or.inl ⟨x8, rfl, e, rfl, H.less _ (fun fr => by kernel_rfl)⟩))
          · clear ho
            intro e fr hz hQ
            rcases hQ with ⟨x6, rfl, rfl, rfl, H⟩ | hF
            · skip
              show AW cfg 39 (⟨h.size, []⟩ : Gd) (right (right (right (right (bodyC cfg.P 39))))) fr h _
              refine aw_seq (by kernel_rfl) ?_
              refine aw_reg (id := 9) (n := 3) [(0, []), (1, []), (2, [])] (by kernel_rfl) (by kernel_rfl) ?_
              refine at_seg [(0, []), (1, []), (2, [])] [(4, .str x6), (5, .bool true)] H (noU_all rfl) (fun fr => by kernel_rfl) ?_
              intro fr H
              refine at_nil ?_
              show AW cfg 39 (⟨h.size, []⟩ : Gd) (right (right (right (right (right (bodyC cfg.P 39)))))) fr h _
              refine aw_ret (by kernel_rfl) ?_
              have e1 := Option.some.inj hm
              obtain ⟨u0, v0⟩ := Prod.mk.inj e1
              subst u0
              subst v0
              exact (doneE_of .ret H (fun fr => by kernel_rfl) (.inl rfl) : doneE cfg.P _ _ _ fr _)
            · exact hF.elim
/-! ### boulter/boulterref01.Binary -/
noncomputable def M_boulterref01_Binary_L0 (p0 : Int) (p1 : Int) (s : Int × (List UInt8) × Int × AHeap) : Option ((Int × (List UInt8) × Int × AHeap) ⊕ (((List UInt8) × AHeap))) :=
  match s with
  | (x11, x12, x13, h1) => iteB (decide (x13 < p1)) ((iteB (decide (p0 < (0 : Int))) (some (IntKind.i64.wrap ((255 : Int) - (Int.tmod x11 (256 : Int))))) (some (Int.tmod x11 (256 : Int))) : Option ((Int))).bind fun x14 => (some (h1.push (.cells (some 5) 2 [.int .u8 (IntKind.u8.wrap x14)]))).bind fun h2 => (byL h2 (⟨some (h1.size, 0), 1⟩ : Sl)).bind fun x15 => need (decide (x15.length + x12.length ≤ 9223372036854775807)) <| some (.inl (IntKind.i64.wrap (Int.tdiv x11 (256 : Int)), x15 ++ x12, IntKind.i64.wrap (x13 + (1 : Int)), h2))) (some (.inr (x12, h1)))
noncomputable def M_boulterref01_Binary (h : AHeap) (p0 : Int) (p1 : Int) : Option ((List UInt8) × Bool) :=
 (iteB ((decide (p1 < (2 : Int))) || (decide (p1 > (12 : Int)))) (some true) ((M_boulterref01_power h (256 : Int) (IntKind.i64.wrap (p1 - (1 : Int)))).bind fun x2 => some ((decide (p0 ≥ x2)) && (decide (p1 < (8 : Int))))) : Option (Bool)).bind fun x1 => (iteB x1 (some true) ((M_boulterref01_power h (256 : Int) (IntKind.i64.wrap (p1 - (1 : Int)))).bind fun x4 => some ((decide (p0 < (IntKind.i64.wrap (0 - x4)))) && (decide (p1 < (8 : Int))))) : Option (Bool)).bind fun x3 => iteB x3 (some (([] : List UInt8), false)) ((iteB (decide (p0 < (0 : Int))) (some (([255] : List UInt8), IntKind.i64.wrap ((IntKind.i64.wrap (0 - p0)) - (1 : Int)))) (some (([128] : List UInt8), p0)) : Option (((List UInt8) × Int))).bind fun (x5, x6) => (loop (M_boulterref01_Binary_L0 p0 p1) (x6, ([] : List UInt8), (1 : Int), h)).bind fun (x10, h3) => need (decide (x5.length + x10.length ≤ 9223372036854775807)) <| some (x5 ++ x10, true))
theorem ok_boulterref01_Binary {g : Gd} {h : AHeap} {p0 : Int} {p1 : Int} {r0 : List UInt8} {r1 : Bool} (hm : M_boulterref01_Binary h p0 p1 = some (r0, r1)) : Runs cfg g h 41 [.int .i64 p0, .int .i64 p1] (.tuple [.str r0, .bool r1]) h := by
  refine runs2E (by kernel_rfl) (by kernel_rfl) (body_ofE (n := 68) (rs := [.tmp 4, .tmp 5]) (by kernel_rfl) ?_)
  unfold M_boulterref01_Binary at hm
  refine start (n := 68) [(0, .int .i64 p0), (1, .int .i64 p1)] (by kernel_rfl) (by kernel_rfl) ?_
  intro fr H
  refine aw_seq (by kernel_rfl) ?_
  refine aw_reg (id := 0) (n := 2) [(0, []), (1, [])] (by kernel_rfl) (by kernel_rfl) ?_
  refine at_seg [(0, []), (1, [])] [(0, .int .i64 p0), (1, .int .i64 p1)] H (noU_all rfl) (fun fr => by kernel_rfl) ?_
  intro fr H
  refine at_nil ?_
  show AW cfg 41 (⟨h.size, []⟩ : Gd) (right (bodyC cfg.P 41)) fr h _
  refine aw_seq (by kernel_rfl) ?_
  refine aw_seq (by kernel_rfl) ?_
  refine aw_reg (id := 1) (n := 29) [(0, []), (1, []), (2, []), (3, []), (4, []), (5, []), (6, []), (7, []), (8, []), (9, []), (10, []), (11, []), (12, []), (13, []), (14, []), (15, []), (16, []), (17, []), (18, []), (19, []), (20, []), (21, []), (22, []), (23, []), (24, []), (25, []), (26, []), (27, []), (28, [])] (by kernel_rfl) (by kernel_rfl) ?_
  refine at_seg [(0, []), (1, []), (2, [])] [(0, .int .i64 p0), (1, .int .i64 p1), (13, .bool (decide (p1 < (2 : Int))))] H (noU_all rfl) (fun fr => by kernel_rfl) ?_
  intro fr H
  refine at_cut [(3, []), (4, []), (5, [])] (fun fr' h' => h = h' ∧ Has fr' 68 [(0, .int .i64 p0), (1, .int .i64 p1), (16, .bool ((decide (p1 < (2 : Int))) || (decide (p1 > (12 : Int)))))]) ?_ ?_
  · cases hb : (decide (p1 < (2 : Int)) : Bool) with
    | true =>
      replace H := H.know 13 hb (by kernel_rfl)
      refine at_seg [(3, []), (4, []), (5, [])] [(0, .int .i64 p0), (1, .int .i64 p1), (16, .bool true)] H (noU_all rfl) (fun fr => by kernel_rfl) ?_
      intro fr H
      exact at_nil ⟨rfl, by first | exact H.less _ (fun fr => by rfl) | exact H.less _ (fun fr => by rw [hb]; rfl)⟩
    | false =>
      replace H := H.know 13 hb (by kernel_rfl)
      refine at_seg [(3, []), (4, []), (5, [])] [(0, .int .i64 p0), (1, .int .i64 p1), (16, .bool (decide (p1 > (12 : Int))))] H (noU_all rfl) (fun fr => by kernel_rfl) ?_
      intro fr H
      exact at_nil ⟨rfl, by first | exact H.less _ (fun fr => by rfl) | exact H.less _ (fun fr => by rw [hb]; rfl)⟩
  · intro t fr h' hK
    obtain ⟨e, H⟩ := hK
    subst e
    refine at_seg [(6, [])] [(0, .int .i64 p0), (1, .int .i64 p1), (17, .bool ((decide (p1 < (2 : Int))) || (decide (p1 > (12 : Int)))))] H (noU_all rfl) (fun fr => by kernel_rfl) ?_
    intro fr H
    obtain ⟨x1, ho, hm⟩ := bind_some hm
    refine at_cut [(7, []), (8, []), (9, []), (10, []), (11, []), (12, []), (13, []), (14, []), (15, []), (16, [])] (fun fr' h' => h = h' ∧ Has fr' 68 [(0, .int .i64 p0), (1, .int .i64 p1), (27, .bool x1)]) ?_ ?_
    · rcases iteB_some ho with ⟨hb, hm⟩ | ⟨hb, hm⟩
      · replace H := H.know 17 hb (by kernel_rfl)
        refine at_seg [(7, []), (8, []), (9, []), (10, []), (11, []), (12, []), (13, []), (14, []), (15, []), (16, [])] [(0, .int .i64 p0), (1, .int .i64 p1), (27, .bool true)] H (noU_all rfl) (fun fr => by kernel_rfl) ?_
        intro fr H
        have e1 := Option.some.inj hm
        subst e1
        exact at_nil ⟨rfl, H.less _ (fun fr => by kernel_rfl)⟩
      · replace H := H.know 17 hb (by kernel_rfl)
        refine at_seg [(7, []), (8, []), (9, [])] [(0, .int .i64 p0), (1, .int .i64 p1), (17, .bool false), (18, .int .i64 p0), (20, .int .i64 (IntKind.i64.wrap (p1 - (1 : Int))))] H (noU_all rfl) (fun fr => by kernel_rfl) ?_
        intro fr H
        obtain ⟨x2, hx, hm⟩ := bind_some hm
        refine at_step (v := .int .i64 x2) (h1 := h) [(0, .int .i64 p0), (1, .int .i64 p1), (17, .bool false), (18, .int .i64 p0), (21, .int .i64 x2)] H (fun fr => by kernel_rfl) (fun fr => Steps.call (by kernel_rfl) (ok_boulterref01_power hx)) ?_
        intro fr t H
        refine at_seg [(11, []), (12, [])] [(0, .int .i64 p0), (1, .int .i64 p1), (17, .bool false), (23, .bool (decide (p0 ≥ x2)))] H (noU_all rfl) (fun fr => by kernel_rfl) ?_
        intro fr H
        refine at_cut [(13, []), (14, []), (15, [])] (fun fr' h' => h = h' ∧ Has fr' 68 [(0, .int .i64 p0), (1, .int .i64 p1), (17, .bool false), (26, .bool ((decide (p0 ≥ x2)) && (decide (p1 < (8 : Int)))))]) ?_ ?_
        · cases hb : (decide (p0 ≥ x2) : Bool) with
          | true =>
            replace H := H.know 23 hb (by kernel_rfl)
            refine at_seg [(13, []), (14, []), (15, [])] [(0, .int .i64 p0), (1, .int .i64 p1), (17, .bool false), (26, .bool (decide (p1 < (8 : Int))))] H (noU_all rfl) (fun fr => by kernel_rfl) ?_
            intro fr H
            exact at_nil ⟨rfl, by first | exact H.less _ (fun fr => by rfl) | exact H.less _ (fun fr => by rw [hb]; rfl)⟩
          | false =>
            replace H := H.know 23 hb (by kernel_rfl)
            refine at_seg [(13, []), (14, []), (15, [])] [(0, .int .i64 p0), (1, .int .i64 p1), (17, .bool false), (26, .bool false)] H (noU_all rfl) (fun fr => by kernel_rfl) ?_
            intro fr H
            exact at_nil ⟨rfl, by first | exact H.less _ (fun fr => by rfl) | exact H.less _ (fun fr => by rw [hb]; rfl)⟩
        · intro t fr h' hK
          obtain ⟨e, H⟩ := hK
          subst e
          refine at_seg [(16, [])] [(0, .int .i64 p0), (1, .int .i64 p1), (27, .bool ((decide (p0 ≥ x2)) && (decide (p1 < (8 : Int)))))] H (noU_all rfl) (fun fr => by kernel_rfl) ?_
          intro fr H
          have e1 := Option.some.inj hm
          subst e1
          exact at_nil ⟨rfl, H.less _ (fun fr => by kernel_rfl)⟩
    · intro t fr h' hK
      obtain ⟨e, H⟩ := hK
      subst e
      refine at_seg [(17, [])] [(0, .int .i64 p0), (1, .int .i64 p1), (28, .bool x1)] H (noU_all rfl) (fun fr => by kernel_rfl) ?_
      intro fr H
      obtain ⟨x3, ho, hm⟩ := bind_some hm
      refine at_cut [(18, []), (19, []), (20, []), (21, []), (22, []), (23, []), (24, []), (25, []), (26, []), (27, []), (28, [])] (fun fr' h' => h = h' ∧ Has fr' 68 [(0, .int .i64 p0), (1, .int .i64 p1), (39, .bool x3)]) ?_ ?_
      · rcases iteB_some ho with ⟨hb, hm⟩ | ⟨hb, hm⟩
        · replace H := H.know 28 hb (by kernel_rfl)
          refine at_seg [(18, []), (19, []), (20, []), (21, []), (22, []), (23, []), (24, []), (25, []), (26, []), (27, []), (28, [])] [(0, .int .i64 p0), (1, .int .i64 p1), (39, .bool true)] H (noU_all rfl) (fun fr => by kernel_rfl) ?_
          intro fr H
          have e1 := Option.some.inj hm
          subst e1
          exact at_nil ⟨rfl, H.less _ (fun fr => by kernel_rfl)⟩
        · replace H := H.know 28 hb (by kernel_rfl)
          refine at_seg [(18, []), (19, []), (20, [])] [(0, .int .i64 p0), (1, .int .i64 p1), (28, .bool false), (29, .int .i64 p0), (31, .int .i64 (IntKind.i64.wrap (p1 - (1 : Int))))] H (noU_all rfl) (fun fr => by kernel_rfl) ?_
          intro fr H
          obtain ⟨x4, hx, hm⟩ := bind_some hm
          refine at_step (v := .int .i64 x4) (h1 := h) [(0, .int .i64 p0), (1, .int .i64 p1), (28, .bool false), (29, .int .i64 p0), (32, .int .i64 x4)] H (fun fr => by kernel_rfl) (fun fr => Steps.call (by kernel_rfl) (ok_boulterref01_power hx)) ?_
          intro fr t H
          refine at_seg [(22, []), (23, []), (24, [])] [(0, .int .i64 p0), (1, .int .i64 p1), (28, .bool false), (35, .bool (decide (p0 < (IntKind.i64.wrap (0 - x4)))))] H (noU_all rfl) (fun fr => by kernel_rfl) ?_
          intro fr H
          refine at_cut [(25, []), (26, []), (27, [])] (fun fr' h' => h = h' ∧ Has fr' 68 [(0, .int .i64 p0), (1, .int .i64 p1), (28, .bool false), (38, .bool ((decide (p0 < (IntKind.i64.wrap (0 - x4)))) && (decide (p1 < (8 : Int)))))]) ?_ ?_
          · cases hb : (decide (p0 < (IntKind.i64.wrap (0 - x4))) : Bool) with
            | true =>
              replace H := H.know 35 hb (by kernel_rfl)
              refine at_seg [(25, []), (26, []), (27, [])] [(0, .int .i64 p0), (1, .int .i64 p1), (28, .bool false), (38, .bool (decide (p1 < (8 : Int))))] H (noU_all rfl) (fun fr => by kernel_rfl) ?_
              intro fr H
              exact at_nil ⟨rfl, by first | exact H.less _ (fun fr => by rfl) | exact H.less _ (fun fr => by rw [hb]; rfl)⟩
            | false =>
              replace H := H.know 35 hb (by kernel_rfl)
              refine at_seg [(25, []), (26, []), (27, [])] [(0, .int .i64 p0), (1, .int .i64 p1), (28, .bool false), (38, .bool false)] H (noU_all rfl) (fun fr => by kernel_rfl) ?_
              intro fr H
              exact at_nil ⟨rfl, by first | exact H.less _ (fun fr => by rfl) | exact H.less _ (fun fr => by rw [hb]; rfl)⟩
          · intro t fr h' hK
            obtain ⟨e, H⟩ := hK
            subst e
            refine at_seg [(28, [])] [(0, .int .i64 p0), (1, .int .i64 p1), (39, .bool ((decide (p0 < (IntKind.i64.wrap (0 - x4)))) && (decide (p1 < (8 : Int)))))] H (noU_all rfl) (fun fr => by kernel_rfl) ?_
            intro fr H
            have e1 := Option.some.inj hm
            subst e1
            exact at_nil ⟨rfl, H.less _ (fun fr => by kernel_rfl)⟩
      · intro t fr h' hK
        obtain ⟨e, H⟩ := hK
        subst e
        refine at_nil ?_
        show AW cfg 41 (⟨h.size, []⟩ : Gd) (right (left (right (bodyC cfg.P 41)))) fr h _
        rcases iteB_some hm with ⟨hb, hm⟩ | ⟨hb, hm⟩
        · replace H := H.know 39 hb (by kernel_rfl)
          refine aw_true (x := .tmp 39) (by kernel_rfl) H (fun fr => by kernel_rfl) ?_
          refine aw_seq (by kernel_rfl) ?_
          refine aw_reg (id := 2) (n := 2) [(0, []), (1, [])] (by kernel_rfl) (by kernel_rfl) ?_
          refine at_seg [(0, []), (1, [])] [(4, .str ([] : List UInt8)), (5, .bool false)] H (noU_all rfl) (fun fr => by kernel_rfl) ?_
          intro fr H
          refine at_nil ?_
          show AW cfg 41 (⟨h.size, []⟩ : Gd) (right (left (right (left (right (bodyC cfg.P 41)))))) fr h _
          refine aw_ret (by kernel_rfl) ?_
          have e1 := Option.some.inj hm
          obtain ⟨u0, v0⟩ := Prod.mk.inj e1
          subst u0
          subst v0
          exact (doneE_of .ret H (fun fr => by kernel_rfl) (.inl rfl) : doneE cfg.P _ _ _ fr _)
        · replace H := H.know 39 hb (by kernel_rfl)
          refine aw_false (x := .tmp 39) (by kernel_rfl) H (fun fr => by kernel_rfl) ?_
          refine aw_skip (by kernel_rfl) ?_
          show AW cfg 41 (⟨h.size, []⟩ : Gd) (right (right (bodyC cfg.P 41))) fr h _
          refine aw_seq (by kernel_rfl) ?_
          refine aw_reg (id := 3) (n := 1) [(0, [])] (by kernel_rfl) (by kernel_rfl) ?_
          refine at_seg [(0, [])] [(0, .int .i64 p0), (1, .int .i64 p1), (6, .str ([128] : List UInt8))] H (noU_all rfl) (fun fr => by kernel_rfl) ?_
          intro fr H
          refine at_nil ?_
          show AW cfg 41 (⟨h.size, []⟩ : Gd) (right (right (right (bodyC cfg.P 41)))) fr h _
          refine aw_seq (by kernel_rfl) ?_
          refine aw_reg (id := 4) (n := 2) [(0, []), (1, [])] (by kernel_rfl) (by kernel_rfl) ?_
          refine at_seg [(0, []), (1, [])] [(0, .int .i64 p0), (1, .int .i64 p1), (6, .str ([128] : List UInt8)), (7, .int .i64 p0)] H (noU_all rfl) (fun fr => by kernel_rfl) ?_
          intro fr H
          refine at_nil ?_
          show AW cfg 41 (⟨h.size, []⟩ : Gd) (right (right (right (right (bodyC cfg.P 41))))) fr h _
          refine aw_seq (by kernel_rfl) ?_
          obtain ⟨o1, ho, hm⟩ := bind_some hm
          refine aw_mono (Q' := fun e fr' h' => (∃ (x5 : List UInt8) (x6 : Int), e = .normal ∧ (x5, x6) = o1 ∧ h = h' ∧ Has fr' 68 [(0, .int .i64 p0), (1, .int .i64 p1), (6, .str x5), (7, .int .i64 x6)]) ∨ False) ?_ ?_
          · replace hm := ho
            clear ho
            refine aw_seq (by kernel_rfl) ?_
            refine aw_reg (id := 5) (n := 2) [(0, []), (1, [])] (by kernel_rfl) (by kernel_rfl) ?_
            refine at_seg [(0, []), (1, [])] [(0, .int .i64 p0), (1, .int .i64 p1), (6, .str ([128] : List UInt8)), (7, .int .i64 p0), (42, .bool (decide (p0 < (0 : Int))))] H (noU_all rfl) (fun fr => by kernel_rfl) ?_
            intro fr H
            refine at_nil ?_
            show AW cfg 41 (⟨h.size, []⟩ : Gd) (right (left (right (right (right (right (bodyC cfg.P 41))))))) fr h _
            rcases iteB_some hm with ⟨hb, hm⟩ | ⟨hb, hm⟩
            · replace H := H.know 42 hb (by kernel_rfl)
              refine aw_true (x := .tmp 42) (by kernel_rfl) H (fun fr => by kernel_rfl) ?_
              refine aw_seq (by kernel_rfl) ?_
              refine aw_reg (id := 6) (n := 1) [(0, [])] (by kernel_rfl) (by kernel_rfl) ?_
              refine at_seg [(0, [])] [(0, .int .i64 p0), (1, .int .i64 p1), (6, .str ([255] : List UInt8))] H (noU_all rfl) (fun fr => by kernel_rfl) ?_
              intro fr H
              refine at_nil ?_
              show AW cfg 41 (⟨h.size, []⟩ : Gd) (right (left (right (left (right (right (right (right (bodyC cfg.P 41))))))))) fr h _
              refine aw_reg (id := 7) (n := 4) [(0, []), (1, []), (2, []), (3, [])] (by kernel_rfl) (by kernel_rfl) ?_
              refine at_seg [(0, []), (1, []), (2, []), (3, [])] [(0, .int .i64 p0), (1, .int .i64 p1), (6, .str ([255] : List UInt8)), (7, .int .i64 (IntKind.i64.wrap ((IntKind.i64.wrap (0 - p0)) - (1 : Int))))] H (noU_all rfl) (fun fr => by kernel_rfl) ?_
              intro fr H
              refine at_nil ?_
              exact Or.inl ⟨([255] : List UInt8), IntKind.i64.wrap ((IntKind.i64.wrap (0 - p0)) - (1 : Int)), rfl, Option.some.inj hm, rfl, H.less _ (fun fr => by kernel_rfl)⟩
            · replace H := H.know 42 hb (by kernel_rfl)
              refine aw_false (x := .tmp 42) (by kernel_rfl) H (fun fr => by kernel_rfl) ?_
              refine aw_skip (by kernel_rfl) ?_
              exact Or.inl ⟨([128] : List UInt8), p0, rfl, Option.some.inj hm, rfl, H.less _ (fun fr => by kernel_rfl)⟩
          · clear ho
            intro e fr hz hQ
            rcases hQ with ⟨x5, x6, rfl, rfl, rfl, H⟩ | hF
            · skip
              show AW cfg 41 (⟨h.size, []⟩ : Gd) (right (right (right (right (right (bodyC cfg.P 41)))))) fr h _
              refine aw_seq (by kernel_rfl) ?_
              refine aw_reg (id := 8) (n := 1) [(0, [])] (by kernel_rfl) (by kernel_rfl) ?_
              refine at_seg [(0, [])] [(0, .int .i64 p0), (1, .int .i64 p1), (6, .str x5), (7, .int .i64 x6), (8, .str ([] : List UInt8))] H (noU_all rfl) (fun fr => by kernel_rfl) ?_
              intro fr H
              refine at_nil ?_
              show AW cfg 41 (⟨h.size, []⟩ : Gd) (right (right (right (right (right (right (bodyC cfg.P 41))))))) fr h _
              refine aw_seq (by kernel_rfl) ?_
              refine aw_seq (by kernel_rfl) ?_
              refine aw_reg (id := 9) (n := 1) [(0, [])] (by kernel_rfl) (by kernel_rfl) ?_
              refine at_seg [(0, [])] [(0, .int .i64 p0), (1, .int .i64 p1), (6, .str x5), (7, .int .i64 x6), (8, .str ([] : List UInt8)), (9, .int .i64 (1 : Int))] H (noU_all rfl) (fun fr => by kernel_rfl) ?_
              intro fr H
              refine at_nil ?_
              show AW cfg 41 (⟨h.size, []⟩ : Gd) (right (left (right (right (right (right (right (right (bodyC cfg.P 41))))))))) fr h _
              refine aw_block (id := 0) (by kernel_rfl) ?_
              obtain ⟨o2, ho, hm⟩ := bind_some hm
              refine aw_mono (Q' := fun e fr' h' => (∃ (x10 : List UInt8), e = .exit 0 ∧ (x10, h') = o2 ∧ h' = h' ∧ Has fr' 68 [(6, .str x5), (8, .str x10)]) ∨ False) ?_ ?_
              · refine aw_loop (by kernel_rfl) (fun (s : Int × (List UInt8) × Int × AHeap) fr' h' => ∃ (x11 : Int) (x12 : List UInt8) (x13 : Int), (x11, x12, x13, h') = s ∧ h' = h' ∧ Has fr' 68 [(0, .int .i64 p0), (1, .int .i64 p1), (6, .str x5), (7, .int .i64 x11), (8, .str x12), (9, .int .i64 x13)]) ho ⟨x6, ([] : List UInt8), (1 : Int), rfl, rfl, H.less _ (fun fr => by kernel_rfl)⟩ ?_
                clear ho hm H
                intro s q fr h1 hI hm
                obtain ⟨x11, x12, x13, rfl, _, H⟩ := hI
                unfold M_boulterref01_Binary_L0 at hm
                refine aw_seq (by kernel_rfl) ?_
                refine aw_seq (by kernel_rfl) ?_
                refine aw_reg (id := 10) (n := 3) [(0, []), (1, []), (2, [])] (by kernel_rfl) (by kernel_rfl) ?_
                refine at_seg [(0, []), (1, []), (2, [])] [(0, .int .i64 p0), (1, .int .i64 p1), (6, .str x5), (7, .int .i64 x11), (8, .str x12), (9, .int .i64 x13), (48, .bool (decide (x13 < p1)))] H (noU_all rfl) (fun fr => by kernel_rfl) ?_
                intro fr H
                refine at_nil ?_
                show AW cfg 41 (⟨h.size, []⟩ : Gd) (right (left (left (left (right (left (right (right (right (right (right (right (bodyC cfg.P 41))))))))))))) fr h1 _
                rcases iteB_some hm with ⟨hb, hm⟩ | ⟨hb, hm⟩
                · replace H := H.know 48 hb (by kernel_rfl)
                  refine aw_true (x := .tmp 48) (by kernel_rfl) H (fun fr => by kernel_rfl) ?_
                  refine aw_skip (by kernel_rfl) ?_
                  show AW cfg 41 (⟨h.size, []⟩ : Gd) (right (left (left (right (left (right (right (right (right (right (right (bodyC cfg.P 41)))))))))))) fr h1 _
                  refine aw_seq (by kernel_rfl) ?_
                  refine aw_block (id := 1) (by kernel_rfl) ?_
                  refine aw_seq (by kernel_rfl) ?_
                  refine aw_reg (id := 12) (n := 3) [(0, []), (1, []), (2, [])] (by kernel_rfl) (by kernel_rfl) ?_
                  refine at_seg [(0, []), (1, []), (2, [])] [(0, .int .i64 p0), (1, .int .i64 p1), (6, .str x5), (7, .int .i64 x11), (8, .str x12), (9, .int .i64 x13), (10, .int .i64 (Int.tmod x11 (256 : Int)))] H (noU_all rfl) (fun fr => by kernel_rfl) ?_
                  intro fr H
                  refine at_nil ?_
                  show AW cfg 41 (⟨h.size, []⟩ : Gd) (right (left (left (right (left (left (right (left (right (right (right (right (right (right (bodyC cfg.P 41))))))))))))))) fr h1 _
                  refine aw_seq (by kernel_rfl) ?_
                  obtain ⟨o3, ho, hm⟩ := bind_some hm
                  refine aw_mono (Q' := fun e fr' h' => (∃ (x14 : Int), e = .normal ∧ x14 = o3 ∧ h1 = h' ∧ Has fr' 68 [(0, .int .i64 p0), (1, .int .i64 p1), (6, .str x5), (7, .int .i64 x11), (8, .str x12), (9, .int .i64 x13), (10, .int .i64 x14)]) ∨ False) ?_ ?_
                  · replace hm := ho
                    clear ho
                    refine aw_seq (by kernel_rfl) ?_
                    refine aw_reg (id := 13) (n := 2) [(0, []), (1, [])] (by kernel_rfl) (by kernel_rfl) ?_
                    refine at_seg [(0, []), (1, [])] [(0, .int .i64 p0), (1, .int .i64 p1), (6, .str x5), (7, .int .i64 x11), (8, .str x12), (9, .int .i64 x13), (10, .int .i64 (Int.tmod x11 (256 : Int))), (54, .bool (decide (p0 < (0 : Int))))] H (noU_all rfl) (fun fr => by kernel_rfl) ?_
                    intro fr H
                    refine at_nil ?_
                    show AW cfg 41 (⟨h.size, []⟩ : Gd) (right (left (right (left (left (right (left (left (right (left (right (right (right (right (right (right (bodyC cfg.P 41))))))))))))))))) fr h1 _
                    rcases iteB_some hm with ⟨hb, hm⟩ | ⟨hb, hm⟩
                    · replace H := H.know 54 hb (by kernel_rfl)
                      refine aw_true (x := .tmp 54) (by kernel_rfl) H (fun fr => by kernel_rfl) ?_
                      refine aw_reg (id := 14) (n := 3) [(0, []), (1, []), (2, [])] (by kernel_rfl) (by kernel_rfl) ?_
                      refine at_seg [(0, []), (1, []), (2, [])] [(0, .int .i64 p0), (1, .int .i64 p1), (6, .str x5), (7, .int .i64 x11), (8, .str x12), (9, .int .i64 x13), (10, .int .i64 (IntKind.i64.wrap ((255 : Int) - (Int.tmod x11 (256 : Int)))))] H (noU_all rfl) (fun fr => by kernel_rfl) ?_
                      intro fr H
                      refine at_nil ?_
                      exact Or.inl ⟨IntKind.i64.wrap ((255 : Int) - (Int.tmod x11 (256 : Int))), rfl, Option.some.inj hm, rfl, H.less _ (fun fr => by kernel_rfl)⟩
                    · replace H := H.know 54 hb (by kernel_rfl)
                      refine aw_false (x := .tmp 54) (by kernel_rfl) H (fun fr => by kernel_rfl) ?_
                      refine aw_skip (by kernel_rfl) ?_
                      exact Or.inl ⟨Int.tmod x11 (256 : Int), rfl, Option.some.inj hm, rfl, H.less _ (fun fr => by kernel_rfl)⟩
                  · clear ho
                    intro e fr hz hQ
                    rcases hQ with ⟨x14, rfl, rfl, rfl, H⟩ | hF
                    · skip
                      show AW cfg 41 (⟨h.size, []⟩ : Gd) (right (right (left (left (right (left (left (right (left (right (right (right (right (right (right (bodyC cfg.P 41)))))))))))))))) fr h1 _
                      refine aw_seq (by kernel_rfl) ?_
                      refine aw_reg (id := 15) (n := 7) [(0, []), (1, []), (2, []), (3, []), (4, []), (5, []), (6, [])] (by kernel_rfl) (by kernel_rfl) ?_
                      refine at_seg [(0, []), (1, [])] [(0, .int .i64 p0), (1, .int .i64 p1), (6, .str x5), (7, .int .i64 x11), (8, .str x12), (9, .int .i64 x13), (58, .int .u8 (IntKind.u8.wrap x14))] H (noU_all rfl) (fun fr => by kernel_rfl) ?_
                      intro fr H
                      obtain ⟨h2, hx, hm⟩ := bind_some hm
                      refine at_step (v := .slice (some (h1.size, 0)) 1) (h1 := h2) [(0, .int .i64 p0), (1, .int .i64 p1), (6, .str x5), (7, .int .i64 x11), (8, .str x12), (9, .int .i64 x13), (59, .slice (some (h1.size, 0)) 1)] H (fun fr => by kernel_rfl) (fun fr => .of (s_n' (by kernel_rfl) hx)) ?_
                      intro fr t H
                      obtain ⟨x15, hx, hm⟩ := bind_some hm
                      refine at_step (v := .str x15) (h1 := h2) [(0, .int .i64 p0), (1, .int .i64 p1), (6, .str x5), (7, .int .i64 x11), (8, .str x12), (9, .int .i64 x13), (60, .str x15)] H (fun fr => by kernel_rfl) (fun fr => .of (s_byL (s := (⟨some (h1.size, 0), 1⟩ : Sl)) (by kernel_rfl) hx)) ?_
                      intro fr t H
                      refine at_seg [(4, [])] [(0, .int .i64 p0), (1, .int .i64 p1), (6, .str x5), (7, .int .i64 x11), (9, .int .i64 x13), (60, .str x15), (61, .str x12)] H (noU_all rfl) (fun fr => by kernel_rfl) ?_
                      intro fr H
                      obtain ⟨hb, hm⟩ := need_some hm
                      refine at_step (v := .str (x15 ++ x12)) (h1 := h2) [(0, .int .i64 p0), (1, .int .i64 p1), (6, .str x5), (7, .int .i64 x11), (9, .int .i64 x13), (62, .str (x15 ++ x12))] H (fun fr => by kernel_rfl) (fun fr => .of (s_cat (by kernel_rfl) hb)) ?_
                      intro fr t H
                      refine at_seg [(6, [])] [(0, .int .i64 p0), (1, .int .i64 p1), (6, .str x5), (7, .int .i64 x11), (8, .str (x15 ++ x12)), (9, .int .i64 x13)] H (noU_all rfl) (fun fr => by kernel_rfl) ?_
                      intro fr H
                      refine at_nil ?_
                      show AW cfg 41 (⟨h.size, []⟩ : Gd) (right (right (right (left (left (right (left (left (right (left (right (right (right (right (right (right (bodyC cfg.P 41))))))))))))))))) fr h2 _
                      refine aw_reg (id := 16) (n := 3) [(0, []), (1, []), (2, [])] (by kernel_rfl) (by kernel_rfl) ?_
                      refine at_seg [(0, []), (1, []), (2, [])] [(0, .int .i64 p0), (1, .int .i64 p1), (6, .str x5), (7, .int .i64 (IntKind.i64.wrap (Int.tdiv x11 (256 : Int)))), (8, .str (x15 ++ x12)), (9, .int .i64 x13)] H (noU_all rfl) (fun fr => by kernel_rfl) ?_
                      intro fr H
                      refine at_nil ?_
                      show AW cfg 41 (⟨h.size, []⟩ : Gd) (right (right (left (left (right (left (right (right (right (right (right (right (bodyC cfg.P 41))))))))))))) fr h2 _
                      refine aw_reg (id := 11) (n := 3) [(0, []), (1, []), (2, [])] (by kernel_rfl) (by kernel_rfl) ?_
                      refine at_seg [(0, []), (1, []), (2, [])] [(0, .int .i64 p0), (1, .int .i64 p1), (6, .str x5), (7, .int .i64 (IntKind.i64.wrap (Int.tdiv x11 (256 : Int)))), (8, .str (x15 ++ x12)), (9, .int .i64 (IntKind.i64.wrap (x13 + (1 : Int))))] H (noU_all rfl) (fun fr => by kernel_rfl) ?_
                      intro fr H
                      refine at_nil ?_
                      exact Exists.intro (IntKind.i64.wrap (Int.tdiv x11 (256 : Int)), x15 ++ x12, IntKind.i64.wrap (x13 + (1 : Int)), h2) (And.intro (Option.some.inj hm).symm ⟨IntKind.i64.wrap (Int.tdiv x11 (256 : Int)), x15 ++ x12, IntKind.i64.wrap (x13 + (1 : Int)), rfl, rfl, H.less _ (fun fr => by kernel_rfl)⟩)
                    · exact hF.elim
                · replace H := H.know 48 hb (by kernel_rfl)
                  refine aw_false (x := .tmp 48) (by kernel_rfl) H (fun fr => by kernel_rfl) ?_
                  refine aw_exit (i := 0) (by kernel_rfl) ?_
                  exact Exists.intro _ (And.intro (Option.some.inj hm).symm (fun e => Or.inl ⟨x12, rfl, e, rfl, H.less _ (fun fr => by kernel_rfl)⟩))
              · clear ho
                intro e fr h3 hQ
                rcases hQ with ⟨x10, rfl, rfl, _, H⟩ | hF
                · skip
                  show AW cfg 41 (⟨h.size, []⟩ : Gd) (right (right (right (right (right (right (right (bodyC cfg.P 41)))))))) fr h3 _
                  refine aw_seq (by kernel_rfl) ?_
                  refine aw_reg (id := 17) (n := 5) [(0, []), (1, []), (2, []), (3, []), (4, [])] (by kernel_rfl) (by kernel_rfl) ?_
                  refine at_seg [(0, []), (1, [])] [(65, .str x5), (66, .str x10)] H (noU_all rfl) (fun fr => by kernel_rfl) ?_
                  intro fr H
                  obtain ⟨hb, hm⟩ := need_some hm
                  refine at_step (v := .str (x5 ++ x10)) (h1 := h3) [(67, .str (x5 ++ x10))] H (fun fr => by kernel_rfl) (fun fr => .of (s_cat (by kernel_rfl) hb)) ?_
                  intro fr t H
                  refine at_seg [(3, []), (4, [])] [(4, .str (x5 ++ x10)), (5, .bool true)] H (noU_all rfl) (fun fr => by kernel_rfl) ?_
                  intro fr H
                  refine at_nil ?_
                  show AW cfg 41 (⟨h.size, []⟩ : Gd) (right (right (right (right (right (right (right (right (bodyC cfg.P 41))))))))) fr h3 _
                  refine aw_ret (by kernel_rfl) ?_
                  have e1 := Option.some.inj hm
                  obtain ⟨u0, v0⟩ := Prod.mk.inj e1
                  subst u0
                  subst v0
                  exact (doneE_of .ret H (fun fr => by kernel_rfl) (.inl rfl) : doneE cfg.P _ _ _ fr _)
                · exact hF.elim
            · exact hF.elim
/-! ### boulter/boulterref01.Write -/
noncomputable def M_boulterref01_Write (h : AHeap) (p0 : Int) (p1 : Int) : Option ((List UInt8) × Int) :=
 iteB ((decide (p1 < (2 : Int))) || (decide (p1 > (12 : Int)))) (some (([] : List UInt8), (1 : Int))) (iteB ((decide (p0 > (9007199254740991 : Int))) || (decide (p0 < (-9007199254740991 : Int)))) (some (([] : List UInt8), (6 : Int))) ((M_boulterref01_Octal h p0 p1).bind fun (x1, x2) => (iteB (!x2) ((M_boulterref01_Binary h p0 p1).bind fun (x5, x6) => some (x5, x6)) (some (x1, x2)) : Option (((List UInt8) × Bool))).bind fun (x3, x4) => iteB (!x4) (some (([] : List UInt8), (6 : Int))) (some (x3, (0 : Int)))))
theorem ok_boulterref01_Write {g : Gd} {h : AHeap} {p0 : Int} {p1 : Int} {r0 : List UInt8} {r1 : Int} (hm : M_boulterref01_Write h p0 p1 = some (r0, r1)) : Runs cfg g h 37 [.int .i64 p0, .int .i64 p1] (.tuple [.str r0, .int .i64 r1]) h := by
  refine runs2E (by kernel_rfl) (by kernel_rfl) (body_ofE (n := 37) (rs := [.tmp 4, .tmp 5]) (by kernel_rfl) ?_)
  unfold M_boulterref01_Write at hm
  refine start (n := 37) [(0, .int .i64 p0), (1, .int .i64 p1)] (by kernel_rfl) (by kernel_rfl) ?_
  intro fr H
  refine aw_seq (by kernel_rfl) ?_
  refine aw_reg (id := 0) (n := 2) [(0, []), (1, [])] (by kernel_rfl) (by kernel_rfl) ?_
  refine at_seg [(0, []), (1, [])] [(0, .int .i64 p0), (1, .int .i64 p1)] H (noU_all rfl) (fun fr => by kernel_rfl) ?_
  intro fr H
  refine at_nil ?_
  show AW cfg 37 (⟨h.size, []⟩ : Gd) (right (bodyC cfg.P 37)) fr h _
  refine aw_seq (by kernel_rfl) ?_
  refine aw_seq (by kernel_rfl) ?_
  refine aw_reg (id := 1) (n := 6) [(0, []), (1, []), (2, []), (3, []), (4, []), (5, [])] (by kernel_rfl) (by kernel_rfl) ?_
  refine at_seg [(0, []), (1, []), (2, [])] [(0, .int .i64 p0), (1, .int .i64 p1), (10, .bool (decide (p1 < (2 : Int))))] H (noU_all rfl) (fun fr => by kernel_rfl) ?_
  intro fr H
  refine at_cut [(3, []), (4, []), (5, [])] (fun fr' h' => h = h' ∧ Has fr' 37 [(0, .int .i64 p0), (1, .int .i64 p1), (13, .bool ((decide (p1 < (2 : Int))) || (decide (p1 > (12 : Int)))))]) ?_ ?_
  · cases hb : (decide (p1 < (2 : Int)) : Bool) with
    | true =>
      replace H := H.know 10 hb (by kernel_rfl)
      refine at_seg [(3, []), (4, []), (5, [])] [(0, .int .i64 p0), (1, .int .i64 p1), (13, .bool true)] H (noU_all rfl) (fun fr => by kernel_rfl) ?_
      intro fr H
      exact at_nil ⟨rfl, by first | exact H.less _ (fun fr => by rfl) | exact H.less _ (fun fr => by rw [hb]; rfl)⟩
    | false =>
      replace H := H.know 10 hb (by kernel_rfl)
      refine at_seg [(3, []), (4, []), (5, [])] [(0, .int .i64 p0), (1, .int .i64 p1), (13, .bool (decide (p1 > (12 : Int))))] H (noU_all rfl) (fun fr => by kernel_rfl) ?_
      intro fr H
      exact at_nil ⟨rfl, by first | exact H.less _ (fun fr => by rfl) | exact H.less _ (fun fr => by rw [hb]; rfl)⟩
  · intro t fr h' hK
    obtain ⟨e, H⟩ := hK
    subst e
    refine at_nil ?_
    show AW cfg 37 (⟨h.size, []⟩ : Gd) (right (left (right (bodyC cfg.P 37)))) fr h _
    rcases iteB_some hm with ⟨hb, hm⟩ | ⟨hb, hm⟩
    · replace H := H.know 13 hb (by kernel_rfl)
      refine aw_true (x := .tmp 13) (by kernel_rfl) H (fun fr => by kernel_rfl) ?_
      refine aw_seq (by kernel_rfl) ?_
      refine aw_reg (id := 2) (n := 2) [(0, []), (1, [])] (by kernel_rfl) (by kernel_rfl) ?_
      refine at_seg [(0, []), (1, [])] [(4, .str ([] : List UInt8)), (5, .int .i64 (1 : Int))] H (noU_all rfl) (fun fr => by kernel_rfl) ?_
      intro fr H
      refine at_nil ?_
      show AW cfg 37 (⟨h.size, []⟩ : Gd) (right (left (right (left (right (bodyC cfg.P 37)))))) fr h _
      refine aw_ret (by kernel_rfl) ?_
      have e1 := Option.some.inj hm
      obtain ⟨u0, v0⟩ := Prod.mk.inj e1
      subst u0
      subst v0
      exact (doneE_of .ret H (fun fr => by kernel_rfl) (.inl rfl) : doneE cfg.P _ _ _ fr _)
    · replace H := H.know 13 hb (by kernel_rfl)
      refine aw_false (x := .tmp 13) (by kernel_rfl) H (fun fr => by kernel_rfl) ?_
      refine aw_skip (by kernel_rfl) ?_
      show AW cfg 37 (⟨h.size, []⟩ : Gd) (right (right (bodyC cfg.P 37))) fr h _
      refine aw_seq (by kernel_rfl) ?_
      refine aw_seq (by kernel_rfl) ?_
      refine aw_reg (id := 3) (n := 6) [(0, []), (1, []), (2, []), (3, []), (4, []), (5, [])] (by kernel_rfl) (by kernel_rfl) ?_
      refine at_seg [(0, []), (1, []), (2, [])] [(0, .int .i64 p0), (1, .int .i64 p1), (16, .bool (decide (p0 > (9007199254740991 : Int))))] H (noU_all rfl) (fun fr => by kernel_rfl) ?_
      intro fr H
      refine at_cut [(3, []), (4, []), (5, [])] (fun fr' h' => h = h' ∧ Has fr' 37 [(0, .int .i64 p0), (1, .int .i64 p1), (19, .bool ((decide (p0 > (9007199254740991 : Int))) || (decide (p0 < (-9007199254740991 : Int)))))]) ?_ ?_
      · cases hb : (decide (p0 > (9007199254740991 : Int)) : Bool) with
        | true =>
          replace H := H.know 16 hb (by kernel_rfl)
          refine at_seg [(3, []), (4, []), (5, [])] [(0, .int .i64 p0), (1, .int .i64 p1), (19, .bool true)] H (noU_all rfl) (fun fr => by kernel_rfl) ?_
          intro fr H
          exact at_nil ⟨rfl, by first | exact H.less _ (fun fr => by rfl) | exact H.less _ (fun fr => by rw [hb]; rfl)⟩
        | false =>
          replace H := H.know 16 hb (by kernel_rfl)
          refine at_seg [(3, []), (4, []), (5, [])] [(0, .int .i64 p0), (1, .int .i64 p1), (19, .bool (decide (p0 < (-9007199254740991 : Int))))] H (noU_all rfl) (fun fr => by kernel_rfl) ?_
          intro fr H
          exact at_nil ⟨rfl, by first | exact H.less _ (fun fr => by rfl) | exact H.less _ (fun fr => by rw [hb]; rfl)⟩
      · intro t fr h' hK
        obtain ⟨e, H⟩ := hK
        subst e
        refine at_nil ?_
        show AW cfg 37 (⟨h.size, []⟩ : Gd) (right (left (right (right (bodyC cfg.P 37))))) fr h _
        rcases iteB_some hm with ⟨hb, hm⟩ | ⟨hb, hm⟩
        · replace H := H.know 19 hb (by kernel_rfl)
          refine aw_true (x := .tmp 19) (by kernel_rfl) H (fun fr => by kernel_rfl) ?_
          refine aw_seq (by kernel_rfl) ?_
          refine aw_reg (id := 4) (n := 2) [(0, []), (1, [])] (by kernel_rfl) (by kernel_rfl) ?_
          refine at_seg [(0, []), (1, [])] [(4, .str ([] : List UInt8)), (5, .int .i64 (6 : Int))] H (noU_all rfl) (fun fr => by kernel_rfl) ?_
          intro fr H
          refine at_nil ?_
          show AW cfg 37 (⟨h.size, []⟩ : Gd) (right (left (right (left (right (right (bodyC cfg.P 37))))))) fr h _
          refine aw_ret (by kernel_rfl) ?_
          have e1 := Option.some.inj hm
          obtain ⟨u0, v0⟩ := Prod.mk.inj e1
          subst u0
          subst v0
          exact (doneE_of .ret H (fun fr => by kernel_rfl) (.inl rfl) : doneE cfg.P _ _ _ fr _)
        · replace H := H.know 19 hb (by kernel_rfl)
          refine aw_false (x := .tmp 19) (by kernel_rfl) H (fun fr => by kernel_rfl) ?_
          refine aw_skip (by kernel_rfl) ?_
          show AW cfg 37 (⟨h.size, []⟩ : Gd) (right (right (right (bodyC cfg.P 37)))) fr h _
          refine aw_seq (by kernel_rfl) ?_
          refine aw_reg (id := 5) (n := 8) [(0, []), (1, []), (2, []), (3, []), (4, []), (5, []), (6, []), (7, [])] (by kernel_rfl) (by kernel_rfl) ?_
          refine at_seg [(0, []), (1, [])] [(0, .int .i64 p0), (1, .int .i64 p1), (21, .int .i64 p0), (22, .int .i64 p1)] H (noU_all rfl) (fun fr => by kernel_rfl) ?_
          intro fr H
          obtain ⟨⟨x1, x2⟩, hx, hm⟩ := bind_some hm
          refine at_step (v := .tuple [.str x1, .bool x2]) (h1 := h) [(0, .int .i64 p0), (1, .int .i64 p1), (23, .tuple [.str x1, .bool x2])] H (fun fr => by kernel_rfl) (fun fr => Steps.call (by kernel_rfl) (ok_boulterref01_Octal hx)) ?_
          intro fr t H
          refine at_seg [(3, []), (4, []), (5, []), (6, []), (7, [])] [(0, .int .i64 p0), (1, .int .i64 p1), (6, .str x1), (7, .bool x2)] H (noU_all rfl) (fun fr => by kernel_rfl) ?_
          intro fr H
          refine at_nil ?_
          show AW cfg 37 (⟨h.size, []⟩ : Gd) (right (right (right (right (bodyC cfg.P 37))))) fr h _
          refine aw_seq (by kernel_rfl) ?_
          obtain ⟨o1, ho, hm⟩ := bind_some hm
          refine aw_mono (Q' := fun e fr' h' => (∃ (x3 : List UInt8) (x4 : Bool), e = .normal ∧ (x3, x4) = o1 ∧ h = h' ∧ Has fr' 37 [(6, .str x3), (7, .bool x4)]) ∨ False) ?_ ?_
          · replace hm := ho
            clear ho
            refine aw_seq (by kernel_rfl) ?_
            refine aw_reg (id := 6) (n := 2) [(0, []), (1, [])] (by kernel_rfl) (by kernel_rfl) ?_
            refine at_seg [(0, []), (1, [])] [(0, .int .i64 p0), (1, .int .i64 p1), (6, .str x1), (7, .bool x2), (27, .bool (!x2))] H (noU_all rfl) (fun fr => by kernel_rfl) ?_
            intro fr H
            refine at_nil ?_
            show AW cfg 37 (⟨h.size, []⟩ : Gd) (right (left (right (right (right (right (bodyC cfg.P 37))))))) fr h _
            rcases iteB_some hm with ⟨hb, hm⟩ | ⟨hb, hm⟩
            · replace H := H.know 27 hb (by kernel_rfl)
              refine aw_true (x := .tmp 27) (by kernel_rfl) H (fun fr => by kernel_rfl) ?_
              refine aw_reg (id := 7) (n := 8) [(0, []), (1, []), (2, []), (3, []), (4, []), (5, []), (6, []), (7, [])] (by kernel_rfl) (by kernel_rfl) ?_
              refine at_seg [(0, []), (1, [])] [(29, .int .i64 p0), (30, .int .i64 p1)] H (noU_all rfl) (fun fr => by kernel_rfl) ?_
              intro fr H
              obtain ⟨⟨x5, x6⟩, hx, hm⟩ := bind_some hm
              refine at_step (v := .tuple [.str x5, .bool x6]) (h1 := h) [(31, .tuple [.str x5, .bool x6])] H (fun fr => by kernel_rfl) (fun fr => Steps.call (by kernel_rfl) (ok_boulterref01_Binary hx)) ?_
              intro fr t H
              refine at_seg [(3, []), (4, []), (5, []), (6, []), (7, [])] [(6, .str x5), (7, .bool x6)] H (noU_all rfl) (fun fr => by kernel_rfl) ?_
              intro fr H
              refine at_nil ?_
              exact Or.inl ⟨x5, x6, rfl, Option.some.inj hm, rfl, H.less _ (fun fr => by kernel_rfl)⟩
            · replace H := H.know 27 hb (by kernel_rfl)
              refine aw_false (x := .tmp 27) (by kernel_rfl) H (fun fr => by kernel_rfl) ?_
              refine aw_skip (by kernel_rfl) ?_
              exact Or.inl ⟨x1, x2, rfl, Option.some.inj hm, rfl, H.less _ (fun fr => by kernel_rfl)⟩
          · clear ho
            intro e fr hz hQ
            rcases hQ with ⟨x3, x4, rfl, rfl, rfl, H⟩ | hF
            · skip
              show AW cfg 37 (⟨h.size, []⟩ : Gd) (right (right (right (right (right (bodyC cfg.P 37)))))) fr h _
              refine aw_seq (by kernel_rfl) ?_
              refine aw_seq (by kernel_rfl) ?_
              refine aw_reg (id := 8) (n := 2) [(0, []), (1, [])] (by kernel_rfl) (by kernel_rfl) ?_
              refine at_seg [(0, []), (1, [])] [(6, .str x3), (35, .bool (!x4))] H (noU_all rfl) (fun fr => by kernel_rfl) ?_
              intro fr H
              refine at_nil ?_
              show AW cfg 37 (⟨h.size, []⟩ : Gd) (right (left (right (right (right (right (right (bodyC cfg.P 37)))))))) fr h _
              rcases iteB_some hm with ⟨hb, hm⟩ | ⟨hb, hm⟩
              · replace H := H.know 35 hb (by kernel_rfl)
                refine aw_true (x := .tmp 35) (by kernel_rfl) H (fun fr => by kernel_rfl) ?_
                refine aw_seq (by kernel_rfl) ?_
                refine aw_reg (id := 9) (n := 2) [(0, []), (1, [])] (by kernel_rfl) (by kernel_rfl) ?_
                refine at_seg [(0, []), (1, [])] [(4, .str ([] : List UInt8)), (5, .int .i64 (6 : Int))] H (noU_all rfl) (fun fr => by kernel_rfl) ?_
                intro fr H
                refine at_nil ?_
                show AW cfg 37 (⟨h.size, []⟩ : Gd) (right (left (right (left (right (right (right (right (right (bodyC cfg.P 37)))))))))) fr h _
                refine aw_ret (by kernel_rfl) ?_
                have e1 := Option.some.inj hm
                obtain ⟨u0, v0⟩ := Prod.mk.inj e1
                subst u0
                subst v0
                exact (doneE_of .ret H (fun fr => by kernel_rfl) (.inl rfl) : doneE cfg.P _ _ _ fr _)
              · replace H := H.know 35 hb (by kernel_rfl)
                refine aw_false (x := .tmp 35) (by kernel_rfl) H (fun fr => by kernel_rfl) ?_
                refine aw_skip (by kernel_rfl) ?_
                show AW cfg 37 (⟨h.size, []⟩ : Gd) (right (right (right (right (right (right (bodyC cfg.P 37))))))) fr h _
                refine aw_seq (by kernel_rfl) ?_
                refine aw_reg (id := 10) (n := 3) [(0, []), (1, []), (2, [])] (by kernel_rfl) (by kernel_rfl) ?_
                refine at_seg [(0, []), (1, []), (2, [])] [(4, .str x3), (5, .int .i64 (0 : Int))] H (noU_all rfl) (fun fr => by kernel_rfl) ?_
                intro fr H
                refine at_nil ?_
                show AW cfg 37 (⟨h.size, []⟩ : Gd) (right (right (right (right (right (right (right (bodyC cfg.P 37)))))))) fr h _
                refine aw_ret (by kernel_rfl) ?_
                have e1 := Option.some.inj hm
                obtain ⟨u0, v0⟩ := Prod.mk.inj e1
                subst u0
                subst v0
                exact (doneE_of .ret H (fun fr => by kernel_rfl) (.inl rfl) : doneE cfg.P _ _ _ fr _)
            · exact hF.elim
end Go.Abs.L
