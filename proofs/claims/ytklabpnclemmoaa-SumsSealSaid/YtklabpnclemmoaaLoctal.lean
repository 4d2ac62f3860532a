/-
  Models of functions of package octal, and that the abstract run tells them. Written by lift.py.
-/
import Derived.Test.YtklabpnclemmoaaLCfg
namespace Go.Abs.L
open Go.Abs
set_option linter.unusedVariables false
/-! ### boulter/octal.may -/
noncomputable def M_octal_may (h : AHeap) (p0 : Int) : Option (Bool) :=
 some ((decide (p0 ≥ (2 : Int))) && (decide (p0 ≤ (12 : Int))))
theorem ok_octal_may {g : Gd} {h : AHeap} {p0 : Int} {r0 : Bool} (hm : M_octal_may h p0 = some r0) : Runs cfg g h 74 [.int .i64 p0] (.bool r0) h := by
  refine runs2E (by kernel_rfl) (by kernel_rfl) (body_ofE (n := 9) (rs := [.tmp 2]) (by kernel_rfl) ?_)
  unfold M_octal_may at hm
  refine start (n := 9) [(0, .int .i64 p0)] (by kernel_rfl) (by kernel_rfl) ?_
  intro fr H
  refine aw_seq (by kernel_rfl) ?_
  refine aw_reg (id := 0) (n := 1) [(0, [])] (by kernel_rfl) (by kernel_rfl) ?_
  refine at_seg [(0, [])] [(0, .int .i64 p0)] H (noU_all rfl) (fun fr => by kernel_rfl) ?_
  intro fr H
  refine at_nil ?_
  show AW cfg 74 (⟨h.size, []⟩ : Gd) (right (bodyC cfg.P 74)) fr h _
  refine aw_seq (by kernel_rfl) ?_
  refine aw_reg (id := 1) (n := 7) [(0, []), (1, []), (2, []), (3, []), (4, []), (5, []), (6, [])] (by kernel_rfl) (by kernel_rfl) ?_
  refine at_seg [(0, []), (1, []), (2, [])] [(0, .int .i64 p0), (5, .bool (decide (p0 ≥ (2 : Int))))] H (noU_all rfl) (fun fr => by kernel_rfl) ?_
  intro fr H
  refine at_cut [(3, []), (4, []), (5, [])] (fun fr' h' => h = h' ∧ Has fr' 9 [(8, .bool ((decide (p0 ≥ (2 : Int))) && (decide (p0 ≤ (12 : Int)))))]) ?_ ?_
  · cases hb : (decide (p0 ≥ (2 : Int)) : Bool) with
    | true =>
      replace H := H.know 5 hb (by kernel_rfl)
      refine at_seg [(3, []), (4, []), (5, [])] [(8, .bool (decide (p0 ≤ (12 : Int))))] H (noU_all rfl) (fun fr => by kernel_rfl) ?_
      intro fr H
      exact at_nil ⟨rfl, by first | exact H.less _ (fun fr => by rfl) | exact H.less _ (fun fr => by rw [hb]; rfl)⟩
    | false =>
      replace H := H.know 5 hb (by kernel_rfl)
      refine at_seg [(3, []), (4, []), (5, [])] [(8, .bool false)] H (noU_all rfl) (fun fr => by kernel_rfl) ?_
      intro fr H
      exact at_nil ⟨rfl, by first | exact H.less _ (fun fr => by rfl) | exact H.less _ (fun fr => by rw [hb]; rfl)⟩
  · intro t fr h' hK
    obtain ⟨e, H⟩ := hK
    subst e
    refine at_seg [(6, [])] [(2, .bool ((decide (p0 ≥ (2 : Int))) && (decide (p0 ≤ (12 : Int)))))] H (noU_all rfl) (fun fr => by kernel_rfl) ?_
    intro fr H
    refine at_nil ?_
    show AW cfg 74 (⟨h.size, []⟩ : Gd) (right (right (bodyC cfg.P 74))) fr h _
    refine aw_ret (by kernel_rfl) ?_
    have e1 := Option.some.inj hm
    subst e1
    exact (doneE_of .ret H (fun fr => by kernel_rfl) (.inl rfl) : doneE cfg.P _ _ _ fr _)
/-! ### boulter/octal.bits -/
noncomputable def M_octal_bits_L0 (p0 : List UInt8) (s : Int × Int) : Option ((Int × Int) ⊕ ((Int) ⊕ (Int × Int))) :=
  match s with
  | (x8, x9) => iteB (decide (x9 < (p0.length : Int))) ((ixS p0 x9).bind fun x10 => iteB ((decide ((bOr .i64 (bShl .i64 x8 (8 : Int)) (IntKind.i64.wrap x10)) > (9007199254740991 : Int))) || (decide ((bOr .i64 (bShl .i64 x8 (8 : Int)) (IntKind.i64.wrap x10)) < (-9007199254740992 : Int)))) (some (.inr (.inr ((0 : Int), (6 : Int))))) (some (.inl (bOr .i64 (bShl .i64 x8 (8 : Int)) (IntKind.i64.wrap x10), IntKind.i64.wrap (x9 + (1 : Int)))))) (some (.inr (.inl x8)))
noncomputable def M_octal_bits (h : AHeap) (p0 : List UInt8) : Option (Int × Int) :=
 ((ixS p0 (0 : Int)).bind fun x2 => iteB (x2 == (255 : Int)) (some (-1 : Int)) (some (0 : Int)) : Option ((Int))).bind fun x1 => (loop (M_octal_bits_L0 p0) (x1, (1 : Int))).bind fun o2 => (match o2 with | .inl x5 => iteB (decide (x5 < (-9007199254740991 : Int))) (some ((0 : Int), (6 : Int))) (some (x5, (0 : Int))) | .inr (x6, x7) => some (x6, x7))
theorem ok_octal_bits {g : Gd} {h : AHeap} {p0 : List UInt8} {r0 : Int} {r1 : Int} (hm : M_octal_bits h p0 = some (r0, r1)) : Runs cfg g h 75 [.str p0] (.tuple [.int .i64 r0, .int .i64 r1]) h := by
  refine runs2E (by kernel_rfl) (by kernel_rfl) (body_ofE (n := 31) (rs := [.tmp 2, .tmp 3]) (by kernel_rfl) ?_)
  unfold M_octal_bits at hm
  refine start (n := 31) [(0, .str p0)] (by kernel_rfl) (by kernel_rfl) ?_
  intro fr H
  refine aw_seq (by kernel_rfl) ?_
  refine aw_reg (id := 0) (n := 2) [(0, []), (1, [])] (by kernel_rfl) (by kernel_rfl) ?_
  refine at_seg [(0, []), (1, [])] [(0, .str p0)] H (noU_all rfl) (fun fr => by kernel_rfl) ?_
  intro fr H
  refine at_nil ?_
  show AW cfg 75 (⟨h.size, []⟩ : Gd) (right (bodyC cfg.P 75)) fr h _
  refine aw_seq (by kernel_rfl) ?_
  refine aw_reg (id := 1) (n := 1) [(0, [])] (by kernel_rfl) (by kernel_rfl) ?_
  refine at_seg [(0, [])] [(0, .str p0), (4, .int .i64 (0 : Int))] H (noU_all rfl) (fun fr => by kernel_rfl) ?_
  intro fr H
  refine at_nil ?_
  show AW cfg 75 (⟨h.size, []⟩ : Gd) (right (right (bodyC cfg.P 75))) fr h _
  refine aw_seq (by kernel_rfl) ?_
  obtain ⟨o1, ho, hm⟩ := bind_some hm
  refine aw_mono (Q' := fun e fr' h' => (∃ (x1 : Int), e = .normal ∧ x1 = o1 ∧ h = h' ∧ Has fr' 31 [(0, .str p0), (4, .int .i64 x1)]) ∨ False) ?_ ?_
  · replace hm := ho
    clear ho
    refine aw_seq (by kernel_rfl) ?_
    refine aw_reg (id := 2) (n := 3) [(0, []), (1, []), (2, [])] (by kernel_rfl) (by kernel_rfl) ?_
    refine at_seg [(0, [])] [(0, .str p0), (4, .int .i64 (0 : Int)), (6, .str p0)] H (noU_all rfl) (fun fr => by kernel_rfl) ?_
    intro fr H
    obtain ⟨x2, hx, hm⟩ := bind_some hm
    refine at_step (v := .int .u8 x2) (h1 := h) [(0, .str p0), (4, .int .i64 (0 : Int)), (7, .int .u8 x2)] H (fun fr => by kernel_rfl) (fun fr => .of (s_ixS (by kernel_rfl) hx)) ?_
    intro fr t H
    refine at_seg [(2, [])] [(0, .str p0), (4, .int .i64 (0 : Int)), (8, .bool (x2 == (255 : Int)))] H (noU_all rfl) (fun fr => by kernel_rfl) ?_
    intro fr H
    refine at_nil ?_
    show AW cfg 75 (⟨h.size, []⟩ : Gd) (right (left (right (right (bodyC cfg.P 75))))) fr h _
    rcases iteB_some hm with ⟨hb, hm⟩ | ⟨hb, hm⟩
    · replace H := H.know 8 hb (by kernel_rfl)
      refine aw_true (x := .tmp 8) (by kernel_rfl) H (fun fr => by kernel_rfl) ?_
      refine aw_reg (id := 3) (n := 1) [(0, [])] (by kernel_rfl) (by kernel_rfl) ?_
      refine at_seg [(0, [])] [(0, .str p0), (4, .int .i64 (-1 : Int))] H (noU_all rfl) (fun fr => by kernel_rfl) ?_
      intro fr H
      refine at_nil ?_
      exact Or.inl ⟨(-1 : Int), rfl, Option.some.inj hm, rfl, H.less _ (fun fr => by kernel_rfl)⟩
    · replace H := H.know 8 hb (by kernel_rfl)
      refine aw_false (x := .tmp 8) (by kernel_rfl) H (fun fr => by kernel_rfl) ?_
      refine aw_skip (by kernel_rfl) ?_
      exact Or.inl ⟨(0 : Int), rfl, Option.some.inj hm, rfl, H.less _ (fun fr => by kernel_rfl)⟩
  · clear ho
    intro e fr hz hQ
    rcases hQ with ⟨x1, rfl, rfl, rfl, H⟩ | hF
    · skip
      show AW cfg 75 (⟨h.size, []⟩ : Gd) (right (right (right (bodyC cfg.P 75)))) fr h _
      refine aw_seq (by kernel_rfl) ?_
      refine aw_seq (by kernel_rfl) ?_
      refine aw_reg (id := 4) (n := 1) [(0, [])] (by kernel_rfl) (by kernel_rfl) ?_
      refine at_seg [(0, [])] [(0, .str p0), (4, .int .i64 x1), (5, .int .i64 (1 : Int))] H (noU_all rfl) (fun fr => by kernel_rfl) ?_
      intro fr H
      refine at_nil ?_
      show AW cfg 75 (⟨h.size, []⟩ : Gd) (right (left (right (right (right (bodyC cfg.P 75)))))) fr h _
      refine aw_block (id := 0) (by kernel_rfl) ?_
      obtain ⟨o2, ho, hm⟩ := bind_some hm
      refine aw_mono (Q' := fun e fr' h' => (∃ (x5 : Int), e = .exit 0 ∧ .inl x5 = o2 ∧ h = h' ∧ Has fr' 31 [(4, .int .i64 x5)]) ∨ (∃ (x6 : Int) (x7 : Int), e = .ret ∧ .inr (x6, x7) = o2 ∧ h = h' ∧ Has fr' 31 [(2, .int .i64 x6), (3, .int .i64 x7)]) ∨ False) ?_ ?_
      · refine aw_loop (by kernel_rfl) (fun (s : Int × Int) fr' h' => ∃ (x8 : Int) (x9 : Int), (x8, x9) = s ∧ h = h' ∧ Has fr' 31 [(0, .str p0), (4, .int .i64 x8), (5, .int .i64 x9)]) ho ⟨x1, (1 : Int), rfl, rfl, H.less _ (fun fr => by kernel_rfl)⟩ ?_
        clear ho hm H
        intro s q fr hz hI hm
        obtain ⟨x8, x9, rfl, rfl, H⟩ := hI
        unfold M_octal_bits_L0 at hm
        refine aw_seq (by kernel_rfl) ?_
        refine aw_seq (by kernel_rfl) ?_
        refine aw_reg (id := 5) (n := 4) [(0, []), (1, []), (2, []), (3, [])] (by kernel_rfl) (by kernel_rfl) ?_
        refine at_seg [(0, []), (1, []), (2, []), (3, [])] [(0, .str p0), (4, .int .i64 x8), (5, .int .i64 x9), (12, .bool (decide (x9 < (p0.length : Int))))] H (noU_all rfl) (fun fr => by kernel_rfl) ?_
        intro fr H
        refine at_nil ?_
        show AW cfg 75 (⟨h.size, []⟩ : Gd) (right (left (left (left (right (left (right (right (right (bodyC cfg.P 75)))))))))) fr h _
        rcases iteB_some hm with ⟨hb, hm⟩ | ⟨hb, hm⟩
        · replace H := H.know 12 hb (by kernel_rfl)
          refine aw_true (x := .tmp 12) (by kernel_rfl) H (fun fr => by kernel_rfl) ?_
          refine aw_skip (by kernel_rfl) ?_
          show AW cfg 75 (⟨h.size, []⟩ : Gd) (right (left (left (right (left (right (right (right (bodyC cfg.P 75))))))))) fr h _
          refine aw_seq (by kernel_rfl) ?_
          refine aw_block (id := 1) (by kernel_rfl) ?_
          refine aw_seq (by kernel_rfl) ?_
          refine aw_reg (id := 7) (n := 8) [(0, []), (1, []), (2, []), (3, []), (4, []), (5, []), (6, []), (7, [])] (by kernel_rfl) (by kernel_rfl) ?_
          refine at_seg [(0, []), (1, []), (2, []), (3, [])] [(0, .str p0), (5, .int .i64 x9), (16, .int .i64 (bShl .i64 x8 (8 : Int))), (17, .str p0), (18, .int .i64 x9)] H (noU_all rfl) (fun fr => by kernel_rfl) ?_
          intro fr H
          obtain ⟨x10, hx, hm⟩ := bind_some hm
          refine at_step (v := .int .u8 x10) (h1 := h) [(0, .str p0), (5, .int .i64 x9), (16, .int .i64 (bShl .i64 x8 (8 : Int))), (19, .int .u8 x10)] H (fun fr => by kernel_rfl) (fun fr => .of (s_ixS (by kernel_rfl) hx)) ?_
          intro fr t H
          refine at_seg [(5, []), (6, []), (7, [])] [(0, .str p0), (4, .int .i64 (bOr .i64 (bShl .i64 x8 (8 : Int)) (IntKind.i64.wrap x10))), (5, .int .i64 x9)] H (noU_all rfl) (fun fr => by kernel_rfl) ?_
          intro fr H
          refine at_nil ?_
          show AW cfg 75 (⟨h.size, []⟩ : Gd) (right (left (left (right (left (left (right (left (right (right (right (bodyC cfg.P 75)))))))))))) fr h _
          refine aw_seq (by kernel_rfl) ?_
          refine aw_reg (id := 8) (n := 6) [(0, []), (1, []), (2, []), (3, []), (4, []), (5, [])] (by kernel_rfl) (by kernel_rfl) ?_
          refine at_seg [(0, []), (1, []), (2, [])] [(0, .str p0), (4, .int .i64 (bOr .i64 (bShl .i64 x8 (8 : Int)) (IntKind.i64.wrap x10))), (5, .int .i64 x9), (24, .bool (decide ((bOr .i64 (bShl .i64 x8 (8 : Int)) (IntKind.i64.wrap x10)) > (9007199254740991 : Int))))] H (noU_all rfl) (fun fr => by kernel_rfl) ?_
          intro fr H
          refine at_cut [(3, []), (4, []), (5, [])] (fun fr' h' => h = h' ∧ Has fr' 31 [(0, .str p0), (4, .int .i64 (bOr .i64 (bShl .i64 x8 (8 : Int)) (IntKind.i64.wrap x10))), (5, .int .i64 x9), (27, .bool ((decide ((bOr .i64 (bShl .i64 x8 (8 : Int)) (IntKind.i64.wrap x10)) > (9007199254740991 : Int))) || (decide ((bOr .i64 (bShl .i64 x8 (8 : Int)) (IntKind.i64.wrap x10)) < (-9007199254740992 : Int)))))]) ?_ ?_
          · cases hb : (decide ((bOr .i64 (bShl .i64 x8 (8 : Int)) (IntKind.i64.wrap x10)) > (9007199254740991 : Int)) : Bool) with
            | true =>
              replace H := H.know 24 hb (by kernel_rfl)
              refine at_seg [(3, []), (4, []), (5, [])] [(0, .str p0), (4, .int .i64 (bOr .i64 (bShl .i64 x8 (8 : Int)) (IntKind.i64.wrap x10))), (5, .int .i64 x9), (27, .bool true)] H (noU_all rfl) (fun fr => by kernel_rfl) ?_
              intro fr H
              exact at_nil ⟨rfl, by first | exact H.less _ (fun fr => by rfl) | exact H.less _ (fun fr => by rw [hb]; rfl)⟩
            | false =>
              replace H := H.know 24 hb (by kernel_rfl)
              refine at_seg [(3, []), (4, []), (5, [])] [(0, .str p0), (4, .int .i64 (bOr .i64 (bShl .i64 x8 (8 : Int)) (IntKind.i64.wrap x10))), (5, .int .i64 x9), (27, .bool (decide ((bOr .i64 (bShl .i64 x8 (8 : Int)) (IntKind.i64.wrap x10)) < (-9007199254740992 : Int))))] H (noU_all rfl) (fun fr => by kernel_rfl) ?_
              intro fr H
              exact at_nil ⟨rfl, by first | exact H.less _ (fun fr => by rfl) | exact H.less _ (fun fr => by rw [hb]; rfl)⟩
          · intro t fr h' hK
            obtain ⟨e, H⟩ := hK
            subst e
            refine at_nil ?_
            show AW cfg 75 (⟨h.size, []⟩ : Gd) (right (right (left (left (right (left (left (right (left (right (right (right (bodyC cfg.P 75))))))))))))) fr h _
            rcases iteB_some hm with ⟨hb, hm⟩ | ⟨hb, hm⟩
            · replace H := H.know 27 hb (by kernel_rfl)
              refine aw_true (x := .tmp 27) (by kernel_rfl) H (fun fr => by kernel_rfl) ?_
              refine aw_seq (by kernel_rfl) ?_
              refine aw_reg (id := 9) (n := 2) [(0, []), (1, [])] (by kernel_rfl) (by kernel_rfl) ?_
              refine at_seg [(0, []), (1, [])] [(2, .int .i64 (0 : Int)), (3, .int .i64 (6 : Int))] H (noU_all rfl) (fun fr => by kernel_rfl) ?_
              intro fr H
              refine at_nil ?_
              show AW cfg 75 (⟨h.size, []⟩ : Gd) (right (left (right (right (left (left (right (left (left (right (left (right (right (right (bodyC cfg.P 75))))))))))))))) fr h _
              refine aw_ret (by kernel_rfl) ?_
              exact Exists.intro _ (And.intro (Option.some.inj hm).symm (fun e => Or.inr (Or.inl ⟨(0 : Int), (6 : Int), rfl, e, rfl, H.less _ (fun fr => by kernel_rfl)⟩)))
            · replace H := H.know 27 hb (by kernel_rfl)
              refine aw_false (x := .tmp 27) (by kernel_rfl) H (fun fr => by kernel_rfl) ?_
              refine aw_skip (by kernel_rfl) ?_
              show AW cfg 75 (⟨h.size, []⟩ : Gd) (right (right (left (left (right (left (right (right (right (bodyC cfg.P 75)))))))))) fr h _
              refine aw_reg (id := 6) (n := 3) [(0, []), (1, []), (2, [])] (by kernel_rfl) (by kernel_rfl) ?_
              refine at_seg [(0, []), (1, []), (2, [])] [(0, .str p0), (4, .int .i64 (bOr .i64 (bShl .i64 x8 (8 : Int)) (IntKind.i64.wrap x10))), (5, .int .i64 (IntKind.i64.wrap (x9 + (1 : Int))))] H (noU_all rfl) (fun fr => by kernel_rfl) ?_
              intro fr H
              refine at_nil ?_
              exact Exists.intro (bOr .i64 (bShl .i64 x8 (8 : Int)) (IntKind.i64.wrap x10), IntKind.i64.wrap (x9 + (1 : Int))) (And.intro (Option.some.inj hm).symm ⟨bOr .i64 (bShl .i64 x8 (8 : Int)) (IntKind.i64.wrap x10), IntKind.i64.wrap (x9 + (1 : Int)), rfl, rfl, H.less _ (fun fr => by kernel_rfl)⟩)
        · replace H := H.know 12 hb (by kernel_rfl)
          refine aw_false (x := .tmp 12) (by kernel_rfl) H (fun fr => by kernel_rfl) ?_
          refine aw_exit (i := 0) (by kernel_rfl) ?_
          exact Exists.intro _ (And.intro (Option.some.inj hm).symm (fun e => Or.inl ⟨x8, rfl, e, rfl, H.less _ (fun fr => by kernel_rfl)⟩))
      · clear ho
        intro e fr hz hQ
        rcases hQ with ⟨x5, rfl, rfl, rfl, H⟩ | ⟨x6, x7, rfl, rfl, rfl, H⟩ | hF
        · skip
          show AW cfg 75 (⟨h.size, []⟩ : Gd) (right (right (right (right (bodyC cfg.P 75))))) fr h _
          refine aw_seq (by kernel_rfl) ?_
          refine aw_seq (by kernel_rfl) ?_
          refine aw_reg (id := 10) (n := 2) [(0, []), (1, [])] (by kernel_rfl) (by kernel_rfl) ?_
          refine at_seg [(0, []), (1, [])] [(4, .int .i64 x5), (29, .bool (decide (x5 < (-9007199254740991 : Int))))] H (noU_all rfl) (fun fr => by kernel_rfl) ?_
          intro fr H
          refine at_nil ?_
          show AW cfg 75 (⟨h.size, []⟩ : Gd) (right (left (right (right (right (right (bodyC cfg.P 75))))))) fr h _
          rcases iteB_some hm with ⟨hb, hm⟩ | ⟨hb, hm⟩
          · replace H := H.know 29 hb (by kernel_rfl)
            refine aw_true (x := .tmp 29) (by kernel_rfl) H (fun fr => by kernel_rfl) ?_
            refine aw_seq (by kernel_rfl) ?_
            refine aw_reg (id := 11) (n := 2) [(0, []), (1, [])] (by kernel_rfl) (by kernel_rfl) ?_
            refine at_seg [(0, []), (1, [])] [(2, .int .i64 (0 : Int)), (3, .int .i64 (6 : Int))] H (noU_all rfl) (fun fr => by kernel_rfl) ?_
            intro fr H
            refine at_nil ?_
            show AW cfg 75 (⟨h.size, []⟩ : Gd) (right (left (right (left (right (right (right (right (bodyC cfg.P 75))))))))) fr h _
            refine aw_ret (by kernel_rfl) ?_
            have e1 := Option.some.inj hm
            obtain ⟨u0, v0⟩ := Prod.mk.inj e1
            subst u0
            subst v0
            exact (doneE_of .ret H (fun fr => by kernel_rfl) (.inl rfl) : doneE cfg.P _ _ _ fr _)
          · replace H := H.know 29 hb (by kernel_rfl)
            refine aw_false (x := .tmp 29) (by kernel_rfl) H (fun fr => by kernel_rfl) ?_
            refine aw_skip (by kernel_rfl) ?_
            show AW cfg 75 (⟨h.size, []⟩ : Gd) (right (right (right (right (right (bodyC cfg.P 75)))))) fr h _
            refine aw_seq (by kernel_rfl) ?_
            refine aw_reg (id := 12) (n := 3) [(0, []), (1, []), (2, [])] (by kernel_rfl) (by kernel_rfl) ?_
            refine at_seg [(0, []), (1, []), (2, [])] [(2, .int .i64 x5), (3, .int .i64 (0 : Int))] H (noU_all rfl) (fun fr => by kernel_rfl) ?_
            intro fr H
            refine at_nil ?_
            show AW cfg 75 (⟨h.size, []⟩ : Gd) (right (right (right (right (right (right (bodyC cfg.P 75))))))) fr h _
            refine aw_ret (by kernel_rfl) ?_
            have e1 := Option.some.inj hm
            obtain ⟨u0, v0⟩ := Prod.mk.inj e1
            subst u0
            subst v0
            exact (doneE_of .ret H (fun fr => by kernel_rfl) (.inl rfl) : doneE cfg.P _ _ _ fr _)
        · skip
          have e1 := Option.some.inj hm
          obtain ⟨u0, v0⟩ := Prod.mk.inj e1
          subst u0
          subst v0
          exact (doneE_of .ret H (fun fr => by kernel_rfl) (.inl rfl) : doneE cfg.P _ _ _ fr _)
        · exact hF.elim
    · exact hF.elim
/-! ### boulter/octal.digits -/
noncomputable def M_octal_digits_L0 (p0 : List UInt8) (s : Int × Int × Bool × Int) : Option ((Int × Int × Bool × Int) ⊕ ((Int × Bool) ⊕ (Int × Int))) :=
  match s with
  | (x9, x10, x11, x12) => iteB (decide (x12 < (p0.length : Int))) (((ixS p0 x12).bind fun x18 => iteB (((decide (x18 ≥ (48 : Int))) && (decide (x18 ≤ (55 : Int)))) && (x9 != (2 : Int))) (iteB (decide ((bOr .i64 (bShl .i64 x10 (3 : Int)) (IntKind.i64.wrap (IntKind.u8.wrap (x18 - (48 : Int))))) > (9007199254740991 : Int))) (some (.inl ((1 : Int), (0 : Int), true))) (some (.inl ((1 : Int), bOr .i64 (bShl .i64 x10 (3 : Int)) (IntKind.i64.wrap (IntKind.u8.wrap (x18 - (48 : Int)))), x11)))) (iteB ((x18 == (32 : Int)) && (x9 == (0 : Int))) (some (.inl (x9, x10, x11))) (iteB ((x18 == (32 : Int)) || (x18 == (0 : Int))) (some (.inl ((2 : Int), x10, x11))) (some (.inr ((0 : Int), (2 : Int)))))) : Option ((Int × Int × Bool) ⊕ (Int × Int))).bind fun o2 => (match o2 with | .inl (x13, x14, x15) => some (.inl (x13, x14, x15, IntKind.i64.wrap (x12 + (1 : Int)))) | .inr (x16, x17) => some (.inr (.inr (x16, x17))))) (some (.inr (.inl (x10, x11))))
noncomputable def M_octal_digits (h : AHeap) (p0 : List UInt8) : Option (Int × Int) :=
 (loop (M_octal_digits_L0 p0) ((0 : Int), (0 : Int), false, (0 : Int))).bind fun o1 => (match o1 with | .inl (x5, x6) => iteB x6 (some ((0 : Int), (6 : Int))) (some (x5, (0 : Int))) | .inr (x7, x8) => some (x7, x8))
theorem ok_octal_digits {g : Gd} {h : AHeap} {p0 : List UInt8} {r0 : Int} {r1 : Int} (hm : M_octal_digits h p0 = some (r0, r1)) : Runs cfg g h 76 [.str p0] (.tuple [.int .i64 r0, .int .i64 r1]) h := by
  refine runs2E (by kernel_rfl) (by kernel_rfl) (body_ofE (n := 53) (rs := [.tmp 2, .tmp 3]) (by kernel_rfl) ?_)
  unfold M_octal_digits at hm
  refine start (n := 53) [(0, .str p0)] (by kernel_rfl) (by kernel_rfl) ?_
  intro fr H
  refine aw_seq (by kernel_rfl) ?_
  refine aw_reg (id := 0) (n := 2) [(0, []), (1, [])] (by kernel_rfl) (by kernel_rfl) ?_
  refine at_seg [(0, []), (1, [])] [(0, .str p0)] H (noU_all rfl) (fun fr => by kernel_rfl) ?_
  intro fr H
  refine at_nil ?_
  show AW cfg 76 (⟨h.size, []⟩ : Gd) (right (bodyC cfg.P 76)) fr h _
  refine aw_scope (by kernel_rfl) ?_
  refine aw_seq (by kernel_rfl) ?_
  refine aw_reg (id := 1) (n := 2) [(0, []), (1, [])] (by kernel_rfl) (by kernel_rfl) ?_
  refine at_seg [(0, []), (1, [])] [(0, .str p0), (4, .int .i64 (0 : Int)), (5, .int .i64 (0 : Int))] H (noU_all rfl) (fun fr => by kernel_rfl) ?_
  intro fr H
  refine at_nil ?_
  show AW cfg 76 (⟨h.size, []⟩ : Gd) (right (left (right (bodyC cfg.P 76)))) fr h _
  refine aw_seq (by kernel_rfl) ?_
  refine aw_reg (id := 2) (n := 1) [(0, [])] (by kernel_rfl) (by kernel_rfl) ?_
  refine at_seg [(0, [])] [(0, .str p0), (4, .int .i64 (0 : Int)), (5, .int .i64 (0 : Int)), (6, .bool false)] H (noU_all rfl) (fun fr => by kernel_rfl) ?_
  intro fr H
  refine at_nil ?_
  show AW cfg 76 (⟨h.size, []⟩ : Gd) (right (right (left (right (bodyC cfg.P 76))))) fr h _
  refine aw_seq (by kernel_rfl) ?_
  refine aw_label (by kernel_rfl) ?_
  show AW cfg 76 (⟨h.size, []⟩ : Gd) (right (right (right (left (right (bodyC cfg.P 76)))))) fr h _
  refine aw_seq (by kernel_rfl) ?_
  refine aw_seq (by kernel_rfl) ?_
  refine aw_reg (id := 3) (n := 3) [(0, []), (1, []), (2, [])] (by kernel_rfl) (by kernel_rfl) ?_
  refine at_seg [(0, []), (1, []), (2, [])] [(0, .str p0), (4, .int .i64 (0 : Int)), (5, .int .i64 (0 : Int)), (6, .bool false), (10, .int .i64 (p0.length : Int)), (11, .int .i64 (0 : Int))] H (noU_all rfl) (fun fr => by kernel_rfl) ?_
  intro fr H
  refine at_nil ?_
  show AW cfg 76 (⟨h.size, []⟩ : Gd) (right (left (right (right (right (left (right (bodyC cfg.P 76)))))))) fr h _
  refine aw_block (id := 0) (by kernel_rfl) ?_
  obtain ⟨o1, ho, hm⟩ := bind_some hm
  refine aw_mono (Q' := fun e fr' h' => (∃ (x5 : Int) (x6 : Bool), e = .exit 0 ∧ .inl (x5, x6) = o1 ∧ h = h' ∧ Has fr' 53 [(5, .int .i64 x5), (6, .bool x6)]) ∨ (∃ (x7 : Int) (x8 : Int), e = .ret ∧ .inr (x7, x8) = o1 ∧ h = h' ∧ Has fr' 53 [(2, .int .i64 x7), (3, .int .i64 x8)]) ∨ False) ?_ ?_
  · refine aw_loop (by kernel_rfl) (fun (s : Int × Int × Bool × Int) fr' h' => ∃ (x9 : Int) (x10 : Int) (x11 : Bool) (x12 : Int), (x9, x10, x11, x12) = s ∧ h = h' ∧ Has fr' 53 [(0, .str p0), (4, .int .i64 x9), (5, .int .i64 x10), (6, .bool x11), (10, .int .i64 (p0.length : Int)), (11, .int .i64 x12)]) ho ⟨(0 : Int), (0 : Int), false, (0 : Int), rfl, rfl, H.less _ (fun fr => by kernel_rfl)⟩ ?_
    clear ho hm H
    intro s q fr hz hI hm
    obtain ⟨x9, x10, x11, x12, rfl, rfl, H⟩ := hI
    unfold M_octal_digits_L0 at hm
    refine aw_seq (by kernel_rfl) ?_
    refine aw_reg (id := 4) (n := 1) [(0, [])] (by kernel_rfl) (by kernel_rfl) ?_
    refine at_seg [(0, [])] [(0, .str p0), (4, .int .i64 x9), (5, .int .i64 x10), (6, .bool x11), (10, .int .i64 (p0.length : Int)), (11, .int .i64 x12), (12, .bool (decide (x12 < (p0.length : Int))))] H (noU_all rfl) (fun fr => by kernel_rfl) ?_
    intro fr H
    refine at_nil ?_
    show AW cfg 76 (⟨h.size, []⟩ : Gd) (right (left (left (right (left (right (right (right (left (right (bodyC cfg.P 76))))))))))) fr h _
    refine aw_seq (by kernel_rfl) ?_
    rcases iteB_some hm with ⟨hb, hm⟩ | ⟨hb, hm⟩
    · replace H := H.know 12 hb (by kernel_rfl)
      refine aw_true (x := .tmp 12) (by kernel_rfl) H (fun fr => by kernel_rfl) ?_
      refine aw_skip (by kernel_rfl) ?_
      show AW cfg 76 (⟨h.size, []⟩ : Gd) (right (right (left (left (right (left (right (right (right (left (right (bodyC cfg.P 76)))))))))))) fr h _
      refine aw_seq (by kernel_rfl) ?_
      obtain ⟨o2, ho, hm⟩ := bind_some hm
      refine aw_mono (Q' := fun e fr' h' => (∃ (x13 : Int) (x14 : Int) (x15 : Bool), e = .normal ∧ .inl (x13, x14, x15) = o2 ∧ h = h' ∧ Has fr' 53 [(0, .str p0), (4, .int .i64 x13), (5, .int .i64 x14), (6, .bool x15), (10, .int .i64 (p0.length : Int)), (11, .int .i64 x12)]) ∨ (∃ (x16 : Int) (x17 : Int), e = .ret ∧ .inr (x16, x17) = o2 ∧ h = h' ∧ Has fr' 53 [(2, .int .i64 x16), (3, .int .i64 x17)]) ∨ False) ?_ ?_
      · replace hm := ho
        clear ho
        refine aw_block (id := 1) (by kernel_rfl) ?_
        refine aw_seq (by kernel_rfl) ?_
        refine aw_reg (id := 5) (n := 2) [(0, []), (1, [])] (by kernel_rfl) (by kernel_rfl) ?_
        refine at_seg [(0, []), (1, [])] [(0, .str p0), (4, .int .i64 x9), (5, .int .i64 x10), (6, .bool x11), (7, .int .i64 x12), (10, .int .i64 (p0.length : Int)), (11, .int .i64 x12)] H (noU_all rfl) (fun fr => by kernel_rfl) ?_
        intro fr H
        refine at_nil ?_
        show AW cfg 76 (⟨h.size, []⟩ : Gd) (right (left (left (right (right (left (left (right (left (right (right (right (left (right (bodyC cfg.P 76))))))))))))))) fr h _
        refine aw_seq (by kernel_rfl) ?_
        refine aw_reg (id := 6) (n := 4) [(0, []), (1, []), (2, []), (3, [])] (by kernel_rfl) (by kernel_rfl) ?_
        refine at_seg [(0, []), (1, [])] [(0, .str p0), (4, .int .i64 x9), (5, .int .i64 x10), (6, .bool x11), (10, .int .i64 (p0.length : Int)), (11, .int .i64 x12), (14, .str p0), (15, .int .i64 x12)] H (noU_all rfl) (fun fr => by kernel_rfl) ?_
        intro fr H
        obtain ⟨x18, hx, hm⟩ := bind_some hm
        refine at_step (v := .int .u8 x18) (h1 := h) [(0, .str p0), (4, .int .i64 x9), (5, .int .i64 x10), (6, .bool x11), (10, .int .i64 (p0.length : Int)), (11, .int .i64 x12), (16, .int .u8 x18)] H (fun fr => by kernel_rfl) (fun fr => .of (s_ixS (by kernel_rfl) hx)) ?_
        intro fr t H
        refine at_seg [(3, [])] [(0, .str p0), (4, .int .i64 x9), (5, .int .i64 x10), (6, .bool x11), (8, .int .u8 x18), (10, .int .i64 (p0.length : Int)), (11, .int .i64 x12)] H (noU_all rfl) (fun fr => by kernel_rfl) ?_
        intro fr H
        refine at_nil ?_
        show AW cfg 76 (⟨h.size, []⟩ : Gd) (right (right (left (left (right (right (left (left (right (left (right (right (right (left (right (bodyC cfg.P 76)))))))))))))))) fr h _
        refine aw_seq (by kernel_rfl) ?_
        refine aw_block (id := 2) (by kernel_rfl) ?_
        refine aw_seq (by kernel_rfl) ?_
        refine aw_reg (id := 7) (n := 11) [(0, []), (1, []), (2, []), (3, []), (4, []), (5, []), (6, []), (7, []), (8, []), (9, []), (10, [])] (by kernel_rfl) (by kernel_rfl) ?_
        refine at_seg [(0, []), (1, []), (2, [])] [(0, .str p0), (4, .int .i64 x9), (5, .int .i64 x10), (6, .bool x11), (8, .int .u8 x18), (10, .int .i64 (p0.length : Int)), (11, .int .i64 x12), (20, .bool (decide (x18 ≥ (48 : Int))))] H (noU_all rfl) (fun fr => by kernel_rfl) ?_
        intro fr H
        refine at_cut [(3, []), (4, []), (5, [])] (fun fr' h' => h = h' ∧ Has fr' 53 [(0, .str p0), (4, .int .i64 x9), (5, .int .i64 x10), (6, .bool x11), (8, .int .u8 x18), (10, .int .i64 (p0.length : Int)), (11, .int .i64 x12), (23, .bool ((decide (x18 ≥ (48 : Int))) && (decide (x18 ≤ (55 : Int)))))]) ?_ ?_
        · cases hb : (decide (x18 ≥ (48 : Int)) : Bool) with
          | true =>
            replace H := H.know 20 hb (by kernel_rfl)
            refine at_seg [(3, []), (4, []), (5, [])] [(0, .str p0), (4, .int .i64 x9), (5, .int .i64 x10), (6, .bool x11), (8, .int .u8 x18), (10, .int .i64 (p0.length : Int)), (11, .int .i64 x12), (23, .bool (decide (x18 ≤ (55 : Int))))] H (noU_all rfl) (fun fr => by kernel_rfl) ?_
            intro fr H
            exact at_nil ⟨rfl, by first | exact H.less _ (fun fr => by rfl) | exact H.less _ (fun fr => by rw [hb]; rfl)⟩
          | false =>
            replace H := H.know 20 hb (by kernel_rfl)
            refine at_seg [(3, []), (4, []), (5, [])] [(0, .str p0), (4, .int .i64 x9), (5, .int .i64 x10), (6, .bool x11), (8, .int .u8 x18), (10, .int .i64 (p0.length : Int)), (11, .int .i64 x12), (23, .bool false)] H (noU_all rfl) (fun fr => by kernel_rfl) ?_
            intro fr H
            exact at_nil ⟨rfl, by first | exact H.less _ (fun fr => by rfl) | exact H.less _ (fun fr => by rw [hb]; rfl)⟩
        · intro t fr h' hK
          obtain ⟨e, H⟩ := hK
          subst e
          refine at_seg [(6, [])] [(0, .str p0), (4, .int .i64 x9), (5, .int .i64 x10), (6, .bool x11), (8, .int .u8 x18), (10, .int .i64 (p0.length : Int)), (11, .int .i64 x12), (24, .bool ((decide (x18 ≥ (48 : Int))) && (decide (x18 ≤ (55 : Int)))))] H (noU_all rfl) (fun fr => by kernel_rfl) ?_
          intro fr H
          refine at_cut [(7, []), (8, []), (9, [])] (fun fr' h' => h = h' ∧ Has fr' 53 [(0, .str p0), (4, .int .i64 x9), (5, .int .i64 x10), (6, .bool x11), (8, .int .u8 x18), (10, .int .i64 (p0.length : Int)), (11, .int .i64 x12), (27, .bool (((decide (x18 ≥ (48 : Int))) && (decide (x18 ≤ (55 : Int)))) && (x9 != (2 : Int))))]) ?_ ?_
          · cases hb : ((decide (x18 ≥ (48 : Int))) && (decide (x18 ≤ (55 : Int))) : Bool) with
            | true =>
              replace H := H.know 24 hb (by kernel_rfl)
              refine at_seg [(7, []), (8, []), (9, [])] [(0, .str p0), (4, .int .i64 x9), (5, .int .i64 x10), (6, .bool x11), (8, .int .u8 x18), (10, .int .i64 (p0.length : Int)), (11, .int .i64 x12), (27, .bool (x9 != (2 : Int)))] H (noU_all rfl) (fun fr => by kernel_rfl) ?_
              intro fr H
              exact at_nil ⟨rfl, by first | exact H.less _ (fun fr => by rfl) | exact H.less _ (fun fr => by rw [hb]; rfl)⟩
            | false =>
              replace H := H.know 24 hb (by kernel_rfl)
              refine at_seg [(7, []), (8, []), (9, [])] [(0, .str p0), (4, .int .i64 x9), (5, .int .i64 x10), (6, .bool x11), (8, .int .u8 x18), (10, .int .i64 (p0.length : Int)), (11, .int .i64 x12), (27, .bool false)] H (noU_all rfl) (fun fr => by kernel_rfl) ?_
              intro fr H
              exact at_nil ⟨rfl, by first | exact H.less _ (fun fr => by rfl) | exact H.less _ (fun fr => by rw [hb]; rfl)⟩
          · intro t fr h' hK
            obtain ⟨e, H⟩ := hK
            subst e
            refine at_seg [(10, [])] [(0, .str p0), (4, .int .i64 x9), (5, .int .i64 x10), (6, .bool x11), (8, .int .u8 x18), (10, .int .i64 (p0.length : Int)), (11, .int .i64 x12), (17, .bool (((decide (x18 ≥ (48 : Int))) && (decide (x18 ≤ (55 : Int)))) && (x9 != (2 : Int))))] H (noU_all rfl) (fun fr => by kernel_rfl) ?_
            intro fr H
            refine at_nil ?_
            show AW cfg 76 (⟨h.size, []⟩ : Gd) (right (left (left (right (right (left (left (right (right (left (left (right (left (right (right (right (left (right (bodyC cfg.P 76))))))))))))))))))) fr h _
            rcases iteB_some hm with ⟨hb, hm⟩ | ⟨hb, hm⟩
            · replace H := H.know 17 hb (by kernel_rfl)
              refine aw_true (x := .tmp 17) (by kernel_rfl) H (fun fr => by kernel_rfl) ?_
              refine aw_seq (by kernel_rfl) ?_
              refine aw_reg (id := 8) (n := 1) [(0, [])] (by kernel_rfl) (by kernel_rfl) ?_
              refine at_seg [(0, [])] [(0, .str p0), (4, .int .i64 (1 : Int)), (5, .int .i64 x10), (6, .bool x11), (8, .int .u8 x18), (10, .int .i64 (p0.length : Int)), (11, .int .i64 x12)] H (noU_all rfl) (fun fr => by kernel_rfl) ?_
              intro fr H
              refine at_nil ?_
              show AW cfg 76 (⟨h.size, []⟩ : Gd) (right (left (right (left (left (right (right (left (left (right (right (left (left (right (left (right (right (right (left (right (bodyC cfg.P 76))))))))))))))))))))) fr h _
              refine aw_seq (by kernel_rfl) ?_
              refine aw_seq (by kernel_rfl) ?_
              refine aw_reg (id := 9) (n := 7) [(0, []), (1, []), (2, []), (3, []), (4, []), (5, []), (6, [])] (by kernel_rfl) (by kernel_rfl) ?_
              refine at_seg [(0, []), (1, []), (2, []), (3, []), (4, []), (5, []), (6, [])] [(0, .str p0), (4, .int .i64 (1 : Int)), (5, .int .i64 (bOr .i64 (bShl .i64 x10 (3 : Int)) (IntKind.i64.wrap (IntKind.u8.wrap (x18 - (48 : Int)))))), (6, .bool x11), (10, .int .i64 (p0.length : Int)), (11, .int .i64 x12)] H (noU_all rfl) (fun fr => by kernel_rfl) ?_
              intro fr H
              refine at_nil ?_
              show AW cfg 76 (⟨h.size, []⟩ : Gd) (right (left (right (left (right (left (left (right (right (left (left (right (right (left (left (right (left (right (right (right (left (right (bodyC cfg.P 76))))))))))))))))))))))) fr h _
              refine aw_seq (by kernel_rfl) ?_
              refine aw_reg (id := 10) (n := 2) [(0, []), (1, [])] (by kernel_rfl) (by kernel_rfl) ?_
              refine at_seg [(0, []), (1, [])] [(0, .str p0), (4, .int .i64 (1 : Int)), (5, .int .i64 (bOr .i64 (bShl .i64 x10 (3 : Int)) (IntKind.i64.wrap (IntKind.u8.wrap (x18 - (48 : Int)))))), (6, .bool x11), (10, .int .i64 (p0.length : Int)), (11, .int .i64 x12), (35, .bool (decide ((bOr .i64 (bShl .i64 x10 (3 : Int)) (IntKind.i64.wrap (IntKind.u8.wrap (x18 - (48 : Int))))) > (9007199254740991 : Int))))] H (noU_all rfl) (fun fr => by kernel_rfl) ?_
              intro fr H
              refine at_nil ?_
              show AW cfg 76 (⟨h.size, []⟩ : Gd) (right (right (left (right (left (right (left (left (right (right (left (left (right (right (left (left (right (left (right (right (right (left (right (bodyC cfg.P 76)))))))))))))))))))))))) fr h _
              rcases iteB_some hm with ⟨hb, hm⟩ | ⟨hb, hm⟩
              · replace H := H.know 35 hb (by kernel_rfl)
                refine aw_true (x := .tmp 35) (by kernel_rfl) H (fun fr => by kernel_rfl) ?_
                refine aw_reg (id := 11) (n := 2) [(0, []), (1, [])] (by kernel_rfl) (by kernel_rfl) ?_
                refine at_seg [(0, []), (1, [])] [(0, .str p0), (4, .int .i64 (1 : Int)), (5, .int .i64 (0 : Int)), (6, .bool true), (10, .int .i64 (p0.length : Int)), (11, .int .i64 x12)] H (noU_all rfl) (fun fr => by kernel_rfl) ?_
                intro fr H
                refine at_nil ?_
                show AW cfg 76 (⟨h.size, []⟩ : Gd) (right (right (left (right (left (left (right (right (left (left (right (right (left (left (right (left (right (right (right (left (right (bodyC cfg.P 76)))))))))))))))))))))) fr h _
                refine aw_exit (i := 1) (by kernel_rfl) ?_
                exact Or.inl ⟨(1 : Int), (0 : Int), true, rfl, Option.some.inj hm, rfl, H.less _ (fun fr => by kernel_rfl)⟩
              · replace H := H.know 35 hb (by kernel_rfl)
                refine aw_false (x := .tmp 35) (by kernel_rfl) H (fun fr => by kernel_rfl) ?_
                refine aw_skip (by kernel_rfl) ?_
                show AW cfg 76 (⟨h.size, []⟩ : Gd) (right (right (left (right (left (left (right (right (left (left (right (right (left (left (right (left (right (right (right (left (right (bodyC cfg.P 76)))))))))))))))))))))) fr h _
                refine aw_exit (i := 1) (by kernel_rfl) ?_
                exact Or.inl ⟨(1 : Int), bOr .i64 (bShl .i64 x10 (3 : Int)) (IntKind.i64.wrap (IntKind.u8.wrap (x18 - (48 : Int)))), x11, rfl, Option.some.inj hm, rfl, H.less _ (fun fr => by kernel_rfl)⟩
            · replace H := H.know 17 hb (by kernel_rfl)
              refine aw_false (x := .tmp 17) (by kernel_rfl) H (fun fr => by kernel_rfl) ?_
              refine aw_seq (by kernel_rfl) ?_
              refine aw_reg (id := 12) (n := 7) [(0, []), (1, []), (2, []), (3, []), (4, []), (5, []), (6, [])] (by kernel_rfl) (by kernel_rfl) ?_
              refine at_seg [(0, []), (1, []), (2, [])] [(0, .str p0), (4, .int .i64 x9), (5, .int .i64 x10), (6, .bool x11), (8, .int .u8 x18), (10, .int .i64 (p0.length : Int)), (11, .int .i64 x12), (39, .bool (x18 == (32 : Int)))] H (noU_all rfl) (fun fr => by kernel_rfl) ?_
              intro fr H
              refine at_cut [(3, []), (4, []), (5, [])] (fun fr' h' => h = h' ∧ Has fr' 53 [(0, .str p0), (4, .int .i64 x9), (5, .int .i64 x10), (6, .bool x11), (8, .int .u8 x18), (10, .int .i64 (p0.length : Int)), (11, .int .i64 x12), (42, .bool ((x18 == (32 : Int)) && (x9 == (0 : Int))))]) ?_ ?_
              · cases hb : (x18 == (32 : Int) : Bool) with
                | true =>
                  replace H := H.know 39 hb (by kernel_rfl)
                  refine at_seg [(3, []), (4, []), (5, [])] [(0, .str p0), (4, .int .i64 x9), (5, .int .i64 x10), (6, .bool x11), (8, .int .u8 x18), (10, .int .i64 (p0.length : Int)), (11, .int .i64 x12), (42, .bool (x9 == (0 : Int)))] H (noU_all rfl) (fun fr => by kernel_rfl) ?_
                  intro fr H
                  exact at_nil ⟨rfl, by first | exact H.less _ (fun fr => by rfl) | exact H.less _ (fun fr => by rw [hb]; rfl)⟩
                | false =>
                  replace H := H.know 39 hb (by kernel_rfl)
                  refine at_seg [(3, []), (4, []), (5, [])] [(0, .str p0), (4, .int .i64 x9), (5, .int .i64 x10), (6, .bool x11), (8, .int .u8 x18), (10, .int .i64 (p0.length : Int)), (11, .int .i64 x12), (42, .bool false)] H (noU_all rfl) (fun fr => by kernel_rfl) ?_
                  intro fr H
                  exact at_nil ⟨rfl, by first | exact H.less _ (fun fr => by rfl) | exact H.less _ (fun fr => by rw [hb]; rfl)⟩
              · intro t fr h' hK
                obtain ⟨e, H⟩ := hK
                subst e
                refine at_seg [(6, [])] [(0, .str p0), (4, .int .i64 x9), (5, .int .i64 x10), (6, .bool x11), (8, .int .u8 x18), (10, .int .i64 (p0.length : Int)), (11, .int .i64 x12), (36, .bool ((x18 == (32 : Int)) && (x9 == (0 : Int))))] H (noU_all rfl) (fun fr => by kernel_rfl) ?_
                intro fr H
                refine at_nil ?_
                show AW cfg 76 (⟨h.size, []⟩ : Gd) (right (right (right (left (left (right (right (left (left (right (right (left (left (right (left (right (right (right (left (right (bodyC cfg.P 76))))))))))))))))))))) fr h _
                rcases iteB_some hm with ⟨hb, hm⟩ | ⟨hb, hm⟩
                · replace H := H.know 36 hb (by kernel_rfl)
                  refine aw_true (x := .tmp 36) (by kernel_rfl) H (fun fr => by kernel_rfl) ?_
                  refine aw_exit (i := 1) (by kernel_rfl) ?_
                  exact Or.inl ⟨x9, x10, x11, rfl, Option.some.inj hm, rfl, H.less _ (fun fr => by kernel_rfl)⟩
                · replace H := H.know 36 hb (by kernel_rfl)
                  refine aw_false (x := .tmp 36) (by kernel_rfl) H (fun fr => by kernel_rfl) ?_
                  refine aw_seq (by kernel_rfl) ?_
                  refine aw_reg (id := 13) (n := 7) [(0, []), (1, []), (2, []), (3, []), (4, []), (5, []), (6, [])] (by kernel_rfl) (by kernel_rfl) ?_
                  refine at_seg [(0, []), (1, []), (2, [])] [(0, .str p0), (5, .int .i64 x10), (6, .bool x11), (8, .int .u8 x18), (10, .int .i64 (p0.length : Int)), (11, .int .i64 x12), (46, .bool (x18 == (32 : Int)))] H (noU_all rfl) (fun fr => by kernel_rfl) ?_
                  intro fr H
                  refine at_cut [(3, []), (4, []), (5, [])] (fun fr' h' => h = h' ∧ Has fr' 53 [(0, .str p0), (5, .int .i64 x10), (6, .bool x11), (10, .int .i64 (p0.length : Int)), (11, .int .i64 x12), (49, .bool ((x18 == (32 : Int)) || (x18 == (0 : Int))))]) ?_ ?_
                  · cases hb : (x18 == (32 : Int) : Bool) with
                    | true =>
                      replace H := H.know 46 hb (by kernel_rfl)
                      refine at_seg [(3, []), (4, []), (5, [])] [(0, .str p0), (5, .int .i64 x10), (6, .bool x11), (10, .int .i64 (p0.length : Int)), (11, .int .i64 x12), (49, .bool true)] H (noU_all rfl) (fun fr => by kernel_rfl) ?_
                      intro fr H
                      exact at_nil ⟨rfl, by first | exact H.less _ (fun fr => by rfl) | exact H.less _ (fun fr => by rw [hb]; rfl)⟩
                    | false =>
                      replace H := H.know 46 hb (by kernel_rfl)
                      refine at_seg [(3, []), (4, []), (5, [])] [(0, .str p0), (5, .int .i64 x10), (6, .bool x11), (10, .int .i64 (p0.length : Int)), (11, .int .i64 x12), (49, .bool (x18 == (0 : Int)))] H (noU_all rfl) (fun fr => by kernel_rfl) ?_
                      intro fr H
                      exact at_nil ⟨rfl, by first | exact H.less _ (fun fr => by rfl) | exact H.less _ (fun fr => by rw [hb]; rfl)⟩
                  · intro t fr h' hK
                    obtain ⟨e, H⟩ := hK
                    subst e
                    refine at_seg [(6, [])] [(0, .str p0), (5, .int .i64 x10), (6, .bool x11), (10, .int .i64 (p0.length : Int)), (11, .int .i64 x12), (43, .bool ((x18 == (32 : Int)) || (x18 == (0 : Int))))] H (noU_all rfl) (fun fr => by kernel_rfl) ?_
                    intro fr H
                    refine at_nil ?_
                    show AW cfg 76 (⟨h.size, []⟩ : Gd) (right (right (right (right (right (left (left (right (right (left (left (right (right (left (left (right (left (right (right (right (left (right (bodyC cfg.P 76))))))))))))))))))))))) fr h _
                    rcases iteB_some hm with ⟨hb, hm⟩ | ⟨hb, hm⟩
                    · replace H := H.know 43 hb (by kernel_rfl)
                      refine aw_true (x := .tmp 43) (by kernel_rfl) H (fun fr => by kernel_rfl) ?_
                      refine aw_seq (by kernel_rfl) ?_
                      refine aw_reg (id := 14) (n := 1) [(0, [])] (by kernel_rfl) (by kernel_rfl) ?_
                      refine at_seg [(0, [])] [(0, .str p0), (4, .int .i64 (2 : Int)), (5, .int .i64 x10), (6, .bool x11), (10, .int .i64 (p0.length : Int)), (11, .int .i64 x12)] H (noU_all rfl) (fun fr => by kernel_rfl) ?_
                      intro fr H
                      refine at_nil ?_
                      show AW cfg 76 (⟨h.size, []⟩ : Gd) (right (left (right (right (right (right (right (left (left (right (right (left (left (right (right (left (left (right (left (right (right (right (left (right (bodyC cfg.P 76))))))))))))))))))))))))) fr h _
                      refine aw_exit (i := 1) (by kernel_rfl) ?_
                      exact Or.inl ⟨(2 : Int), x10, x11, rfl, Option.some.inj hm, rfl, H.less _ (fun fr => by kernel_rfl)⟩
                    · replace H := H.know 43 hb (by kernel_rfl)
                      refine aw_false (x := .tmp 43) (by kernel_rfl) H (fun fr => by kernel_rfl) ?_
                      refine aw_skip (by kernel_rfl) ?_
                      show AW cfg 76 (⟨h.size, []⟩ : Gd) (right (right (right (left (left (right (right (left (left (right (left (right (right (right (left (right (bodyC cfg.P 76))))))))))))))))) fr h _
                      refine aw_seq (by kernel_rfl) ?_
                      refine aw_reg (id := 15) (n := 2) [(0, []), (1, [])] (by kernel_rfl) (by kernel_rfl) ?_
                      refine at_seg [(0, []), (1, [])] [(2, .int .i64 (0 : Int)), (3, .int .i64 (2 : Int))] H (noU_all rfl) (fun fr => by kernel_rfl) ?_
                      intro fr H
                      refine at_nil ?_
                      show AW cfg 76 (⟨h.size, []⟩ : Gd) (right (right (right (right (left (left (right (right (left (left (right (left (right (right (right (left (right (bodyC cfg.P 76)))))))))))))))))) fr h _
                      refine aw_ret (by kernel_rfl) ?_
                      exact Or.inr (Or.inl ⟨(0 : Int), (2 : Int), rfl, Option.some.inj hm, rfl, H.less _ (fun fr => by kernel_rfl)⟩)
      · clear ho
        intro e fr hz hQ
        rcases hQ with ⟨x13, x14, x15, rfl, rfl, rfl, H⟩ | ⟨x16, x17, rfl, rfl, rfl, H⟩ | hF
        · skip
          show AW cfg 76 (⟨h.size, []⟩ : Gd) (right (right (right (left (left (right (left (right (right (right (left (right (bodyC cfg.P 76))))))))))))) fr h _
          refine aw_reg (id := 16) (n := 2) [(0, []), (1, [])] (by kernel_rfl) (by kernel_rfl) ?_
          refine at_seg [(0, []), (1, [])] [(0, .str p0), (4, .int .i64 x13), (5, .int .i64 x14), (6, .bool x15), (10, .int .i64 (p0.length : Int)), (11, .int .i64 (IntKind.i64.wrap (x12 + (1 : Int))))] H (noU_all rfl) (fun fr => by kernel_rfl) ?_
          intro fr H
          refine at_nil ?_
          exact Exists.intro (x13, x14, x15, IntKind.i64.wrap (x12 + (1 : Int))) (And.intro (Option.some.inj hm).symm ⟨x13, x14, x15, IntKind.i64.wrap (x12 + (1 : Int)), rfl, rfl, H.less _ (fun fr => by kernel_rfl)⟩)
        · skip
          exact Exists.intro _ (And.intro (Option.some.inj hm).symm (fun e => Or.inr (Or.inl ⟨x16, x17, rfl, e, rfl, H.less _ (fun fr => by kernel_rfl)⟩)))
        · exact hF.elim
    · replace H := H.know 12 hb (by kernel_rfl)
      refine aw_false (x := .tmp 12) (by kernel_rfl) H (fun fr => by kernel_rfl) ?_
      refine aw_exit (i := 0) (by kernel_rfl) ?_
      exact Exists.intro _ (And.intro (Option.some.inj hm).symm (fun e => Or.inl ⟨x10, x11, rfl, e, rfl, H.less _ (fun fr => by kernel_rfl)⟩))
  · clear ho
    intro e fr hz hQ
    rcases hQ with ⟨x5, x6, rfl, rfl, rfl, H⟩ | ⟨x7, x8, rfl, rfl, rfl, H⟩ | hF
    · skip
      show AW cfg 76 (⟨h.size, []⟩ : Gd) (right (right (right (right (left (right (bodyC cfg.P 76))))))) fr h _
      refine aw_seq (by kernel_rfl) ?_
      refine aw_seq (by kernel_rfl) ?_
      refine aw_reg (id := 17) (n := 1) [(0, [])] (by kernel_rfl) (by kernel_rfl) ?_
      refine at_seg [(0, [])] [(5, .int .i64 x5), (51, .bool x6)] H (noU_all rfl) (fun fr => by kernel_rfl) ?_
      intro fr H
      refine at_nil ?_
      show AW cfg 76 (⟨h.size, []⟩ : Gd) (right (left (right (right (right (right (left (right (bodyC cfg.P 76))))))))) fr h _
      rcases iteB_some hm with ⟨hb, hm⟩ | ⟨hb, hm⟩
      · replace H := H.know 51 hb (by kernel_rfl)
        refine aw_true (x := .tmp 51) (by kernel_rfl) H (fun fr => by kernel_rfl) ?_
        refine aw_seq (by kernel_rfl) ?_
        refine aw_reg (id := 18) (n := 2) [(0, []), (1, [])] (by kernel_rfl) (by kernel_rfl) ?_
        refine at_seg [(0, []), (1, [])] [(2, .int .i64 (0 : Int)), (3, .int .i64 (6 : Int))] H (noU_all rfl) (fun fr => by kernel_rfl) ?_
        intro fr H
        refine at_nil ?_
        show AW cfg 76 (⟨h.size, []⟩ : Gd) (right (left (right (left (right (right (right (right (left (right (bodyC cfg.P 76))))))))))) fr h _
        refine aw_ret (by kernel_rfl) ?_
        have e1 := Option.some.inj hm
        obtain ⟨u0, v0⟩ := Prod.mk.inj e1
        subst u0
        subst v0
        exact (doneE_of .ret H (fun fr => by kernel_rfl) (.inl rfl) : doneE cfg.P _ _ _ fr _)
      · replace H := H.know 51 hb (by kernel_rfl)
        refine aw_false (x := .tmp 51) (by kernel_rfl) H (fun fr => by kernel_rfl) ?_
        refine aw_skip (by kernel_rfl) ?_
        show AW cfg 76 (⟨h.size, []⟩ : Gd) (right (right (right (right (right (left (right (bodyC cfg.P 76)))))))) fr h _
        refine aw_seq (by kernel_rfl) ?_
        refine aw_reg (id := 19) (n := 3) [(0, []), (1, []), (2, [])] (by kernel_rfl) (by kernel_rfl) ?_
        refine at_seg [(0, []), (1, []), (2, [])] [(2, .int .i64 x5), (3, .int .i64 (0 : Int))] H (noU_all rfl) (fun fr => by kernel_rfl) ?_
        intro fr H
        refine at_nil ?_
        show AW cfg 76 (⟨h.size, []⟩ : Gd) (right (right (right (right (right (right (left (right (bodyC cfg.P 76))))))))) fr h _
        refine aw_ret (by kernel_rfl) ?_
        have e1 := Option.some.inj hm
        obtain ⟨u0, v0⟩ := Prod.mk.inj e1
        subst u0
        subst v0
        exact (doneE_of .ret H (fun fr => by kernel_rfl) (.inl rfl) : doneE cfg.P _ _ _ fr _)
    · skip
      have e1 := Option.some.inj hm
      obtain ⟨u0, v0⟩ := Prod.mk.inj e1
      subst u0
      subst v0
      exact (doneE_of .ret H (fun fr => by kernel_rfl) (.inl rfl) : doneE cfg.P _ _ _ fr _)
    · exact hF.elim
/-! ### boulter/octal.Read -/
noncomputable def M_octal_Read (h : AHeap) (p0 : List UInt8) : Option (Int × Int) :=
 (M_octal_may h (p0.length : Int)).bind fun x1 => iteB (!x1) (some ((0 : Int), (1 : Int))) ((ixS p0 (0 : Int)).bind fun x2 => (iteB (x2 == (128 : Int)) (some true) ((ixS p0 (0 : Int)).bind fun x4 => some (x4 == (255 : Int))) : Option (Bool)).bind fun x3 => iteB x3 ((M_octal_bits h p0).bind fun (x5, x6) => some (x5, x6)) ((M_octal_digits h p0).bind fun (x7, x8) => some (x7, x8)))
theorem ok_octal_Read {g : Gd} {h : AHeap} {p0 : List UInt8} {r0 : Int} {r1 : Int} (hm : M_octal_Read h p0 = some (r0, r1)) : Runs cfg g h 33 [.str p0] (.tuple [.int .i64 r0, .int .i64 r1]) h := by
  refine runs2E (by kernel_rfl) (by kernel_rfl) (body_ofE (n := 26) (rs := [.tmp 2, .tmp 3]) (by kernel_rfl) ?_)
  unfold M_octal_Read at hm
  refine start (n := 26) [(0, .str p0)] (by kernel_rfl) (by kernel_rfl) ?_
  intro fr H
  refine aw_seq (by kernel_rfl) ?_
  refine aw_reg (id := 0) (n := 2) [(0, []), (1, [])] (by kernel_rfl) (by kernel_rfl) ?_
  refine at_seg [(0, []), (1, [])] [(0, .str p0)] H (noU_all rfl) (fun fr => by kernel_rfl) ?_
  intro fr H
  refine at_nil ?_
  show AW cfg 33 (⟨h.size, []⟩ : Gd) (right (bodyC cfg.P 33)) fr h _
  refine aw_seq (by kernel_rfl) ?_
  refine aw_block (id := 0) (by kernel_rfl) ?_
  refine aw_seq (by kernel_rfl) ?_
  refine aw_reg (id := 1) (n := 5) [(0, []), (1, []), (2, []), (3, []), (4, [])] (by kernel_rfl) (by kernel_rfl) ?_
  refine at_seg [(0, []), (1, [])] [(0, .str p0), (6, .int .i64 (p0.length : Int))] H (noU_all rfl) (fun fr => by kernel_rfl) ?_
  intro fr H
  obtain ⟨x1, hx, hm⟩ := bind_some hm
  refine at_step (v := .bool x1) (h1 := h) [(0, .str p0), (7, .bool x1)] H (fun fr => by kernel_rfl) (fun fr => Steps.call (by kernel_rfl) (ok_octal_may hx)) ?_
  intro fr t H
  refine at_seg [(3, []), (4, [])] [(0, .str p0), (4, .bool (!x1))] H (noU_all rfl) (fun fr => by kernel_rfl) ?_
  intro fr H
  refine at_nil ?_
  show AW cfg 33 (⟨h.size, []⟩ : Gd) (right (left (left (right (bodyC cfg.P 33))))) fr h _
  rcases iteB_some hm with ⟨hb, hm⟩ | ⟨hb, hm⟩
  · replace H := H.know 4 hb (by kernel_rfl)
    refine aw_true (x := .tmp 4) (by kernel_rfl) H (fun fr => by kernel_rfl) ?_
    refine aw_seq (by kernel_rfl) ?_
    refine aw_reg (id := 2) (n := 2) [(0, []), (1, [])] (by kernel_rfl) (by kernel_rfl) ?_
    refine at_seg [(0, []), (1, [])] [(2, .int .i64 (0 : Int)), (3, .int .i64 (1 : Int))] H (noU_all rfl) (fun fr => by kernel_rfl) ?_
    intro fr H
    refine at_nil ?_
    show AW cfg 33 (⟨h.size, []⟩ : Gd) (right (left (right (left (left (right (bodyC cfg.P 33))))))) fr h _
    refine aw_ret (by kernel_rfl) ?_
    have e1 := Option.some.inj hm
    obtain ⟨u0, v0⟩ := Prod.mk.inj e1
    subst u0
    subst v0
    exact (doneE_of .ret H (fun fr => by kernel_rfl) (.inl rfl) : doneE cfg.P _ _ _ fr _)
  · replace H := H.know 4 hb (by kernel_rfl)
    refine aw_false (x := .tmp 4) (by kernel_rfl) H (fun fr => by kernel_rfl) ?_
    refine aw_seq (by kernel_rfl) ?_
    refine aw_reg (id := 3) (n := 9) [(0, []), (1, []), (2, []), (3, []), (4, []), (5, []), (6, []), (7, []), (8, [])] (by kernel_rfl) (by kernel_rfl) ?_
    refine at_seg [(0, [])] [(0, .str p0), (10, .str p0)] H (noU_all rfl) (fun fr => by kernel_rfl) ?_
    intro fr H
    obtain ⟨x2, hx, hm⟩ := bind_some hm
    refine at_step (v := .int .u8 x2) (h1 := h) [(0, .str p0), (11, .int .u8 x2)] H (fun fr => by kernel_rfl) (fun fr => .of (s_ixS (by kernel_rfl) hx)) ?_
    intro fr t H
    refine at_seg [(2, []), (3, [])] [(0, .str p0), (13, .bool (x2 == (128 : Int)))] H (noU_all rfl) (fun fr => by kernel_rfl) ?_
    intro fr H
    obtain ⟨x3, ho, hm⟩ := bind_some hm
    refine at_cut [(4, []), (5, []), (6, []), (7, [])] (fun fr' h' => h = h' ∧ Has fr' 26 [(0, .str p0), (17, .bool x3)]) ?_ ?_
    · rcases iteB_some ho with ⟨hb, hm⟩ | ⟨hb, hm⟩
      · replace H := H.know 13 hb (by kernel_rfl)
        refine at_seg [(4, []), (5, []), (6, []), (7, [])] [(0, .str p0), (17, .bool true)] H (noU_all rfl) (fun fr => by kernel_rfl) ?_
        intro fr H
        have e1 := Option.some.inj hm
        subst e1
        exact at_nil ⟨rfl, H.less _ (fun fr => by kernel_rfl)⟩
      · replace H := H.know 13 hb (by kernel_rfl)
        refine at_seg [(4, [])] [(0, .str p0), (13, .bool false), (14, .str p0)] H (noU_all rfl) (fun fr => by kernel_rfl) ?_
        intro fr H
        obtain ⟨x4, hx, hm⟩ := bind_some hm
        refine at_step (v := .int .u8 x4) (h1 := h) [(0, .str p0), (13, .bool false), (15, .int .u8 x4)] H (fun fr => by kernel_rfl) (fun fr => .of (s_ixS (by kernel_rfl) hx)) ?_
        intro fr t H
        refine at_seg [(6, []), (7, [])] [(0, .str p0), (17, .bool (x4 == (255 : Int)))] H (noU_all rfl) (fun fr => by kernel_rfl) ?_
        intro fr H
        have e1 := Option.some.inj hm
        subst e1
        exact at_nil ⟨rfl, H.less _ (fun fr => by kernel_rfl)⟩
    · intro t fr h' hK
      obtain ⟨e, H⟩ := hK
      subst e
      refine at_seg [(8, [])] [(0, .str p0), (9, .bool x3)] H (noU_all rfl) (fun fr => by kernel_rfl) ?_
      intro fr H
      refine at_nil ?_
      show AW cfg 33 (⟨h.size, []⟩ : Gd) (right (right (right (left (left (right (bodyC cfg.P 33))))))) fr h _
      rcases iteB_some hm with ⟨hb, hm⟩ | ⟨hb, hm⟩
      · replace H := H.know 9 hb (by kernel_rfl)
        refine aw_true (x := .tmp 9) (by kernel_rfl) H (fun fr => by kernel_rfl) ?_
        refine aw_seq (by kernel_rfl) ?_
        refine aw_reg (id := 4) (n := 6) [(0, []), (1, []), (2, []), (3, []), (4, []), (5, [])] (by kernel_rfl) (by kernel_rfl) ?_
        refine at_seg [(0, [])] [(18, .str p0)] H (noU_all rfl) (fun fr => by kernel_rfl) ?_
        intro fr H
        obtain ⟨⟨x5, x6⟩, hx, hm⟩ := bind_some hm
        refine at_step (v := .tuple [.int .i64 x5, .int .i64 x6]) (h1 := h) [(19, .tuple [.int .i64 x5, .int .i64 x6])] H (fun fr => by kernel_rfl) (fun fr => Steps.call (by kernel_rfl) (ok_octal_bits hx)) ?_
        intro fr t H
        refine at_seg [(2, []), (3, []), (4, []), (5, [])] [(2, .int .i64 x5), (3, .int .i64 x6)] H (noU_all rfl) (fun fr => by kernel_rfl) ?_
        intro fr H
        refine at_nil ?_
        show AW cfg 33 (⟨h.size, []⟩ : Gd) (right (left (right (right (right (left (left (right (bodyC cfg.P 33))))))))) fr h _
        refine aw_ret (by kernel_rfl) ?_
        have e1 := Option.some.inj hm
        obtain ⟨u0, v0⟩ := Prod.mk.inj e1
        subst u0
        subst v0
        exact (doneE_of .ret H (fun fr => by kernel_rfl) (.inl rfl) : doneE cfg.P _ _ _ fr _)
      · replace H := H.know 9 hb (by kernel_rfl)
        refine aw_false (x := .tmp 9) (by kernel_rfl) H (fun fr => by kernel_rfl) ?_
        refine aw_skip (by kernel_rfl) ?_
        show AW cfg 33 (⟨h.size, []⟩ : Gd) (right (right (bodyC cfg.P 33))) fr h _
        refine aw_seq (by kernel_rfl) ?_
        refine aw_reg (id := 5) (n := 6) [(0, []), (1, []), (2, []), (3, []), (4, []), (5, [])] (by kernel_rfl) (by kernel_rfl) ?_
        refine at_seg [(0, [])] [(22, .str p0)] H (noU_all rfl) (fun fr => by kernel_rfl) ?_
        intro fr H
        obtain ⟨⟨x7, x8⟩, hx, hm⟩ := bind_some hm
        refine at_step (v := .tuple [.int .i64 x7, .int .i64 x8]) (h1 := h) [(23, .tuple [.int .i64 x7, .int .i64 x8])] H (fun fr => by kernel_rfl) (fun fr => Steps.call (by kernel_rfl) (ok_octal_digits hx)) ?_
        intro fr t H
        refine at_seg [(2, []), (3, []), (4, []), (5, [])] [(2, .int .i64 x7), (3, .int .i64 x8)] H (noU_all rfl) (fun fr => by kernel_rfl) ?_
        intro fr H
        refine at_nil ?_
        show AW cfg 33 (⟨h.size, []⟩ : Gd) (right (right (right (bodyC cfg.P 33)))) fr h _
        refine aw_ret (by kernel_rfl) ?_
        have e1 := Option.some.inj hm
        obtain ⟨u0, v0⟩ := Prod.mk.inj e1
        subst u0
        subst v0
        exact (doneE_of .ret H (fun fr => by kernel_rfl) (.inl rfl) : doneE cfg.P _ _ _ fr _)
/-! ### boulter/octal.Octal -/
noncomputable def M_octal_Octal_L0 (h : AHeap) (p1 : Int) (s : Int × Int × AHeap) : Option ((Int × Int × AHeap) ⊕ ((AHeap))) :=
  match s with
  | (x6, x7, h2) => iteB (decide (x7 ≥ (0 : Int))) ((ixL (⟨some (h.size, 0), (p1).toNat⟩ : Sl) 1 x7).bind fun a1 => (st (⟨h.size, []⟩ : Gd) h2 (a1.1, a1.2) [.int .u8 (IntKind.u8.wrap (IntKind.i64.wrap ((48 : Int) + (bAnd .i64 x6 (7 : Int)))))]).bind fun h3 => some (.inl (bShr .i64 x6 (3 : Int), IntKind.i64.wrap (x7 - (1 : Int)), h3))) (some (.inr h2))
noncomputable def M_octal_Octal (h : AHeap) (p0 : Int) (p1 : Int) : Option ((List UInt8) × Bool) :=
 (M_octal_may h p1).bind fun x1 => (iteB ((!x1) || (decide (p0 < (0 : Int)))) (some true) (need (decide (0 ≤ (IntKind.i64.wrap ((3 : Int) * (IntKind.i64.wrap (p1 - (1 : Int))))))) <| some (decide (p0 ≥ (bShl .i64 (1 : Int) (IntKind.i64.wrap ((3 : Int) * (IntKind.i64.wrap (p1 - (1 : Int))))))))) : Option (Bool)).bind fun x2 => iteB x2 (some (([] : List UInt8), false)) ((mkL 1 [.int .u8 (0 : Int)] p1 p1).bind fun x3 => (some (h.push (.cells (some 5) 2 x3))).bind fun h1 => (loop (M_octal_Octal_L0 h p1) (p0, IntKind.i64.wrap (p1 - (2 : Int)), h1)).bind fun h4 => (byL h4 (⟨some (h.size, 0), (p1).toNat⟩ : Sl)).bind fun x8 => some (x8, true))
theorem ok_octal_Octal {g : Gd} {h : AHeap} {p0 : Int} {p1 : Int} {r0 : List UInt8} {r1 : Bool} (hm : M_octal_Octal h p0 p1 = some (r0, r1)) : Runs cfg g h 38 [.int .i64 p0, .int .i64 p1] (.tuple [.str r0, .bool r1]) h := by
  refine runs2E (by kernel_rfl) (by kernel_rfl) (body_ofE (n := 42) (rs := [.tmp 4, .tmp 5]) (by kernel_rfl) ?_)
  unfold M_octal_Octal at hm
  refine start (n := 42) [(0, .int .i64 p0), (1, .int .i64 p1)] (by kernel_rfl) (by kernel_rfl) ?_
  intro fr H
  refine aw_seq (by kernel_rfl) ?_
  refine aw_reg (id := 0) (n := 2) [(0, []), (1, [])] (by kernel_rfl) (by kernel_rfl) ?_
  refine at_seg [(0, []), (1, [])] [(0, .int .i64 p0), (1, .int .i64 p1)] H (noU_all rfl) (fun fr => by kernel_rfl) ?_
  intro fr H
  refine at_nil ?_
  show AW cfg 38 (⟨h.size, []⟩ : Gd) (right (bodyC cfg.P 38)) fr h _
  refine aw_seq (by kernel_rfl) ?_
  refine aw_seq (by kernel_rfl) ?_
  refine aw_reg (id := 1) (n := 15) [(0, []), (1, []), (2, []), (3, []), (4, []), (5, []), (6, []), (7, []), (8, []), (9, []), (10, []), (11, []), (12, []), (13, []), (14, [])] (by kernel_rfl) (by kernel_rfl) ?_
  refine at_seg [(0, [])] [(0, .int .i64 p0), (1, .int .i64 p1), (8, .int .i64 p1)] H (noU_all rfl) (fun fr => by kernel_rfl) ?_
  intro fr H
  obtain ⟨x1, hx, hm⟩ := bind_some hm
  refine at_step (v := .bool x1) (h1 := h) [(0, .int .i64 p0), (1, .int .i64 p1), (9, .bool x1)] H (fun fr => by kernel_rfl) (fun fr => Steps.call (by kernel_rfl) (ok_octal_may hx)) ?_
  intro fr t H
  refine at_seg [(2, []), (3, [])] [(0, .int .i64 p0), (1, .int .i64 p1), (11, .bool (!x1))] H (noU_all rfl) (fun fr => by kernel_rfl) ?_
  intro fr H
  refine at_cut [(4, []), (5, []), (6, [])] (fun fr' h' => h = h' ∧ Has fr' 42 [(0, .int .i64 p0), (1, .int .i64 p1), (14, .bool ((!x1) || (decide (p0 < (0 : Int)))))]) ?_ ?_
  · cases hb : (!x1 : Bool) with
    | true =>
      replace H := H.know 11 hb (by kernel_rfl)
      refine at_seg [(4, []), (5, []), (6, [])] [(0, .int .i64 p0), (1, .int .i64 p1), (14, .bool true)] H (noU_all rfl) (fun fr => by kernel_rfl) ?_
      intro fr H
      exact at_nil ⟨rfl, by first | exact H.less _ (fun fr => by rfl) | exact H.less _ (fun fr => by rw [hb]; rfl)⟩
    | false =>
      replace H := H.know 11 hb (by kernel_rfl)
      refine at_seg [(4, []), (5, []), (6, [])] [(0, .int .i64 p0), (1, .int .i64 p1), (14, .bool (decide (p0 < (0 : Int))))] H (noU_all rfl) (fun fr => by kernel_rfl) ?_
      intro fr H
      exact at_nil ⟨rfl, by first | exact H.less _ (fun fr => by rfl) | exact H.less _ (fun fr => by rw [hb]; rfl)⟩
  · intro t fr h' hK
    obtain ⟨e, H⟩ := hK
    subst e
    refine at_seg [(7, [])] [(0, .int .i64 p0), (1, .int .i64 p1), (15, .bool ((!x1) || (decide (p0 < (0 : Int)))))] H (noU_all rfl) (fun fr => by kernel_rfl) ?_
    intro fr H
    obtain ⟨x2, ho, hm⟩ := bind_some hm
    refine at_cut [(8, []), (9, []), (10, []), (11, []), (12, []), (13, []), (14, [])] (fun fr' h' => h = h' ∧ Has fr' 42 [(0, .int .i64 p0), (1, .int .i64 p1), (22, .bool x2)]) ?_ ?_
    · rcases iteB_some ho with ⟨hb, hm⟩ | ⟨hb, hm⟩
      · replace H := H.know 15 hb (by kernel_rfl)
        refine at_seg [(8, []), (9, []), (10, []), (11, []), (12, []), (13, []), (14, [])] [(0, .int .i64 p0), (1, .int .i64 p1), (22, .bool true)] H (noU_all rfl) (fun fr => by kernel_rfl) ?_
        intro fr H
        have e1 := Option.some.inj hm
        subst e1
        exact at_nil ⟨rfl, H.less _ (fun fr => by kernel_rfl)⟩
      · replace H := H.know 15 hb (by kernel_rfl)
        refine at_seg [(8, []), (9, []), (10, []), (11, [])] [(0, .int .i64 p0), (1, .int .i64 p1), (15, .bool false), (16, .int .i64 p0), (19, .int .i64 (IntKind.i64.wrap ((3 : Int) * (IntKind.i64.wrap (p1 - (1 : Int))))))] H (noU_all rfl) (fun fr => by kernel_rfl) ?_
        intro fr H
        obtain ⟨hb, hm⟩ := need_some hm
        refine at_step (v := .int .i64 (bShl .i64 (1 : Int) (IntKind.i64.wrap ((3 : Int) * (IntKind.i64.wrap (p1 - (1 : Int))))))) (h1 := h) [(0, .int .i64 p0), (1, .int .i64 p1), (15, .bool false), (16, .int .i64 p0), (20, .int .i64 (bShl .i64 (1 : Int) (IntKind.i64.wrap ((3 : Int) * (IntKind.i64.wrap (p1 - (1 : Int)))))))] H (fun fr => by kernel_rfl) (fun fr => .of (s_shl (by kernel_rfl) hb)) ?_
        intro fr t H
        refine at_seg [(13, []), (14, [])] [(0, .int .i64 p0), (1, .int .i64 p1), (22, .bool (decide (p0 ≥ (bShl .i64 (1 : Int) (IntKind.i64.wrap ((3 : Int) * (IntKind.i64.wrap (p1 - (1 : Int)))))))))] H (noU_all rfl) (fun fr => by kernel_rfl) ?_
        intro fr H
        have e1 := Option.some.inj hm
        subst e1
        exact at_nil ⟨rfl, H.less _ (fun fr => by kernel_rfl)⟩
    · intro t fr h' hK
      obtain ⟨e, H⟩ := hK
      subst e
      refine at_nil ?_
      show AW cfg 38 (⟨h.size, []⟩ : Gd) (right (left (right (bodyC cfg.P 38)))) fr h _
      rcases iteB_some hm with ⟨hb, hm⟩ | ⟨hb, hm⟩
      · replace H := H.know 22 hb (by kernel_rfl)
        refine aw_true (x := .tmp 22) (by kernel_rfl) H (fun fr => by kernel_rfl) ?_
        refine aw_seq (by kernel_rfl) ?_
        refine aw_reg (id := 2) (n := 2) [(0, []), (1, [])] (by kernel_rfl) (by kernel_rfl) ?_
        refine at_seg [(0, []), (1, [])] [(4, .str ([] : List UInt8)), (5, .bool false)] H (noU_all rfl) (fun fr => by kernel_rfl) ?_
        intro fr H
        refine at_nil ?_
        show AW cfg 38 (⟨h.size, []⟩ : Gd) (right (left (right (left (right (bodyC cfg.P 38)))))) fr h _
        refine aw_ret (by kernel_rfl) ?_
        have e1 := Option.some.inj hm
        obtain ⟨u0, v0⟩ := Prod.mk.inj e1
        subst u0
        subst v0
        exact (doneE_of .ret H (fun fr => by kernel_rfl) (.inl rfl) : doneE cfg.P _ _ _ fr _)
      · replace H := H.know 22 hb (by kernel_rfl)
        refine aw_false (x := .tmp 22) (by kernel_rfl) H (fun fr => by kernel_rfl) ?_
        refine aw_skip (by kernel_rfl) ?_
        show AW cfg 38 (⟨h.size, []⟩ : Gd) (right (right (bodyC cfg.P 38))) fr h _
        refine aw_seq (by kernel_rfl) ?_
        refine aw_reg (id := 3) (n := 3) [(0, []), (1, []), (2, [])] (by kernel_rfl) (by kernel_rfl) ?_
        refine at_seg [(0, [])] [(0, .int .i64 p0), (1, .int .i64 p1), (23, .int .i64 p1)] H (noU_all rfl) (fun fr => by kernel_rfl) ?_
        intro fr H
        obtain ⟨x3, hx, hm⟩ := bind_some hm
        obtain ⟨h1, hy, hm⟩ := bind_some hm
        refine at_step (v := .slice (some (h.size, 0)) ((p1).toNat)) (h1 := h1) [(0, .int .i64 p0), (1, .int .i64 p1), (24, .slice (some (h.size, 0)) ((p1).toNat))] H (fun fr => by kernel_rfl) (fun fr => .of (s_mk' (by kernel_rfl) hx hy)) ?_
        intro fr t H
        refine at_seg [(2, [])] [(0, .int .i64 p0), (1, .int .i64 p1), (6, .slice (some (h.size, 0)) ((p1).toNat))] H (noU_all rfl) (fun fr => by kernel_rfl) ?_
        intro fr H
        refine at_nil ?_
        show AW cfg 38 (⟨h.size, []⟩ : Gd) (right (right (right (bodyC cfg.P 38)))) fr h1 _
        refine aw_seq (by kernel_rfl) ?_
        refine aw_seq (by kernel_rfl) ?_
        refine aw_reg (id := 4) (n := 3) [(0, []), (1, []), (2, [])] (by kernel_rfl) (by kernel_rfl) ?_
        refine at_seg [(0, []), (1, []), (2, [])] [(0, .int .i64 p0), (6, .slice (some (h.size, 0)) ((p1).toNat)), (7, .int .i64 (IntKind.i64.wrap (p1 - (2 : Int))))] H (noU_all rfl) (fun fr => by kernel_rfl) ?_
        intro fr H
        refine at_nil ?_
        show AW cfg 38 (⟨h.size, []⟩ : Gd) (right (left (right (right (right (bodyC cfg.P 38)))))) fr h1 _
        refine aw_block (id := 0) (by kernel_rfl) ?_
        obtain ⟨o1, ho, hm⟩ := bind_some hm
        refine aw_mono (Q' := fun e fr' h' => (e = .exit 0 ∧ h' = o1 ∧ h' = h' ∧ Has fr' 42 [(6, .slice (some (h.size, 0)) ((p1).toNat))]) ∨ False) ?_ ?_
        · refine aw_loop (by kernel_rfl) (fun (s : Int × Int × AHeap) fr' h' => ∃ (x6 : Int) (x7 : Int), (x6, x7, h') = s ∧ h' = h' ∧ Has fr' 42 [(0, .int .i64 x6), (6, .slice (some (h.size, 0)) ((p1).toNat)), (7, .int .i64 x7)]) ho ⟨p0, IntKind.i64.wrap (p1 - (2 : Int)), rfl, rfl, H.less _ (fun fr => by kernel_rfl)⟩ ?_
          clear ho hm H
          intro s q fr h2 hI hm
          obtain ⟨x6, x7, rfl, _, H⟩ := hI
          unfold M_octal_Octal_L0 at hm
          refine aw_seq (by kernel_rfl) ?_
          refine aw_seq (by kernel_rfl) ?_
          refine aw_reg (id := 5) (n := 2) [(0, []), (1, [])] (by kernel_rfl) (by kernel_rfl) ?_
          refine at_seg [(0, []), (1, [])] [(0, .int .i64 x6), (6, .slice (some (h.size, 0)) ((p1).toNat)), (7, .int .i64 x7), (28, .bool (decide (x7 ≥ (0 : Int))))] H (noU_all rfl) (fun fr => by kernel_rfl) ?_
          intro fr H
          refine at_nil ?_
          show AW cfg 38 (⟨h.size, []⟩ : Gd) (right (left (left (left (right (left (right (right (right (bodyC cfg.P 38)))))))))) fr h2 _
          rcases iteB_some hm with ⟨hb, hm⟩ | ⟨hb, hm⟩
          · replace H := H.know 28 hb (by kernel_rfl)
            refine aw_true (x := .tmp 28) (by kernel_rfl) H (fun fr => by kernel_rfl) ?_
            refine aw_skip (by kernel_rfl) ?_
            show AW cfg 38 (⟨h.size, []⟩ : Gd) (right (left (left (right (left (right (right (right (bodyC cfg.P 38))))))))) fr h2 _
            refine aw_seq (by kernel_rfl) ?_
            refine aw_block (id := 1) (by kernel_rfl) ?_
            refine aw_seq (by kernel_rfl) ?_
            refine aw_reg (id := 7) (n := 8) [(0, []), (1, []), (2, []), (3, []), (4, []), (5, []), (6, []), (7, [])] (by kernel_rfl) (by kernel_rfl) ?_
            refine at_seg [(0, []), (1, []), (2, []), (3, []), (4, []), (5, [])] [(0, .int .i64 x6), (6, .slice (some (h.size, 0)) ((p1).toNat)), (7, .int .i64 x7), (31, .slice (some (h.size, 0)) ((p1).toNat)), (32, .int .i64 x7), (36, .int .u8 (IntKind.u8.wrap (IntKind.i64.wrap ((48 : Int) + (bAnd .i64 x6 (7 : Int))))))] H (noU_all rfl) (fun fr => by kernel_rfl) ?_
            intro fr H
            obtain ⟨a1, hx, hm⟩ := bind_some hm
            refine at_step (v := .ptr (some a1)) (h1 := h2) [(0, .int .i64 x6), (6, .slice (some (h.size, 0)) ((p1).toNat)), (7, .int .i64 x7), (36, .int .u8 (IntKind.u8.wrap (IntKind.i64.wrap ((48 : Int) + (bAnd .i64 x6 (7 : Int)))))), (37, .ptr (some (a1.1, a1.2)))] H (fun fr => by kernel_rfl) (fun fr => .of (s_ixL (s := (⟨some (h.size, 0), (p1).toNat⟩ : Sl)) (by kernel_rfl) hx)) ?_
            intro fr t H
            obtain ⟨h3, hx, hm⟩ := bind_some hm
            refine at_step (v := .tuple []) (h1 := h3) [(0, .int .i64 x6), (6, .slice (some (h.size, 0)) ((p1).toNat)), (7, .int .i64 x7)] H (fun fr => by kernel_rfl) (fun fr => .of (s_st (by kernel_rfl) rfl hx)) ?_
            intro fr t H
            refine at_nil ?_
            show AW cfg 38 (⟨h.size, []⟩ : Gd) (right (left (left (right (left (left (right (left (right (right (right (bodyC cfg.P 38)))))))))))) fr h3 _
            refine aw_reg (id := 8) (n := 3) [(0, []), (1, []), (2, [])] (by kernel_rfl) (by kernel_rfl) ?_
            refine at_seg [(0, []), (1, []), (2, [])] [(0, .int .i64 (bShr .i64 x6 (3 : Int))), (6, .slice (some (h.size, 0)) ((p1).toNat)), (7, .int .i64 x7)] H (noU_all rfl) (fun fr => by kernel_rfl) ?_
            intro fr H
            refine at_nil ?_
            show AW cfg 38 (⟨h.size, []⟩ : Gd) (right (right (left (left (right (left (right (right (right (bodyC cfg.P 38)))))))))) fr h3 _
            refine aw_reg (id := 6) (n := 3) [(0, []), (1, []), (2, [])] (by kernel_rfl) (by kernel_rfl) ?_
            refine at_seg [(0, []), (1, []), (2, [])] [(0, .int .i64 (bShr .i64 x6 (3 : Int))), (6, .slice (some (h.size, 0)) ((p1).toNat)), (7, .int .i64 (IntKind.i64.wrap (x7 - (1 : Int))))] H (noU_all rfl) (fun fr => by kernel_rfl) ?_
            intro fr H
            refine at_nil ?_
            exact Exists.intro (bShr .i64 x6 (3 : Int), IntKind.i64.wrap (x7 - (1 : Int)), h3) (And.intro (Option.some.inj hm).symm ⟨bShr .i64 x6 (3 : Int), IntKind.i64.wrap (x7 - (1 : Int)), rfl, rfl, H.less _ (fun fr => by kernel_rfl)⟩)
          · replace H := H.know 28 hb (by kernel_rfl)
            refine aw_false (x := .tmp 28) (by kernel_rfl) H (fun fr => by kernel_rfl) ?_
            refine aw_exit (i := 0) (by kernel_rfl) ?_
            exact Exists.intro _ (And.intro (Option.some.inj hm).symm (fun e => Or.inl ⟨rfl, e, rfl, H.less _ (fun fr => by kernel_rfl)⟩))
        · clear ho
          intro e fr h4 hQ
          rcases hQ with ⟨rfl, rfl, _, H⟩ | hF
          · skip
            show AW cfg 38 (⟨h.size, []⟩ : Gd) (right (right (right (right (bodyC cfg.P 38))))) fr h4 _
            refine aw_seq (by kernel_rfl) ?_
            refine aw_reg (id := 9) (n := 4) [(0, []), (1, []), (2, []), (3, [])] (by kernel_rfl) (by kernel_rfl) ?_
            refine at_seg [(0, [])] [(40, .slice (some (h.size, 0)) ((p1).toNat))] H (noU_all rfl) (fun fr => by kernel_rfl) ?_
            intro fr H
            obtain ⟨x8, hx, hm⟩ := bind_some hm
            refine at_step (v := .str x8) (h1 := h4) [(41, .str x8)] H (fun fr => by kernel_rfl) (fun fr => .of (s_byL (s := (⟨some (h.size, 0), (p1).toNat⟩ : Sl)) (by kernel_rfl) hx)) ?_
            intro fr t H
            refine at_seg [(2, []), (3, [])] [(4, .str x8), (5, .bool true)] H (noU_all rfl) (fun fr => by kernel_rfl) ?_
            intro fr H
            refine at_nil ?_
            show AW cfg 38 (⟨h.size, []⟩ : Gd) (right (right (right (right (right (bodyC cfg.P 38)))))) fr h4 _
            refine aw_ret (by kernel_rfl) ?_
            have e1 := Option.some.inj hm
            obtain ⟨u0, v0⟩ := Prod.mk.inj e1
            subst u0
            subst v0
            exact (doneE_of .ret H (fun fr => by kernel_rfl) (.inl rfl) : doneE cfg.P _ _ _ fr _)
          · exact hF.elim
/-! ### boulter/octal.Binary -/
noncomputable def M_octal_Binary_L0 (h : AHeap) (p1 : Int) (s : Int × Int × AHeap) : Option ((Int × Int × AHeap) ⊕ ((AHeap))) :=
  match s with
  | (x7, x8, h5) => iteB (decide (x8 > (0 : Int))) ((ixL (⟨some (h.size, 0), (p1).toNat⟩ : Sl) 1 x8).bind fun a3 => (st (⟨h.size, []⟩ : Gd) h5 (a3.1, a3.2) [.int .u8 (IntKind.u8.wrap x7)]).bind fun h6 => some (.inl (bShr .i64 x7 (8 : Int), IntKind.i64.wrap (x8 - (1 : Int)), h6))) (some (.inr h5))
noncomputable def M_octal_Binary (h : AHeap) (p0 : Int) (p1 : Int) : Option ((List UInt8) × Bool) :=
 (M_octal_may h p1).bind fun x1 => iteB (!x1) (some (([] : List UInt8), false)) ((iteB (decide (p1 ≤ (8 : Int))) (need (decide (0 ≤ (IntKind.i64.wrap ((8 : Int) * (IntKind.i64.wrap (p1 - (1 : Int))))))) <| some ((bShr .i64 p0 (IntKind.i64.wrap ((8 : Int) * (IntKind.i64.wrap (p1 - (1 : Int)))))) != (0 : Int))) (some false) : Option (Bool)).bind fun x2 => (iteB x2 (need (decide (0 ≤ (IntKind.i64.wrap ((8 : Int) * (IntKind.i64.wrap (p1 - (1 : Int))))))) <| some ((bShr .i64 p0 (IntKind.i64.wrap ((8 : Int) * (IntKind.i64.wrap (p1 - (1 : Int)))))) != (-1 : Int))) (some false) : Option (Bool)).bind fun x3 => iteB x3 (some (([] : List UInt8), false)) ((mkL 1 [.int .u8 (0 : Int)] p1 p1).bind fun x4 => (some (h.push (.cells (some 5) 2 x4))).bind fun h1 => (ixL (⟨some (h.size, 0), (p1).toNat⟩ : Sl) 1 (0 : Int)).bind fun a1 => (st (⟨h.size, []⟩ : Gd) h1 (a1.1, a1.2) [.int .u8 (128 : Int)]).bind fun h2 => (iteB (decide (p0 < (0 : Int))) ((ixL (⟨some (h.size, 0), (p1).toNat⟩ : Sl) 1 (0 : Int)).bind fun a2 => (st (⟨h.size, []⟩ : Gd) h2 (a2.1, a2.2) [.int .u8 (255 : Int)]).bind fun h3 => some h3) (some h2) : Option ((AHeap))).bind fun h4 => (loop (M_octal_Binary_L0 h p1) (p0, IntKind.i64.wrap (p1 - (1 : Int)), h4)).bind fun h7 => (byL h7 (⟨some (h.size, 0), (p1).toNat⟩ : Sl)).bind fun x9 => some (x9, true)))
theorem ok_octal_Binary {g : Gd} {h : AHeap} {p0 : Int} {p1 : Int} {r0 : List UInt8} {r1 : Bool} (hm : M_octal_Binary h p0 p1 = some (r0, r1)) : Runs cfg g h 40 [.int .i64 p0, .int .i64 p1] (.tuple [.str r0, .bool r1]) h := by
  refine runs2E (by kernel_rfl) (by kernel_rfl) (body_ofE (n := 52) (rs := [.tmp 4, .tmp 5]) (by kernel_rfl) ?_)
  unfold M_octal_Binary at hm
  refine start (n := 52) [(0, .int .i64 p0), (1, .int .i64 p1)] (by kernel_rfl) (by kernel_rfl) ?_
  intro fr H
  refine aw_seq (by kernel_rfl) ?_
  refine aw_reg (id := 0) (n := 2) [(0, []), (1, [])] (by kernel_rfl) (by kernel_rfl) ?_
  refine at_seg [(0, []), (1, [])] [(0, .int .i64 p0), (1, .int .i64 p1)] H (noU_all rfl) (fun fr => by kernel_rfl) ?_
  intro fr H
  refine at_nil ?_
  show AW cfg 40 (⟨h.size, []⟩ : Gd) (right (bodyC cfg.P 40)) fr h _
  refine aw_seq (by kernel_rfl) ?_
  refine aw_seq (by kernel_rfl) ?_
  refine aw_reg (id := 1) (n := 3) [(0, []), (1, []), (2, [])] (by kernel_rfl) (by kernel_rfl) ?_
  refine at_seg [(0, [])] [(0, .int .i64 p0), (1, .int .i64 p1), (8, .int .i64 p1)] H (noU_all rfl) (fun fr => by kernel_rfl) ?_
  intro fr H
  obtain ⟨x1, hx, hm⟩ := bind_some hm
  refine at_step (v := .bool x1) (h1 := h) [(0, .int .i64 p0), (1, .int .i64 p1), (9, .bool x1)] H (fun fr => by kernel_rfl) (fun fr => Steps.call (by kernel_rfl) (ok_octal_may hx)) ?_
  intro fr t H
  refine at_seg [(2, [])] [(0, .int .i64 p0), (1, .int .i64 p1), (10, .bool (!x1))] H (noU_all rfl) (fun fr => by kernel_rfl) ?_
  intro fr H
  refine at_nil ?_
  show AW cfg 40 (⟨h.size, []⟩ : Gd) (right (left (right (bodyC cfg.P 40)))) fr h _
  rcases iteB_some hm with ⟨hb, hm⟩ | ⟨hb, hm⟩
  · replace H := H.know 10 hb (by kernel_rfl)
    refine aw_true (x := .tmp 10) (by kernel_rfl) H (fun fr => by kernel_rfl) ?_
    refine aw_seq (by kernel_rfl) ?_
    refine aw_reg (id := 2) (n := 2) [(0, []), (1, [])] (by kernel_rfl) (by kernel_rfl) ?_
    refine at_seg [(0, []), (1, [])] [(4, .str ([] : List UInt8)), (5, .bool false)] H (noU_all rfl) (fun fr => by kernel_rfl) ?_
    intro fr H
    refine at_nil ?_
    show AW cfg 40 (⟨h.size, []⟩ : Gd) (right (left (right (left (right (bodyC cfg.P 40)))))) fr h _
    refine aw_ret (by kernel_rfl) ?_
    have e1 := Option.some.inj hm
    obtain ⟨u0, v0⟩ := Prod.mk.inj e1
    subst u0
    subst v0
    exact (doneE_of .ret H (fun fr => by kernel_rfl) (.inl rfl) : doneE cfg.P _ _ _ fr _)
  · replace H := H.know 10 hb (by kernel_rfl)
    refine aw_false (x := .tmp 10) (by kernel_rfl) H (fun fr => by kernel_rfl) ?_
    refine aw_skip (by kernel_rfl) ?_
    show AW cfg 40 (⟨h.size, []⟩ : Gd) (right (right (bodyC cfg.P 40))) fr h _
    refine aw_seq (by kernel_rfl) ?_
    refine aw_seq (by kernel_rfl) ?_
    refine aw_reg (id := 3) (n := 18) [(0, []), (1, []), (2, []), (3, []), (4, []), (5, []), (6, []), (7, []), (8, []), (9, []), (10, []), (11, []), (12, []), (13, []), (14, []), (15, []), (16, []), (17, [])] (by kernel_rfl) (by kernel_rfl) ?_
    refine at_seg [(0, []), (1, []), (2, [])] [(0, .int .i64 p0), (1, .int .i64 p1), (13, .bool (decide (p1 ≤ (8 : Int))))] H (noU_all rfl) (fun fr => by kernel_rfl) ?_
    intro fr H
    obtain ⟨x2, ho, hm⟩ := bind_some hm
    refine at_cut [(3, []), (4, []), (5, []), (6, []), (7, []), (8, []), (9, [])] (fun fr' h' => h = h' ∧ Has fr' 52 [(0, .int .i64 p0), (1, .int .i64 p1), (20, .bool x2)]) ?_ ?_
    · rcases iteB_some ho with ⟨hb, hm⟩ | ⟨hb, hm⟩
      · replace H := H.know 13 hb (by kernel_rfl)
        refine at_seg [(3, []), (4, []), (5, []), (6, [])] [(0, .int .i64 p0), (1, .int .i64 p1), (13, .bool true), (14, .int .i64 p0), (17, .int .i64 (IntKind.i64.wrap ((8 : Int) * (IntKind.i64.wrap (p1 - (1 : Int))))))] H (noU_all rfl) (fun fr => by kernel_rfl) ?_
        intro fr H
        obtain ⟨hb, hm⟩ := need_some hm
        refine at_step (v := .int .i64 (bShr .i64 p0 (IntKind.i64.wrap ((8 : Int) * (IntKind.i64.wrap (p1 - (1 : Int))))))) (h1 := h) [(0, .int .i64 p0), (1, .int .i64 p1), (13, .bool true), (18, .int .i64 (bShr .i64 p0 (IntKind.i64.wrap ((8 : Int) * (IntKind.i64.wrap (p1 - (1 : Int)))))))] H (fun fr => by kernel_rfl) (fun fr => .of (s_shr (by kernel_rfl) hb)) ?_
        intro fr t H
        refine at_seg [(8, []), (9, [])] [(0, .int .i64 p0), (1, .int .i64 p1), (20, .bool ((bShr .i64 p0 (IntKind.i64.wrap ((8 : Int) * (IntKind.i64.wrap (p1 - (1 : Int)))))) != (0 : Int)))] H (noU_all rfl) (fun fr => by kernel_rfl) ?_
        intro fr H
        have e1 := Option.some.inj hm
        subst e1
        exact at_nil ⟨rfl, H.less _ (fun fr => by kernel_rfl)⟩
      · replace H := H.know 13 hb (by kernel_rfl)
        refine at_seg [(3, []), (4, []), (5, []), (6, []), (7, []), (8, []), (9, [])] [(0, .int .i64 p0), (1, .int .i64 p1), (20, .bool false)] H (noU_all rfl) (fun fr => by kernel_rfl) ?_
        intro fr H
        have e1 := Option.some.inj hm
        subst e1
        exact at_nil ⟨rfl, H.less _ (fun fr => by kernel_rfl)⟩
    · intro t fr h' hK
      obtain ⟨e, H⟩ := hK
      subst e
      refine at_seg [(10, [])] [(0, .int .i64 p0), (1, .int .i64 p1), (21, .bool x2)] H (noU_all rfl) (fun fr => by kernel_rfl) ?_
      intro fr H
      obtain ⟨x3, ho, hm⟩ := bind_some hm
      refine at_cut [(11, []), (12, []), (13, []), (14, []), (15, []), (16, []), (17, [])] (fun fr' h' => h = h' ∧ Has fr' 52 [(0, .int .i64 p0), (1, .int .i64 p1), (28, .bool x3)]) ?_ ?_
      · rcases iteB_some ho with ⟨hb, hm⟩ | ⟨hb, hm⟩
        · replace H := H.know 21 hb (by kernel_rfl)
          refine at_seg [(11, []), (12, []), (13, []), (14, [])] [(0, .int .i64 p0), (1, .int .i64 p1), (21, .bool true), (22, .int .i64 p0), (25, .int .i64 (IntKind.i64.wrap ((8 : Int) * (IntKind.i64.wrap (p1 - (1 : Int))))))] H (noU_all rfl) (fun fr => by kernel_rfl) ?_
          intro fr H
          obtain ⟨hb, hm⟩ := need_some hm
          refine at_step (v := .int .i64 (bShr .i64 p0 (IntKind.i64.wrap ((8 : Int) * (IntKind.i64.wrap (p1 - (1 : Int))))))) (h1 := h) [(0, .int .i64 p0), (1, .int .i64 p1), (21, .bool true), (26, .int .i64 (bShr .i64 p0 (IntKind.i64.wrap ((8 : Int) * (IntKind.i64.wrap (p1 - (1 : Int)))))))] H (fun fr => by kernel_rfl) (fun fr => .of (s_shr (by kernel_rfl) hb)) ?_
          intro fr t H
          refine at_seg [(16, []), (17, [])] [(0, .int .i64 p0), (1, .int .i64 p1), (28, .bool ((bShr .i64 p0 (IntKind.i64.wrap ((8 : Int) * (IntKind.i64.wrap (p1 - (1 : Int)))))) != (-1 : Int)))] H (noU_all rfl) (fun fr => by kernel_rfl) ?_
          intro fr H
          have e1 := Option.some.inj hm
          subst e1
          exact at_nil ⟨rfl, H.less _ (fun fr => by kernel_rfl)⟩
        · replace H := H.know 21 hb (by kernel_rfl)
          refine at_seg [(11, []), (12, []), (13, []), (14, []), (15, []), (16, []), (17, [])] [(0, .int .i64 p0), (1, .int .i64 p1), (28, .bool false)] H (noU_all rfl) (fun fr => by kernel_rfl) ?_
          intro fr H
          have e1 := Option.some.inj hm
          subst e1
          exact at_nil ⟨rfl, H.less _ (fun fr => by kernel_rfl)⟩
      · intro t fr h' hK
        obtain ⟨e, H⟩ := hK
        subst e
        refine at_nil ?_
        show AW cfg 40 (⟨h.size, []⟩ : Gd) (right (left (right (right (bodyC cfg.P 40))))) fr h _
        rcases iteB_some hm with ⟨hb, hm⟩ | ⟨hb, hm⟩
        · replace H := H.know 28 hb (by kernel_rfl)
          refine aw_true (x := .tmp 28) (by kernel_rfl) H (fun fr => by kernel_rfl) ?_
          refine aw_seq (by kernel_rfl) ?_
          refine aw_reg (id := 4) (n := 2) [(0, []), (1, [])] (by kernel_rfl) (by kernel_rfl) ?_
          refine at_seg [(0, []), (1, [])] [(4, .str ([] : List UInt8)), (5, .bool false)] H (noU_all rfl) (fun fr => by kernel_rfl) ?_
          intro fr H
          refine at_nil ?_
          show AW cfg 40 (⟨h.size, []⟩ : Gd) (right (left (right (left (right (right (bodyC cfg.P 40))))))) fr h _
          refine aw_ret (by kernel_rfl) ?_
          have e1 := Option.some.inj hm
          obtain ⟨u0, v0⟩ := Prod.mk.inj e1
          subst u0
          subst v0
          exact (doneE_of .ret H (fun fr => by kernel_rfl) (.inl rfl) : doneE cfg.P _ _ _ fr _)
        · replace H := H.know 28 hb (by kernel_rfl)
          refine aw_false (x := .tmp 28) (by kernel_rfl) H (fun fr => by kernel_rfl) ?_
          refine aw_skip (by kernel_rfl) ?_
          show AW cfg 40 (⟨h.size, []⟩ : Gd) (right (right (right (bodyC cfg.P 40)))) fr h _
          refine aw_seq (by kernel_rfl) ?_
          refine aw_reg (id := 5) (n := 3) [(0, []), (1, []), (2, [])] (by kernel_rfl) (by kernel_rfl) ?_
          refine at_seg [(0, [])] [(0, .int .i64 p0), (1, .int .i64 p1), (29, .int .i64 p1)] H (noU_all rfl) (fun fr => by kernel_rfl) ?_
          intro fr H
          obtain ⟨x4, hx, hm⟩ := bind_some hm
          obtain ⟨h1, hy, hm⟩ := bind_some hm
          refine at_step (v := .slice (some (h.size, 0)) ((p1).toNat)) (h1 := h1) [(0, .int .i64 p0), (1, .int .i64 p1), (30, .slice (some (h.size, 0)) ((p1).toNat))] H (fun fr => by kernel_rfl) (fun fr => .of (s_mk' (by kernel_rfl) hx hy)) ?_
          intro fr t H
          refine at_seg [(2, [])] [(0, .int .i64 p0), (1, .int .i64 p1), (6, .slice (some (h.size, 0)) ((p1).toNat))] H (noU_all rfl) (fun fr => by kernel_rfl) ?_
          intro fr H
          refine at_nil ?_
          show AW cfg 40 (⟨h.size, []⟩ : Gd) (right (right (right (right (bodyC cfg.P 40))))) fr h1 _
          refine aw_seq (by kernel_rfl) ?_
          refine aw_reg (id := 6) (n := 3) [(0, []), (1, []), (2, [])] (by kernel_rfl) (by kernel_rfl) ?_
          refine at_seg [(0, [])] [(0, .int .i64 p0), (1, .int .i64 p1), (6, .slice (some (h.size, 0)) ((p1).toNat)), (31, .slice (some (h.size, 0)) ((p1).toNat))] H (noU_all rfl) (fun fr => by kernel_rfl) ?_
          intro fr H
          obtain ⟨a1, hx, hm⟩ := bind_some hm
          refine at_step (v := .ptr (some a1)) (h1 := h1) [(0, .int .i64 p0), (1, .int .i64 p1), (6, .slice (some (h.size, 0)) ((p1).toNat)), (32, .ptr (some (a1.1, a1.2)))] H (fun fr => by kernel_rfl) (fun fr => .of (s_ixL (s := (⟨some (h.size, 0), (p1).toNat⟩ : Sl)) (by kernel_rfl) hx)) ?_
          intro fr t H
          obtain ⟨h2, hx, hm⟩ := bind_some hm
          refine at_step (v := .tuple []) (h1 := h2) [(0, .int .i64 p0), (1, .int .i64 p1), (6, .slice (some (h.size, 0)) ((p1).toNat))] H (fun fr => by kernel_rfl) (fun fr => .of (s_st (by kernel_rfl) rfl hx)) ?_
          intro fr t H
          refine at_nil ?_
          show AW cfg 40 (⟨h.size, []⟩ : Gd) (right (right (right (right (right (bodyC cfg.P 40)))))) fr h2 _
          refine aw_seq (by kernel_rfl) ?_
          obtain ⟨o1, ho, hm⟩ := bind_some hm
          refine aw_mono (Q' := fun e fr' h' => (e = .normal ∧ h' = o1 ∧ h' = h' ∧ Has fr' 52 [(0, .int .i64 p0), (1, .int .i64 p1), (6, .slice (some (h.size, 0)) ((p1).toNat))]) ∨ False) ?_ ?_
          · replace hm := ho
            clear ho
            refine aw_seq (by kernel_rfl) ?_
            refine aw_reg (id := 7) (n := 2) [(0, []), (1, [])] (by kernel_rfl) (by kernel_rfl) ?_
            refine at_seg [(0, []), (1, [])] [(0, .int .i64 p0), (1, .int .i64 p1), (6, .slice (some (h.size, 0)) ((p1).toNat)), (34, .bool (decide (p0 < (0 : Int))))] H (noU_all rfl) (fun fr => by kernel_rfl) ?_
            intro fr H
            refine at_nil ?_
            show AW cfg 40 (⟨h.size, []⟩ : Gd) (right (left (right (right (right (right (right (bodyC cfg.P 40)))))))) fr h2 _
            rcases iteB_some hm with ⟨hb, hm⟩ | ⟨hb, hm⟩
            · replace H := H.know 34 hb (by kernel_rfl)
              refine aw_true (x := .tmp 34) (by kernel_rfl) H (fun fr => by kernel_rfl) ?_
              refine aw_reg (id := 8) (n := 3) [(0, []), (1, []), (2, [])] (by kernel_rfl) (by kernel_rfl) ?_
              refine at_seg [(0, [])] [(0, .int .i64 p0), (1, .int .i64 p1), (6, .slice (some (h.size, 0)) ((p1).toNat)), (35, .slice (some (h.size, 0)) ((p1).toNat))] H (noU_all rfl) (fun fr => by kernel_rfl) ?_
              intro fr H
              obtain ⟨a2, hx, hm⟩ := bind_some hm
              refine at_step (v := .ptr (some a2)) (h1 := h2) [(0, .int .i64 p0), (1, .int .i64 p1), (6, .slice (some (h.size, 0)) ((p1).toNat)), (36, .ptr (some (a2.1, a2.2)))] H (fun fr => by kernel_rfl) (fun fr => .of (s_ixL (s := (⟨some (h.size, 0), (p1).toNat⟩ : Sl)) (by kernel_rfl) hx)) ?_
              intro fr t H
              obtain ⟨h3, hx, hm⟩ := bind_some hm
              refine at_step (v := .tuple []) (h1 := h3) [(0, .int .i64 p0), (1, .int .i64 p1), (6, .slice (some (h.size, 0)) ((p1).toNat))] H (fun fr => by kernel_rfl) (fun fr => .of (s_st (by kernel_rfl) rfl hx)) ?_
              intro fr t H
              refine at_nil ?_
              exact Or.inl ⟨rfl, Option.some.inj hm, rfl, H.less _ (fun fr => by kernel_rfl)⟩
            · replace H := H.know 34 hb (by kernel_rfl)
              refine aw_false (x := .tmp 34) (by kernel_rfl) H (fun fr => by kernel_rfl) ?_
              refine aw_skip (by kernel_rfl) ?_
              exact Or.inl ⟨rfl, Option.some.inj hm, rfl, H.less _ (fun fr => by kernel_rfl)⟩
          · clear ho
            intro e fr h4 hQ
            rcases hQ with ⟨rfl, rfl, _, H⟩ | hF
            · skip
              show AW cfg 40 (⟨h.size, []⟩ : Gd) (right (right (right (right (right (right (bodyC cfg.P 40))))))) fr h4 _
              refine aw_seq (by kernel_rfl) ?_
              refine aw_seq (by kernel_rfl) ?_
              refine aw_reg (id := 9) (n := 3) [(0, []), (1, []), (2, [])] (by kernel_rfl) (by kernel_rfl) ?_
              refine at_seg [(0, []), (1, []), (2, [])] [(0, .int .i64 p0), (6, .slice (some (h.size, 0)) ((p1).toNat)), (7, .int .i64 (IntKind.i64.wrap (p1 - (1 : Int))))] H (noU_all rfl) (fun fr => by kernel_rfl) ?_
              intro fr H
              refine at_nil ?_
              show AW cfg 40 (⟨h.size, []⟩ : Gd) (right (left (right (right (right (right (right (right (bodyC cfg.P 40))))))))) fr h4 _
              refine aw_block (id := 0) (by kernel_rfl) ?_
              obtain ⟨o2, ho, hm⟩ := bind_some hm
              refine aw_mono (Q' := fun e fr' h' => (e = .exit 0 ∧ h' = o2 ∧ h' = h' ∧ Has fr' 52 [(6, .slice (some (h.size, 0)) ((p1).toNat))]) ∨ False) ?_ ?_
              · refine aw_loop (by kernel_rfl) (fun (s : Int × Int × AHeap) fr' h' => ∃ (x7 : Int) (x8 : Int), (x7, x8, h') = s ∧ h' = h' ∧ Has fr' 52 [(0, .int .i64 x7), (6, .slice (some (h.size, 0)) ((p1).toNat)), (7, .int .i64 x8)]) ho ⟨p0, IntKind.i64.wrap (p1 - (1 : Int)), rfl, rfl, H.less _ (fun fr => by kernel_rfl)⟩ ?_
                clear ho hm H
                intro s q fr h5 hI hm
                obtain ⟨x7, x8, rfl, _, H⟩ := hI
                unfold M_octal_Binary_L0 at hm
                refine aw_seq (by kernel_rfl) ?_
                refine aw_seq (by kernel_rfl) ?_
                refine aw_reg (id := 10) (n := 2) [(0, []), (1, [])] (by kernel_rfl) (by kernel_rfl) ?_
                refine at_seg [(0, []), (1, [])] [(0, .int .i64 x7), (6, .slice (some (h.size, 0)) ((p1).toNat)), (7, .int .i64 x8), (40, .bool (decide (x8 > (0 : Int))))] H (noU_all rfl) (fun fr => by kernel_rfl) ?_
                intro fr H
                refine at_nil ?_
                show AW cfg 40 (⟨h.size, []⟩ : Gd) (right (left (left (left (right (left (right (right (right (right (right (right (bodyC cfg.P 40))))))))))))) fr h5 _
                rcases iteB_some hm with ⟨hb, hm⟩ | ⟨hb, hm⟩
                · replace H := H.know 40 hb (by kernel_rfl)
                  refine aw_true (x := .tmp 40) (by kernel_rfl) H (fun fr => by kernel_rfl) ?_
                  refine aw_skip (by kernel_rfl) ?_
                  show AW cfg 40 (⟨h.size, []⟩ : Gd) (right (left (left (right (left (right (right (right (right (right (right (bodyC cfg.P 40)))))))))))) fr h5 _
                  refine aw_seq (by kernel_rfl) ?_
                  refine aw_block (id := 1) (by kernel_rfl) ?_
                  refine aw_seq (by kernel_rfl) ?_
                  refine aw_reg (id := 12) (n := 6) [(0, []), (1, []), (2, []), (3, []), (4, []), (5, [])] (by kernel_rfl) (by kernel_rfl) ?_
                  refine at_seg [(0, []), (1, []), (2, []), (3, [])] [(0, .int .i64 x7), (6, .slice (some (h.size, 0)) ((p1).toNat)), (7, .int .i64 x8), (43, .slice (some (h.size, 0)) ((p1).toNat)), (44, .int .i64 x8), (46, .int .u8 (IntKind.u8.wrap x7))] H (noU_all rfl) (fun fr => by kernel_rfl) ?_
                  intro fr H
                  obtain ⟨a3, hx, hm⟩ := bind_some hm
                  refine at_step (v := .ptr (some a3)) (h1 := h5) [(0, .int .i64 x7), (6, .slice (some (h.size, 0)) ((p1).toNat)), (7, .int .i64 x8), (46, .int .u8 (IntKind.u8.wrap x7)), (47, .ptr (some (a3.1, a3.2)))] H (fun fr => by kernel_rfl) (fun fr => .of (s_ixL (s := (⟨some (h.size, 0), (p1).toNat⟩ : Sl)) (by kernel_rfl) hx)) ?_
                  intro fr t H
                  obtain ⟨h6, hx, hm⟩ := bind_some hm
                  refine at_step (v := .tuple []) (h1 := h6) [(0, .int .i64 x7), (6, .slice (some (h.size, 0)) ((p1).toNat)), (7, .int .i64 x8)] H (fun fr => by kernel_rfl) (fun fr => .of (s_st (by kernel_rfl) rfl hx)) ?_
                  intro fr t H
                  refine at_nil ?_
                  show AW cfg 40 (⟨h.size, []⟩ : Gd) (right (left (left (right (left (left (right (left (right (right (right (right (right (right (bodyC cfg.P 40))))))))))))))) fr h6 _
                  refine aw_reg (id := 13) (n := 3) [(0, []), (1, []), (2, [])] (by kernel_rfl) (by kernel_rfl) ?_
                  refine at_seg [(0, []), (1, []), (2, [])] [(0, .int .i64 (bShr .i64 x7 (8 : Int))), (6, .slice (some (h.size, 0)) ((p1).toNat)), (7, .int .i64 x8)] H (noU_all rfl) (fun fr => by kernel_rfl) ?_
                  intro fr H
                  refine at_nil ?_
                  show AW cfg 40 (⟨h.size, []⟩ : Gd) (right (right (left (left (right (left (right (right (right (right (right (right (bodyC cfg.P 40))))))))))))) fr h6 _
                  refine aw_reg (id := 11) (n := 3) [(0, []), (1, []), (2, [])] (by kernel_rfl) (by kernel_rfl) ?_
                  refine at_seg [(0, []), (1, []), (2, [])] [(0, .int .i64 (bShr .i64 x7 (8 : Int))), (6, .slice (some (h.size, 0)) ((p1).toNat)), (7, .int .i64 (IntKind.i64.wrap (x8 - (1 : Int))))] H (noU_all rfl) (fun fr => by kernel_rfl) ?_
                  intro fr H
                  refine at_nil ?_
                  exact Exists.intro (bShr .i64 x7 (8 : Int), IntKind.i64.wrap (x8 - (1 : Int)), h6) (And.intro (Option.some.inj hm).symm ⟨bShr .i64 x7 (8 : Int), IntKind.i64.wrap (x8 - (1 : Int)), rfl, rfl, H.less _ (fun fr => by kernel_rfl)⟩)
                · replace H := H.know 40 hb (by kernel_rfl)
                  refine aw_false (x := .tmp 40) (by kernel_rfl) H (fun fr => by kernel_rfl) ?_
                  refine aw_exit (i := 0) (by kernel_rfl) ?_
                  exact Exists.intro _ (And.intro (Option.some.inj hm).symm (fun e => Or.inl ⟨rfl, e, rfl, H.less _ (fun fr => by kernel_rfl)⟩))
              · clear ho
                intro e fr h7 hQ
                rcases hQ with ⟨rfl, rfl, _, H⟩ | hF
                · skip
                  show AW cfg 40 (⟨h.size, []⟩ : Gd) (right (right (right (right (right (right (right (bodyC cfg.P 40)))))))) fr h7 _
                  refine aw_seq (by kernel_rfl) ?_
                  refine aw_reg (id := 14) (n := 4) [(0, []), (1, []), (2, []), (3, [])] (by kernel_rfl) (by kernel_rfl) ?_
                  refine at_seg [(0, [])] [(50, .slice (some (h.size, 0)) ((p1).toNat))] H (noU_all rfl) (fun fr => by kernel_rfl) ?_
                  intro fr H
                  obtain ⟨x9, hx, hm⟩ := bind_some hm
                  refine at_step (v := .str x9) (h1 := h7) [(51, .str x9)] H (fun fr => by kernel_rfl) (fun fr => .of (s_byL (s := (⟨some (h.size, 0), (p1).toNat⟩ : Sl)) (by kernel_rfl) hx)) ?_
                  intro fr t H
                  refine at_seg [(2, []), (3, [])] [(4, .str x9), (5, .bool true)] H (noU_all rfl) (fun fr => by kernel_rfl) ?_
                  intro fr H
                  refine at_nil ?_
                  show AW cfg 40 (⟨h.size, []⟩ : Gd) (right (right (right (right (right (right (right (right (bodyC cfg.P 40))))))))) fr h7 _
                  refine aw_ret (by kernel_rfl) ?_
                  have e1 := Option.some.inj hm
                  obtain ⟨u0, v0⟩ := Prod.mk.inj e1
                  subst u0
                  subst v0
                  exact (doneE_of .ret H (fun fr => by kernel_rfl) (.inl rfl) : doneE cfg.P _ _ _ fr _)
                · exact hF.elim
            · exact hF.elim
/-! ### boulter/octal.Write -/
noncomputable def M_octal_Write (h : AHeap) (p0 : Int) (p1 : Int) : Option ((List UInt8) × Int) :=
 (M_octal_may h p1).bind fun x1 => iteB (!x1) (some (([] : List UInt8), (1 : Int))) (iteB ((decide (p0 > (9007199254740991 : Int))) || (decide (p0 < (-9007199254740991 : Int)))) (some (([] : List UInt8), (6 : Int))) ((M_octal_Octal h p0 p1).bind fun (x2, x3) => iteB x3 (some (x2, (0 : Int))) ((M_octal_Binary h p0 p1).bind fun (x4, x5) => iteB x5 (some (x4, (0 : Int))) (some (([] : List UInt8), (6 : Int))))))
theorem ok_octal_Write {g : Gd} {h : AHeap} {p0 : Int} {p1 : Int} {r0 : List UInt8} {r1 : Int} (hm : M_octal_Write h p0 p1 = some (r0, r1)) : Runs cfg g h 36 [.int .i64 p0, .int .i64 p1] (.tuple [.str r0, .int .i64 r1]) h := by
  refine runs2E (by kernel_rfl) (by kernel_rfl) (body_ofE (n := 37) (rs := [.tmp 4, .tmp 5]) (by kernel_rfl) ?_)
  unfold M_octal_Write at hm
  refine start (n := 37) [(0, .int .i64 p0), (1, .int .i64 p1)] (by kernel_rfl) (by kernel_rfl) ?_
  intro fr H
  refine aw_seq (by kernel_rfl) ?_
  refine aw_reg (id := 0) (n := 2) [(0, []), (1, [])] (by kernel_rfl) (by kernel_rfl) ?_
  refine at_seg [(0, []), (1, [])] [(0, .int .i64 p0), (1, .int .i64 p1)] H (noU_all rfl) (fun fr => by kernel_rfl) ?_
  intro fr H
  refine at_nil ?_
  show AW cfg 36 (⟨h.size, []⟩ : Gd) (right (bodyC cfg.P 36)) fr h _
  refine aw_seq (by kernel_rfl) ?_
  refine aw_block (id := 0) (by kernel_rfl) ?_
  refine aw_seq (by kernel_rfl) ?_
  refine aw_reg (id := 1) (n := 4) [(0, []), (1, []), (2, []), (3, [])] (by kernel_rfl) (by kernel_rfl) ?_
  refine at_seg [(0, [])] [(0, .int .i64 p0), (1, .int .i64 p1), (11, .int .i64 p1)] H (noU_all rfl) (fun fr => by kernel_rfl) ?_
  intro fr H
  obtain ⟨x1, hx, hm⟩ := bind_some hm
  refine at_step (v := .bool x1) (h1 := h) [(0, .int .i64 p0), (1, .int .i64 p1), (12, .bool x1)] H (fun fr => by kernel_rfl) (fun fr => Steps.call (by kernel_rfl) (ok_octal_may hx)) ?_
  intro fr t H
  refine at_seg [(2, []), (3, [])] [(0, .int .i64 p0), (1, .int .i64 p1), (10, .bool (!x1))] H (noU_all rfl) (fun fr => by kernel_rfl) ?_
  intro fr H
  refine at_nil ?_
  show AW cfg 36 (⟨h.size, []⟩ : Gd) (right (left (left (right (bodyC cfg.P 36))))) fr h _
  rcases iteB_some hm with ⟨hb, hm⟩ | ⟨hb, hm⟩
  · replace H := H.know 10 hb (by kernel_rfl)
    refine aw_true (x := .tmp 10) (by kernel_rfl) H (fun fr => by kernel_rfl) ?_
    refine aw_seq (by kernel_rfl) ?_
    refine aw_reg (id := 2) (n := 2) [(0, []), (1, [])] (by kernel_rfl) (by kernel_rfl) ?_
    refine at_seg [(0, []), (1, [])] [(4, .str ([] : List UInt8)), (5, .int .i64 (1 : Int))] H (noU_all rfl) (fun fr => by kernel_rfl) ?_
    intro fr H
    refine at_nil ?_
    show AW cfg 36 (⟨h.size, []⟩ : Gd) (right (left (right (left (left (right (bodyC cfg.P 36))))))) fr h _
    refine aw_ret (by kernel_rfl) ?_
    have e1 := Option.some.inj hm
    obtain ⟨u0, v0⟩ := Prod.mk.inj e1
    subst u0
    subst v0
    exact (doneE_of .ret H (fun fr => by kernel_rfl) (.inl rfl) : doneE cfg.P _ _ _ fr _)
  · replace H := H.know 10 hb (by kernel_rfl)
    refine aw_false (x := .tmp 10) (by kernel_rfl) H (fun fr => by kernel_rfl) ?_
    refine aw_seq (by kernel_rfl) ?_
    refine aw_reg (id := 3) (n := 7) [(0, []), (1, []), (2, []), (3, []), (4, []), (5, []), (6, [])] (by kernel_rfl) (by kernel_rfl) ?_
    refine at_seg [(0, []), (1, []), (2, [])] [(0, .int .i64 p0), (1, .int .i64 p1), (17, .bool (decide (p0 > (9007199254740991 : Int))))] H (noU_all rfl) (fun fr => by kernel_rfl) ?_
    intro fr H
    refine at_cut [(3, []), (4, []), (5, [])] (fun fr' h' => h = h' ∧ Has fr' 37 [(0, .int .i64 p0), (1, .int .i64 p1), (20, .bool ((decide (p0 > (9007199254740991 : Int))) || (decide (p0 < (-9007199254740991 : Int)))))]) ?_ ?_
    · cases hb : (decide (p0 > (9007199254740991 : Int)) : Bool) with
      | true =>
        replace H := H.know 17 hb (by kernel_rfl)
        refine at_seg [(3, []), (4, []), (5, [])] [(0, .int .i64 p0), (1, .int .i64 p1), (20, .bool true)] H (noU_all rfl) (fun fr => by kernel_rfl) ?_
        intro fr H
        exact at_nil ⟨rfl, by first | exact H.less _ (fun fr => by rfl) | exact H.less _ (fun fr => by rw [hb]; rfl)⟩
      | false =>
        replace H := H.know 17 hb (by kernel_rfl)
        refine at_seg [(3, []), (4, []), (5, [])] [(0, .int .i64 p0), (1, .int .i64 p1), (20, .bool (decide (p0 < (-9007199254740991 : Int))))] H (noU_all rfl) (fun fr => by kernel_rfl) ?_
        intro fr H
        exact at_nil ⟨rfl, by first | exact H.less _ (fun fr => by rfl) | exact H.less _ (fun fr => by rw [hb]; rfl)⟩
    · intro t fr h' hK
      obtain ⟨e, H⟩ := hK
      subst e
      refine at_seg [(6, [])] [(0, .int .i64 p0), (1, .int .i64 p1), (14, .bool ((decide (p0 > (9007199254740991 : Int))) || (decide (p0 < (-9007199254740991 : Int)))))] H (noU_all rfl) (fun fr => by kernel_rfl) ?_
      intro fr H
      refine at_nil ?_
      show AW cfg 36 (⟨h.size, []⟩ : Gd) (right (right (right (left (left (right (bodyC cfg.P 36))))))) fr h _
      rcases iteB_some hm with ⟨hb, hm⟩ | ⟨hb, hm⟩
      · replace H := H.know 14 hb (by kernel_rfl)
        refine aw_true (x := .tmp 14) (by kernel_rfl) H (fun fr => by kernel_rfl) ?_
        refine aw_seq (by kernel_rfl) ?_
        refine aw_reg (id := 4) (n := 2) [(0, []), (1, [])] (by kernel_rfl) (by kernel_rfl) ?_
        refine at_seg [(0, []), (1, [])] [(4, .str ([] : List UInt8)), (5, .int .i64 (6 : Int))] H (noU_all rfl) (fun fr => by kernel_rfl) ?_
        intro fr H
        refine at_nil ?_
        show AW cfg 36 (⟨h.size, []⟩ : Gd) (right (left (right (right (right (left (left (right (bodyC cfg.P 36))))))))) fr h _
        refine aw_ret (by kernel_rfl) ?_
        have e1 := Option.some.inj hm
        obtain ⟨u0, v0⟩ := Prod.mk.inj e1
        subst u0
        subst v0
        exact (doneE_of .ret H (fun fr => by kernel_rfl) (.inl rfl) : doneE cfg.P _ _ _ fr _)
      · replace H := H.know 14 hb (by kernel_rfl)
        refine aw_false (x := .tmp 14) (by kernel_rfl) H (fun fr => by kernel_rfl) ?_
        refine aw_skip (by kernel_rfl) ?_
        show AW cfg 36 (⟨h.size, []⟩ : Gd) (right (right (bodyC cfg.P 36))) fr h _
        refine aw_seq (by kernel_rfl) ?_
        refine aw_seq (by kernel_rfl) ?_
        refine aw_reg (id := 5) (n := 8) [(0, []), (1, []), (2, []), (3, []), (4, []), (5, []), (6, []), (7, [])] (by kernel_rfl) (by kernel_rfl) ?_
        refine at_seg [(0, []), (1, [])] [(0, .int .i64 p0), (1, .int .i64 p1), (22, .int .i64 p0), (23, .int .i64 p1)] H (noU_all rfl) (fun fr => by kernel_rfl) ?_
        intro fr H
        obtain ⟨⟨x2, x3⟩, hx, hm⟩ := bind_some hm
        refine at_step (v := .tuple [.str x2, .bool x3]) (h1 := h) [(0, .int .i64 p0), (1, .int .i64 p1), (24, .tuple [.str x2, .bool x3])] H (fun fr => by kernel_rfl) (fun fr => Steps.call (by kernel_rfl) (ok_octal_Octal hx)) ?_
        intro fr t H
        refine at_seg [(3, []), (4, []), (5, []), (6, []), (7, [])] [(0, .int .i64 p0), (1, .int .i64 p1), (6, .str x2), (7, .bool x3)] H (noU_all rfl) (fun fr => by kernel_rfl) ?_
        intro fr H
        refine at_nil ?_
        show AW cfg 36 (⟨h.size, []⟩ : Gd) (right (left (right (right (bodyC cfg.P 36))))) fr h _
        refine aw_seq (by kernel_rfl) ?_
        refine aw_reg (id := 6) (n := 1) [(0, [])] (by kernel_rfl) (by kernel_rfl) ?_
        refine at_seg [(0, [])] [(0, .int .i64 p0), (1, .int .i64 p1), (6, .str x2), (27, .bool x3)] H (noU_all rfl) (fun fr => by kernel_rfl) ?_
        intro fr H
        refine at_nil ?_
        show AW cfg 36 (⟨h.size, []⟩ : Gd) (right (right (left (right (right (bodyC cfg.P 36)))))) fr h _
        rcases iteB_some hm with ⟨hb, hm⟩ | ⟨hb, hm⟩
        · replace H := H.know 27 hb (by kernel_rfl)
          refine aw_true (x := .tmp 27) (by kernel_rfl) H (fun fr => by kernel_rfl) ?_
          refine aw_seq (by kernel_rfl) ?_
          refine aw_reg (id := 7) (n := 3) [(0, []), (1, []), (2, [])] (by kernel_rfl) (by kernel_rfl) ?_
          refine at_seg [(0, []), (1, []), (2, [])] [(4, .str x2), (5, .int .i64 (0 : Int))] H (noU_all rfl) (fun fr => by kernel_rfl) ?_
          intro fr H
          refine at_nil ?_
          show AW cfg 36 (⟨h.size, []⟩ : Gd) (right (left (right (right (left (right (right (bodyC cfg.P 36)))))))) fr h _
          refine aw_ret (by kernel_rfl) ?_
          have e1 := Option.some.inj hm
          obtain ⟨u0, v0⟩ := Prod.mk.inj e1
          subst u0
          subst v0
          exact (doneE_of .ret H (fun fr => by kernel_rfl) (.inl rfl) : doneE cfg.P _ _ _ fr _)
        · replace H := H.know 27 hb (by kernel_rfl)
          refine aw_false (x := .tmp 27) (by kernel_rfl) H (fun fr => by kernel_rfl) ?_
          refine aw_skip (by kernel_rfl) ?_
          show AW cfg 36 (⟨h.size, []⟩ : Gd) (right (right (right (bodyC cfg.P 36)))) fr h _
          refine aw_seq (by kernel_rfl) ?_
          refine aw_seq (by kernel_rfl) ?_
          refine aw_reg (id := 8) (n := 8) [(0, []), (1, []), (2, []), (3, []), (4, []), (5, []), (6, []), (7, [])] (by kernel_rfl) (by kernel_rfl) ?_
          refine at_seg [(0, []), (1, [])] [(30, .int .i64 p0), (31, .int .i64 p1)] H (noU_all rfl) (fun fr => by kernel_rfl) ?_
          intro fr H
          obtain ⟨⟨x4, x5⟩, hx, hm⟩ := bind_some hm
          refine at_step (v := .tuple [.str x4, .bool x5]) (h1 := h) [(32, .tuple [.str x4, .bool x5])] H (fun fr => by kernel_rfl) (fun fr => Steps.call (by kernel_rfl) (ok_octal_Binary hx)) ?_
          intro fr t H
          refine at_seg [(3, []), (4, []), (5, []), (6, []), (7, [])] [(8, .str x4), (9, .bool x5)] H (noU_all rfl) (fun fr => by kernel_rfl) ?_
          intro fr H
          refine at_nil ?_
          show AW cfg 36 (⟨h.size, []⟩ : Gd) (right (left (right (right (right (bodyC cfg.P 36)))))) fr h _
          refine aw_seq (by kernel_rfl) ?_
          refine aw_reg (id := 9) (n := 1) [(0, [])] (by kernel_rfl) (by kernel_rfl) ?_
          refine at_seg [(0, [])] [(8, .str x4), (35, .bool x5)] H (noU_all rfl) (fun fr => by kernel_rfl) ?_
          intro fr H
          refine at_nil ?_
          show AW cfg 36 (⟨h.size, []⟩ : Gd) (right (right (left (right (right (right (bodyC cfg.P 36))))))) fr h _
          rcases iteB_some hm with ⟨hb, hm⟩ | ⟨hb, hm⟩
          · replace H := H.know 35 hb (by kernel_rfl)
            refine aw_true (x := .tmp 35) (by kernel_rfl) H (fun fr => by kernel_rfl) ?_
            refine aw_seq (by kernel_rfl) ?_
            refine aw_reg (id := 10) (n := 3) [(0, []), (1, []), (2, [])] (by kernel_rfl) (by kernel_rfl) ?_
            refine at_seg [(0, []), (1, []), (2, [])] [(4, .str x4), (5, .int .i64 (0 : Int))] H (noU_all rfl) (fun fr => by kernel_rfl) ?_
            intro fr H
            refine at_nil ?_
            show AW cfg 36 (⟨h.size, []⟩ : Gd) (right (left (right (right (left (right (right (right (bodyC cfg.P 36))))))))) fr h _
            refine aw_ret (by kernel_rfl) ?_
            have e1 := Option.some.inj hm
            obtain ⟨u0, v0⟩ := Prod.mk.inj e1
            subst u0
            subst v0
            exact (doneE_of .ret H (fun fr => by kernel_rfl) (.inl rfl) : doneE cfg.P _ _ _ fr _)
          · replace H := H.know 35 hb (by kernel_rfl)
            refine aw_false (x := .tmp 35) (by kernel_rfl) H (fun fr => by kernel_rfl) ?_
            refine aw_skip (by kernel_rfl) ?_
            show AW cfg 36 (⟨h.size, []⟩ : Gd) (right (right (right (right (bodyC cfg.P 36))))) fr h _
            refine aw_seq (by kernel_rfl) ?_
            refine aw_reg (id := 11) (n := 2) [(0, []), (1, [])] (by kernel_rfl) (by kernel_rfl) ?_
            refine at_seg [(0, []), (1, [])] [(4, .str ([] : List UInt8)), (5, .int .i64 (6 : Int))] H (noU_all rfl) (fun fr => by kernel_rfl) ?_
            intro fr H
            refine at_nil ?_
            show AW cfg 36 (⟨h.size, []⟩ : Gd) (right (right (right (right (right (bodyC cfg.P 36)))))) fr h _
            refine aw_ret (by kernel_rfl) ?_
            have e1 := Option.some.inj hm
            obtain ⟨u0, v0⟩ := Prod.mk.inj e1
            subst u0
            subst v0
            exact (doneE_of .ret H (fun fr => by kernel_rfl) (.inl rfl) : doneE cfg.P _ _ _ fr _)
end Go.Abs.L
