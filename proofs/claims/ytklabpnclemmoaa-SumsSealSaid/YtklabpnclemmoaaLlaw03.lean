/-
  Models of functions of package law03, and that the abstract run tells them. Written by lift.py.
-/
import Derived.Test.YtklabpnclemmoaaLCfg
namespace Go.Abs.L
open Go.Abs
set_option linter.unusedVariables false
/-! ### boulter/boulterlaw03.block -/
noncomputable def M_boulterlaw03_block_L0 (h : AHeap) (p0 : List UInt8) (s : Int × AHeap) : Option ((Int × AHeap) ⊕ ((AHeap))) :=
  match s with
  | (x3, h2) => iteB (decide (x3 < ((((512 : Int)).toNat : Nat) : Int))) ((iteB (decide ((p0.length : Int) > (0 : Int))) (need ((p0.length : Int) != 0) <| (ixS p0 (Int.tmod x3 (p0.length : Int))).bind fun x4 => (ixL (⟨some (h.size, 0), ((512 : Int)).toNat⟩ : Sl) 1 x3).bind fun a1 => (st (⟨h.size, []⟩ : Gd) h2 (a1.1, a1.2) [.int .u8 x4]).bind fun h3 => some h3) (some h2) : Option ((AHeap))).bind fun h4 => some (.inl (IntKind.i64.wrap (x3 + (1 : Int)), h4))) (some (.inr h2))
noncomputable def M_boulterlaw03_block (h : AHeap) (p0 : List UInt8) (p1 : List UInt8) : Option ((List UInt8)) :=
 (mkL 1 [.int .u8 (0 : Int)] (512 : Int) (512 : Int)).bind fun x1 => (some (h.push (.cells (some 5) 2 x1))).bind fun h1 => (loop (M_boulterlaw03_block_L0 h p0) ((0 : Int), h1)).bind fun h5 => (subL cfg.P h5 (⟨some (h.size, 0), ((512 : Int)).toNat⟩ : Sl) 1 (some (148 : Int)) (some (156 : Int))).bind fun x5 => (cpy 1 (⟨h.size, []⟩ : Gd) h5 x5 p1.length (.str p1)).bind fun (x6, h6) => (byL h6 (⟨some (h.size, 0), ((512 : Int)).toNat⟩ : Sl)).bind fun x7 => some x7
theorem ok_boulterlaw03_block {g : Gd} {h : AHeap} {p0 : List UInt8} {p1 : List UInt8} {r0 : List UInt8} (hm : M_boulterlaw03_block h p0 p1 = some r0) : Runs cfg g h 46 [.str p0, .str p1] (.str r0) h := by
  refine runs2E (by kernel_rfl) (by kernel_rfl) (body_ofE (n := 32) (rs := [.tmp 4]) (by kernel_rfl) ?_)
  unfold M_boulterlaw03_block at hm
  refine start (n := 32) [(0, .str p0), (1, .str p1)] (by kernel_rfl) (by kernel_rfl) ?_
  intro fr H
  refine aw_seq (by kernel_rfl) ?_
  refine aw_reg (id := 0) (n := 1) [(0, [])] (by kernel_rfl) (by kernel_rfl) ?_
  refine at_seg [(0, [])] [(0, .str p0), (1, .str p1)] H (noU_all rfl) (fun fr => by kernel_rfl) ?_
  intro fr H
  refine at_nil ?_
  show AW cfg 46 (⟨h.size, []⟩ : Gd) (right (bodyC cfg.P 46)) fr h _
  refine aw_seq (by kernel_rfl) ?_
  refine aw_reg (id := 1) (n := 2) [(0, []), (1, [])] (by kernel_rfl) (by kernel_rfl) ?_
  obtain ⟨x1, hx, hm⟩ := bind_some hm
  obtain ⟨h1, hy, hm⟩ := bind_some hm
  refine at_step (v := .slice (some (h.size, 0)) (((512 : Int)).toNat)) (h1 := h1) [(0, .str p0), (1, .str p1), (7, .slice (some (h.size, 0)) (((512 : Int)).toNat))] H (fun fr => by kernel_rfl) (fun fr => .of (s_mk' (by kernel_rfl) hx hy)) ?_
  intro fr t H
  refine at_seg [(1, [])] [(0, .str p0), (1, .str p1), (5, .slice (some (h.size, 0)) (((512 : Int)).toNat))] H (noU_all rfl) (fun fr => by kernel_rfl) ?_
  intro fr H
  refine at_nil ?_
  show AW cfg 46 (⟨h.size, []⟩ : Gd) (right (right (bodyC cfg.P 46))) fr h1 _
  refine aw_seq (by kernel_rfl) ?_
  refine aw_seq (by kernel_rfl) ?_
  refine aw_reg (id := 2) (n := 3) [(0, []), (1, []), (2, [])] (by kernel_rfl) (by kernel_rfl) ?_
  refine at_seg [(0, []), (1, []), (2, [])] [(0, .str p0), (1, .str p1), (5, .slice (some (h.size, 0)) (((512 : Int)).toNat)), (9, .int .i64 ((((512 : Int)).toNat : Nat) : Int)), (10, .int .i64 (0 : Int))] H (noU_all rfl) (fun fr => by kernel_rfl) ?_
  intro fr H
  refine at_nil ?_
  show AW cfg 46 (⟨h.size, []⟩ : Gd) (right (left (right (right (bodyC cfg.P 46))))) fr h1 _
  refine aw_block (id := 0) (by kernel_rfl) ?_
  obtain ⟨o1, ho, hm⟩ := bind_some hm
  refine aw_mono (Q' := fun e fr' h' => (e = .exit 0 ∧ h' = o1 ∧ h' = h' ∧ Has fr' 32 [(1, .str p1), (5, .slice (some (h.size, 0)) (((512 : Int)).toNat))]) ∨ False) ?_ ?_
  · refine aw_loop (by kernel_rfl) (fun (s : Int × AHeap) fr' h' => ∃ (x3 : Int), (x3, h') = s ∧ h' = h' ∧ Has fr' 32 [(0, .str p0), (1, .str p1), (5, .slice (some (h.size, 0)) (((512 : Int)).toNat)), (9, .int .i64 ((((512 : Int)).toNat : Nat) : Int)), (10, .int .i64 x3)]) ho ⟨(0 : Int), rfl, rfl, H.less _ (fun fr => by kernel_rfl)⟩ ?_
    clear ho hm H
    intro s q fr h2 hI hm
    obtain ⟨x3, rfl, _, H⟩ := hI
    unfold M_boulterlaw03_block_L0 at hm
    refine aw_seq (by kernel_rfl) ?_
    refine aw_reg (id := 3) (n := 1) [(0, [])] (by kernel_rfl) (by kernel_rfl) ?_
    refine at_seg [(0, [])] [(0, .str p0), (1, .str p1), (5, .slice (some (h.size, 0)) (((512 : Int)).toNat)), (9, .int .i64 ((((512 : Int)).toNat : Nat) : Int)), (10, .int .i64 x3), (11, .bool (decide (x3 < ((((512 : Int)).toNat : Nat) : Int))))] H (noU_all rfl) (fun fr => by kernel_rfl) ?_
    intro fr H
    refine at_nil ?_
    show AW cfg 46 (⟨h.size, []⟩ : Gd) (right (left (left (right (left (right (right (bodyC cfg.P 46)))))))) fr h2 _
    refine aw_seq (by kernel_rfl) ?_
    rcases iteB_some hm with ⟨hb, hm⟩ | ⟨hb, hm⟩
    · replace H := H.know 11 hb (by kernel_rfl)
      refine aw_true (x := .tmp 11) (by kernel_rfl) H (fun fr => by kernel_rfl) ?_
      refine aw_skip (by kernel_rfl) ?_
      show AW cfg 46 (⟨h.size, []⟩ : Gd) (right (right (left (left (right (left (right (right (bodyC cfg.P 46))))))))) fr h2 _
      refine aw_seq (by kernel_rfl) ?_
      obtain ⟨o2, ho, hm⟩ := bind_some hm
      refine aw_mono (Q' := fun e fr' h' => (e = .normal ∧ h' = o2 ∧ h' = h' ∧ Has fr' 32 [(0, .str p0), (1, .str p1), (5, .slice (some (h.size, 0)) (((512 : Int)).toNat)), (9, .int .i64 ((((512 : Int)).toNat : Nat) : Int)), (10, .int .i64 x3)]) ∨ False) ?_ ?_
      · replace hm := ho
        clear ho
        refine aw_block (id := 1) (by kernel_rfl) ?_
        refine aw_seq (by kernel_rfl) ?_
        refine aw_reg (id := 4) (n := 2) [(0, []), (1, [])] (by kernel_rfl) (by kernel_rfl) ?_
        refine at_seg [(0, []), (1, [])] [(0, .str p0), (1, .str p1), (5, .slice (some (h.size, 0)) (((512 : Int)).toNat)), (6, .int .i64 x3), (9, .int .i64 ((((512 : Int)).toNat : Nat) : Int)), (10, .int .i64 x3)] H (noU_all rfl) (fun fr => by kernel_rfl) ?_
        intro fr H
        refine at_nil ?_
        show AW cfg 46 (⟨h.size, []⟩ : Gd) (right (left (left (right (right (left (left (right (left (right (right (bodyC cfg.P 46)))))))))))) fr h2 _
        refine aw_seq (by kernel_rfl) ?_
        refine aw_reg (id := 5) (n := 3) [(0, []), (1, []), (2, [])] (by kernel_rfl) (by kernel_rfl) ?_
        refine at_seg [(0, []), (1, []), (2, [])] [(0, .str p0), (1, .str p1), (5, .slice (some (h.size, 0)) (((512 : Int)).toNat)), (6, .int .i64 x3), (9, .int .i64 ((((512 : Int)).toNat : Nat) : Int)), (10, .int .i64 x3), (15, .bool (decide ((p0.length : Int) > (0 : Int))))] H (noU_all rfl) (fun fr => by kernel_rfl) ?_
        intro fr H
        refine at_nil ?_
        show AW cfg 46 (⟨h.size, []⟩ : Gd) (right (right (left (left (right (right (left (left (right (left (right (right (bodyC cfg.P 46))))))))))))) fr h2 _
        rcases iteB_some hm with ⟨hb, hm⟩ | ⟨hb, hm⟩
        · replace H := H.know 15 hb (by kernel_rfl)
          refine aw_true (x := .tmp 15) (by kernel_rfl) H (fun fr => by kernel_rfl) ?_
          refine aw_reg (id := 6) (n := 10) [(0, []), (1, []), (2, []), (3, []), (4, []), (5, []), (6, []), (7, []), (8, []), (9, [])] (by kernel_rfl) (by kernel_rfl) ?_
          refine at_seg [(0, []), (1, []), (2, []), (3, []), (4, []), (5, [])] [(0, .str p0), (1, .str p1), (5, .slice (some (h.size, 0)) (((512 : Int)).toNat)), (9, .int .i64 ((((512 : Int)).toNat : Nat) : Int)), (10, .int .i64 x3), (16, .slice (some (h.size, 0)) (((512 : Int)).toNat)), (17, .int .i64 x3), (18, .str p0), (19, .int .i64 x3), (21, .int .i64 (p0.length : Int))] H (noU_all rfl) (fun fr => by kernel_rfl) ?_
          intro fr H
          obtain ⟨hb, hm⟩ := need_some hm
          refine at_step (v := .int .i64 (Int.tmod x3 (p0.length : Int))) (h1 := h2) [(0, .str p0), (1, .str p1), (5, .slice (some (h.size, 0)) (((512 : Int)).toNat)), (9, .int .i64 ((((512 : Int)).toNat : Nat) : Int)), (10, .int .i64 x3), (16, .slice (some (h.size, 0)) (((512 : Int)).toNat)), (17, .int .i64 x3), (18, .str p0), (22, .int .i64 (Int.tmod x3 (p0.length : Int)))] H (fun fr => by kernel_rfl) (fun fr => .of (s_rem (by kernel_rfl) hb)) ?_
          intro fr t H
          obtain ⟨x4, hx, hm⟩ := bind_some hm
          refine at_step (v := .int .u8 x4) (h1 := h2) [(0, .str p0), (1, .str p1), (5, .slice (some (h.size, 0)) (((512 : Int)).toNat)), (9, .int .i64 ((((512 : Int)).toNat : Nat) : Int)), (10, .int .i64 x3), (16, .slice (some (h.size, 0)) (((512 : Int)).toNat)), (17, .int .i64 x3), (23, .int .u8 x4)] H (fun fr => by kernel_rfl) (fun fr => .of (s_ixS (by kernel_rfl) hx)) ?_
          intro fr t H
          obtain ⟨a1, hx, hm⟩ := bind_some hm
          refine at_step (v := .ptr (some a1)) (h1 := h2) [(0, .str p0), (1, .str p1), (5, .slice (some (h.size, 0)) (((512 : Int)).toNat)), (9, .int .i64 ((((512 : Int)).toNat : Nat) : Int)), (10, .int .i64 x3), (23, .int .u8 x4), (24, .ptr (some (a1.1, a1.2)))] H (fun fr => by kernel_rfl) (fun fr => .of (s_ixL (s := (⟨some (h.size, 0), ((512 : Int)).toNat⟩ : Sl)) (by kernel_rfl) hx)) ?_
          intro fr t H
          obtain ⟨h3, hx, hm⟩ := bind_some hm
          refine at_step (v := .tuple []) (h1 := h3) [(0, .str p0), (1, .str p1), (5, .slice (some (h.size, 0)) (((512 : Int)).toNat)), (9, .int .i64 ((((512 : Int)).toNat : Nat) : Int)), (10, .int .i64 x3)] H (fun fr => by kernel_rfl) (fun fr => .of (s_st (by kernel_rfl) rfl hx)) ?_
          intro fr t H
          refine at_nil ?_
          exact Or.inl ⟨rfl, Option.some.inj hm, rfl, H.less _ (fun fr => by kernel_rfl)⟩
        · replace H := H.know 15 hb (by kernel_rfl)
          refine aw_false (x := .tmp 15) (by kernel_rfl) H (fun fr => by kernel_rfl) ?_
          refine aw_skip (by kernel_rfl) ?_
          exact Or.inl ⟨rfl, Option.some.inj hm, rfl, H.less _ (fun fr => by kernel_rfl)⟩
      · clear ho
        intro e fr h4 hQ
        rcases hQ with ⟨rfl, rfl, _, H⟩ | hF
        · skip
          show AW cfg 46 (⟨h.size, []⟩ : Gd) (right (right (right (left (left (right (left (right (right (bodyC cfg.P 46)))))))))) fr h4 _
          refine aw_reg (id := 7) (n := 2) [(0, []), (1, [])] (by kernel_rfl) (by kernel_rfl) ?_
          refine at_seg [(0, []), (1, [])] [(0, .str p0), (1, .str p1), (5, .slice (some (h.size, 0)) (((512 : Int)).toNat)), (9, .int .i64 ((((512 : Int)).toNat : Nat) : Int)), (10, .int .i64 (IntKind.i64.wrap (x3 + (1 : Int))))] H (noU_all rfl) (fun fr => by kernel_rfl) ?_
          intro fr H
          refine at_nil ?_
          exact Exists.intro (IntKind.i64.wrap (x3 + (1 : Int)), h4) (And.intro (Option.some.inj hm).symm ⟨IntKind.i64.wrap (x3 + (1 : Int)), rfl, rfl, H.less _ (fun fr => by kernel_rfl)⟩)
        · exact hF.elim
    · replace H := H.know 11 hb (by kernel_rfl)
      refine aw_false (x := .tmp 11) (by kernel_rfl) H (fun fr => by kernel_rfl) ?_
      refine aw_exit (i := 0) (by kernel_rfl) ?_
      exact Exists.intro _ (And.intro (Option.some.inj hm).symm (fun e => Or.inl ⟨rfl, e, rfl, H.less _ (fun fr => by kernel_rfl)⟩))
  · clear ho
    intro e fr h5 hQ
    rcases hQ with ⟨rfl, rfl, _, H⟩ | hF
    · skip
      show AW cfg 46 (⟨h.size, []⟩ : Gd) (right (right (right (bodyC cfg.P 46)))) fr h5 _
      refine aw_seq (by kernel_rfl) ?_
      refine aw_reg (id := 8) (n := 4) [(0, []), (1, []), (2, []), (3, [])] (by kernel_rfl) (by kernel_rfl) ?_
      refine at_seg [(0, [])] [(1, .str p1), (5, .slice (some (h.size, 0)) (((512 : Int)).toNat)), (26, .slice (some (h.size, 0)) (((512 : Int)).toNat))] H (noU_all rfl) (fun fr => by kernel_rfl) ?_
      intro fr H
      obtain ⟨x5, hx, hm⟩ := bind_some hm
      refine at_step (v := .slice x5.r x5.n) (h1 := h5) [(1, .str p1), (5, .slice (some (h.size, 0)) (((512 : Int)).toNat)), (27, .slice x5.r x5.n)] H (fun fr => by kernel_rfl) (fun fr => .of (s_subL (s := (⟨some (h.size, 0), ((512 : Int)).toNat⟩ : Sl)) (k := .i64) (k' := .i64) (lo := (some (148 : Int))) (hi := (some (156 : Int))) (by kernel_rfl) hx)) ?_
      intro fr t H
      refine at_seg [(2, [])] [(5, .slice (some (h.size, 0)) (((512 : Int)).toNat)), (27, .slice x5.r x5.n), (28, .str p1)] H (noU_all rfl) (fun fr => by kernel_rfl) ?_
      intro fr H
      obtain ⟨⟨x6, h6⟩, hx, hm⟩ := bind_some hm
      refine at_step (v := .int .i64 x6) (h1 := h6) [(5, .slice (some (h.size, 0)) (((512 : Int)).toNat))] H (fun fr => by kernel_rfl) (fun fr => .of (s_cpy (d := x5) (by kernel_rfl) hx)) ?_
      intro fr t H
      refine at_nil ?_
      show AW cfg 46 (⟨h.size, []⟩ : Gd) (right (right (right (right (bodyC cfg.P 46))))) fr h6 _
      refine aw_seq (by kernel_rfl) ?_
      refine aw_reg (id := 9) (n := 3) [(0, []), (1, []), (2, [])] (by kernel_rfl) (by kernel_rfl) ?_
      refine at_seg [(0, [])] [(30, .slice (some (h.size, 0)) (((512 : Int)).toNat))] H (noU_all rfl) (fun fr => by kernel_rfl) ?_
      intro fr H
      obtain ⟨x7, hx, hm⟩ := bind_some hm
      refine at_step (v := .str x7) (h1 := h6) [(31, .str x7)] H (fun fr => by kernel_rfl) (fun fr => .of (s_byL (s := (⟨some (h.size, 0), ((512 : Int)).toNat⟩ : Sl)) (by kernel_rfl) hx)) ?_
      intro fr t H
      refine at_seg [(2, [])] [(4, .str x7)] H (noU_all rfl) (fun fr => by kernel_rfl) ?_
      intro fr H
      refine at_nil ?_
      show AW cfg 46 (⟨h.size, []⟩ : Gd) (right (right (right (right (right (bodyC cfg.P 46)))))) fr h6 _
      refine aw_ret (by kernel_rfl) ?_
      have e1 := Option.some.inj hm
      subst e1
      exact (doneE_of .ret H (fun fr => by kernel_rfl) (.inl rfl) : doneE cfg.P _ _ _ fr _)
    · exact hF.elim
end Go.Abs.L
