/-
  Models of functions of package ref26, and that the abstract run tells them. Written by lift2.py.
-/
import Derived.Test.YtcmfogjpkkodbaaDoorKCfg
namespace Go.Av.L
open Go.Av
set_option linter.unusedVariables false
set_option linter.unusedSimpArgs false
/-! ### boulter/boulterref26.Same -/
noncomputable def M_boulterref26_Same_s0_L0 (p0 : List (List UInt8)) (p1 : List (List UInt8)) (s : Int) : Option ((Int) ⊕ ((Unit) ⊕ (Bool))) :=
  match s with
  | x1 => iteB (decide (x1 < (p0.length : Int))) ((ixV p0 x1).bind fun x3 => (ixV p1 x1).bind fun x4 => iteB (!(x3 == x4)) (some (.inr (.inr false))) (some (.inl (IntKind.i64.wrap (x1 + (1 : Int)))))) (some (.inr (.inl ())))
noncomputable def M_boulterref26_Same_s0 (p0 : List (List UInt8)) (p1 : List (List UInt8)) : Option (Bool) :=
 iteB ((p0.length : Int) != (p1.length : Int)) (some false) ((loop (M_boulterref26_Same_s0_L0 p0 p1) (0 : Int)).bind fun o1 => (match o1 with | .inl _ => some true | .inr x2 => some x2))
theorem ok_boulterref26_Same_s0 {g : Gd} {h : AHeap} {F : List Ck} {p0 : List (List UInt8)} {p1 : List (List UInt8)} {rp0 : Option Nat} {rp1 : Option Nat} {q0 : Bool} {av : List AVal} (hm : M_boulterref26_Same_s0 p0 p1 = some q0) (hc : canL (cfg.still 8) av = [rowV rp0 p0.length, rowV rp1 p1.length]) (A : HH g h [.lst rp0 9 (lst eS p0), .lst rp1 9 (lst eS p1)] F) : ∃ v h', Runs cfg g h 8 av v h' ∧ v = .bool q0 ∧ HH g h' [.lst rp0 9 (lst eS p0), .lst rp1 9 (lst eS p1)] F := by
  refine runsQ1 (n := 26) (rs := [.tmp 4]) (by kernel_rfl) hc (by kernel_rfl) ?_
  clear hc
  unfold M_boulterref26_Same_s0 at hm
  refine start (n := 26) [(0, rowV rp0 p0.length), (1, rowV rp1 p1.length)] (by kernel_rfl) (by kernel_rfl) ?_
  intro fr H
  refine aw_seq (by kernel_rfl) ?_
  refine aw_reg (id := 0) (n := 1) [(0, [])] (by kernel_rfl) (by kernel_rfl) ?_
  refine at_seg [(0, [])] [(0, rowV rp0 p0.length), (1, rowV rp1 p1.length)] H (noU_all rfl) (fun fr => by kernel_rfl) ?_
  intro fr H
  refine at_nil ?_
  show AW cfg 8 g (right (bodyC cfg.P 8)) fr h _
  refine aw_seq (by kernel_rfl) ?_
  refine aw_seq (by kernel_rfl) ?_
  refine aw_reg (id := 1) (n := 5) [(0, []), (1, []), (2, []), (3, []), (4, [])] (by kernel_rfl) (by kernel_rfl) ?_
  refine at_seg [(0, []), (1, []), (2, []), (3, []), (4, [])] [(0, rowV rp0 p0.length), (1, rowV rp1 p1.length), (10, .bool ((p0.length : Int) != (p1.length : Int)))] H (noU_all rfl) (fun fr => by kernel_rfl) ?_
  intro fr H
  refine at_nil ?_
  show AW cfg 8 g (right (left (right (bodyC cfg.P 8)))) fr h _
  rcases iteB_some hm with ⟨hb, hm⟩ | ⟨hb, hm⟩
  · replace H := H.know 10 hb (by kernel_rfl)
    refine aw_true (x := .tmp 10) (by kernel_rfl) H (fun fr => by kernel_rfl) ?_
    refine aw_seq (by kernel_rfl) ?_
    refine aw_reg (id := 2) (n := 1) [(0, [])] (by kernel_rfl) (by kernel_rfl) ?_
    refine at_seg [(0, [])] [(4, .bool false)] H (noU_all rfl) (fun fr => by kernel_rfl) ?_
    intro fr H
    refine at_nil ?_
    show AW cfg 8 g (right (left (right (left (right (bodyC cfg.P 8)))))) fr h _
    refine aw_ret (by kernel_rfl) ?_
    have e1 := Option.some.inj hm
    subst e1
    refine ⟨.inl rfl, .bool false, resH H (fun fr => by kernel_rfl), ?_⟩
    exact ⟨rfl, A⟩
  · replace H := H.know 10 hb (by kernel_rfl)
    refine aw_false (x := .tmp 10) (by kernel_rfl) H (fun fr => by kernel_rfl) ?_
    refine aw_skip (by kernel_rfl) ?_
    show AW cfg 8 g (right (right (bodyC cfg.P 8))) fr h _
    refine aw_seq (by kernel_rfl) ?_
    refine aw_seq (by kernel_rfl) ?_
    refine aw_reg (id := 3) (n := 1) [(0, [])] (by kernel_rfl) (by kernel_rfl) ?_
    refine at_seg [(0, [])] [(0, rowV rp0 p0.length), (1, rowV rp1 p1.length), (5, .int .i64 (0 : Int))] H (noU_all rfl) (fun fr => by kernel_rfl) ?_
    intro fr H
    refine at_nil ?_
    show AW cfg 8 g (right (left (right (right (bodyC cfg.P 8))))) fr h _
    refine aw_block (id := 0) (by kernel_rfl) ?_
    obtain ⟨o1, ho, hm⟩ := bind_some hm
    refine aw_mono (Q' := fun e fr' h' => (e = .exit 0 ∧ .inl () = o1 ∧ Has fr' 26 [] ∧ HH g h' [.lst rp0 9 (lst eS p0), .lst rp1 9 (lst eS p1)] F) ∨ (∃ (x2 : Bool), e = .ret ∧ .inr x2 = o1 ∧ Has fr' 26 [(4, .bool x2)] ∧ HH g h' [.lst rp0 9 (lst eS p0), .lst rp1 9 (lst eS p1)] F) ∨ False) ?_ ?_
    · refine aw_loop (by kernel_rfl) (fun (s : Int) fr' h' => ∃ (x1 : Int), x1 = s ∧ Has fr' 26 [(0, rowV rp0 p0.length), (1, rowV rp1 p1.length), (5, .int .i64 x1)] ∧ HH g h' [.lst rp0 9 (lst eS p0), .lst rp1 9 (lst eS p1)] F) ho ⟨(0 : Int), rfl, H.less _ (fun fr => by kernel_rfl), A⟩ ?_
      clear ho hm H A
      intro s q fr h1 hI hm
      obtain ⟨x1, rfl, H, A⟩ := hI
      unfold M_boulterref26_Same_s0_L0 at hm
      refine aw_seq (by kernel_rfl) ?_
      refine aw_seq (by kernel_rfl) ?_
      refine aw_reg (id := 4) (n := 4) [(0, []), (1, []), (2, []), (3, [])] (by kernel_rfl) (by kernel_rfl) ?_
      refine at_seg [(0, []), (1, []), (2, []), (3, [])] [(0, rowV rp0 p0.length), (1, rowV rp1 p1.length), (5, .int .i64 x1), (14, .bool (decide (x1 < (p0.length : Int))))] H (noU_all rfl) (fun fr => by kernel_rfl) ?_
      intro fr H
      refine at_nil ?_
      show AW cfg 8 g (right (left (left (left (right (left (right (right (bodyC cfg.P 8))))))))) fr h1 _
      rcases iteB_some hm with ⟨hb, hm⟩ | ⟨hb, hm⟩
      · replace H := H.know 14 hb (by kernel_rfl)
        refine aw_true (x := .tmp 14) (by kernel_rfl) H (fun fr => by kernel_rfl) ?_
        refine aw_skip (by kernel_rfl) ?_
        show AW cfg 8 g (right (left (left (right (left (right (right (bodyC cfg.P 8)))))))) fr h1 _
        refine aw_seq (by kernel_rfl) ?_
        refine aw_block (id := 1) (by kernel_rfl) ?_
        refine aw_seq (by kernel_rfl) ?_
        refine aw_draw (id := 6) (n := 9) (by kernel_rfl) [(0, []), (1, []), (2, []), (3, []), (4, []), (5, []), (6, []), (7, []), (8, [])] (by kernel_rfl) ?_
        refine at_seg [(0, []), (1, [])] [(0, rowV rp0 p0.length), (1, rowV rp1 p1.length), (5, .int .i64 x1), (17, rowV rp0 p0.length), (18, .int .i64 x1)] H (noU_all rfl) (fun fr => by kernel_rfl) ?_
        intro fr H
        obtain ⟨x3, hx, hm⟩ := bind_some hm
        obtain ⟨i1, er1, _, hx, hq1⟩ := HH.ixO encS (by decide) A 0 (xs := p0) rfl hx
        refine at_step (v := .ptr (some (i1, x1.toNat * 1))) (h1 := h1) [(0, rowV rp0 p0.length), (1, rowV rp1 p1.length), (5, .int .i64 x1), (19, .ptr (some (i1, x1.toNat * 1)))] H (fun fr => by kernel_rfl) (fun fr => .of (s_ixL (s := rowS rp0 p0.length) (by kernel_rfl) hx)) ?_
        intro fr t H
        refine at_step (v := .str x3) (h1 := h1) [(0, rowV rp0 p0.length), (1, rowV rp1 p1.length), (5, .int .i64 x1), (20, .str x3)] H (fun fr => by kernel_rfl) (fun fr => .of (s_ld (by kernel_rfl) (row_ld1 encS (HH.row A 0 rfl er1) hq1 (o := 0) rfl))) ?_
        intro fr t H
        refine at_seg [(4, []), (5, [])] [(0, rowV rp0 p0.length), (1, rowV rp1 p1.length), (5, .int .i64 x1), (20, .str x3), (21, rowV rp1 p1.length), (22, .int .i64 x1)] H (noU_all rfl) (fun fr => by kernel_rfl) ?_
        intro fr H
        obtain ⟨x4, hx, hm⟩ := bind_some hm
        obtain ⟨i2, er2, _, hx, hq2⟩ := HH.ixO encS (by decide) A 1 (xs := p1) rfl hx
        refine at_step (v := .ptr (some (i2, x1.toNat * 1))) (h1 := h1) [(0, rowV rp0 p0.length), (1, rowV rp1 p1.length), (5, .int .i64 x1), (20, .str x3), (23, .ptr (some (i2, x1.toNat * 1)))] H (fun fr => by kernel_rfl) (fun fr => .of (s_ixL (s := rowS rp1 p1.length) (by kernel_rfl) hx)) ?_
        intro fr t H
        refine at_step (v := .str x4) (h1 := h1) [(0, rowV rp0 p0.length), (1, rowV rp1 p1.length), (5, .int .i64 x1), (20, .str x3), (24, .str x4)] H (fun fr => by kernel_rfl) (fun fr => .of (s_ld (by kernel_rfl) (row_ld1 encS (HH.row A 1 rfl er2) hq2 (o := 0) rfl))) ?_
        intro fr t H
        refine at_seg [(8, [])] [(0, rowV rp0 p0.length), (1, rowV rp1 p1.length), (5, .int .i64 x1), (25, .bool (!(x3 == x4)))] H (noU_all rfl) (fun fr => by kernel_rfl) ?_
        intro fr H
        refine at_nil ?_
        show AW cfg 8 g (right (left (left (right (left (left (right (left (right (right (bodyC cfg.P 8))))))))))) fr h1 _
        rcases iteB_some hm with ⟨hb, hm⟩ | ⟨hb, hm⟩
        · replace H := H.know 25 hb (by kernel_rfl)
          refine aw_true (x := .tmp 25) (by kernel_rfl) H (fun fr => by kernel_rfl) ?_
          refine aw_seq (by kernel_rfl) ?_
          refine aw_reg (id := 7) (n := 1) [(0, [])] (by kernel_rfl) (by kernel_rfl) ?_
          refine at_seg [(0, [])] [(4, .bool false)] H (noU_all rfl) (fun fr => by kernel_rfl) ?_
          intro fr H
          refine at_nil ?_
          show AW cfg 8 g (right (left (right (left (left (right (left (left (right (left (right (right (bodyC cfg.P 8))))))))))))) fr h1 _
          refine aw_ret (by kernel_rfl) ?_
          exact Exists.intro _ (And.intro (Option.some.inj hm).symm (fun e => Or.inr (Or.inl ⟨false, rfl, e, H.less _ (fun fr => by kernel_rfl), A⟩)))
        · replace H := H.know 25 hb (by kernel_rfl)
          refine aw_false (x := .tmp 25) (by kernel_rfl) H (fun fr => by kernel_rfl) ?_
          refine aw_skip (by kernel_rfl) ?_
          show AW cfg 8 g (right (right (left (left (right (left (right (right (bodyC cfg.P 8))))))))) fr h1 _
          refine aw_reg (id := 5) (n := 3) [(0, []), (1, []), (2, [])] (by kernel_rfl) (by kernel_rfl) ?_
          refine at_seg [(0, []), (1, []), (2, [])] [(0, rowV rp0 p0.length), (1, rowV rp1 p1.length), (5, .int .i64 (IntKind.i64.wrap (x1 + (1 : Int))))] H (noU_all rfl) (fun fr => by kernel_rfl) ?_
          intro fr H
          refine at_nil ?_
          exact Exists.intro (IntKind.i64.wrap (x1 + (1 : Int))) (And.intro (Option.some.inj hm).symm ⟨IntKind.i64.wrap (x1 + (1 : Int)), rfl, H.less _ (fun fr => by kernel_rfl), A⟩)
      · replace H := H.know 14 hb (by kernel_rfl)
        refine aw_false (x := .tmp 14) (by kernel_rfl) H (fun fr => by kernel_rfl) ?_
        refine aw_exit (i := 0) (by kernel_rfl) ?_
        exact Exists.intro _ (And.intro (Option.some.inj hm).symm (fun e => Or.inl ⟨rfl, e, H.less _ (fun fr => by kernel_rfl), A⟩))
    · clear ho
      clear A
      intro e fr h2 hQ
      rcases hQ with ⟨rfl, rfl, H, A⟩ | ⟨x2, rfl, rfl, H, A⟩ | hF
      · skip
        show AW cfg 8 g (right (right (right (bodyC cfg.P 8)))) fr h2 _
        refine aw_seq (by kernel_rfl) ?_
        refine aw_reg (id := 8) (n := 1) [(0, [])] (by kernel_rfl) (by kernel_rfl) ?_
        refine at_seg [(0, [])] [(4, .bool true)] H (noU_all rfl) (fun fr => by kernel_rfl) ?_
        intro fr H
        refine at_nil ?_
        show AW cfg 8 g (right (right (right (right (bodyC cfg.P 8))))) fr h2 _
        refine aw_ret (by kernel_rfl) ?_
        have e1 := Option.some.inj hm
        subst e1
        refine ⟨.inl rfl, .bool true, resH H (fun fr => by kernel_rfl), ?_⟩
        exact ⟨rfl, A⟩
      · skip
        have e1 := Option.some.inj hm
        subst e1
        refine ⟨.inl rfl, .bool x2, resH H (fun fr => by kernel_rfl), ?_⟩
        exact ⟨rfl, A⟩
      · exact hF.elim
end Go.Av.L
