/-
  Models of functions of package ref31, and that the abstract run tells them. Written by lift2.py.
-/
import Derived.Test.YtcmfogjpkkodbaaKCfg
namespace Go.Av.L
open Go.Av
set_option linter.unusedVariables false
set_option linter.unusedSimpArgs false
/-! ### boulter/boulterref31.Cut -/
noncomputable def M_boulterref31_Cut_L1 (p0 : List UInt8) (s : Int) : Option ((Int) ⊕ ((Int))) :=
  match s with
  | x7 => (iteB (decide (x7 < (p0.length : Int))) ((ixS p0 x7).bind fun x10 => some (x10 != (10 : Int))) (some false) : Option (Bool)).bind fun x9 => iteB x9 (some (.inl (IntKind.i64.wrap (x7 + (1 : Int))))) (some (.inr x7))
noncomputable def M_boulterref31_Cut_L0 (p0 : List UInt8) (p1 : Int) (s : Int × Int) : Option ((Int × Int) ⊕ ((Int) ⊕ (Int))) :=
  match s with
  | (x1, x2) => iteB (decide (x2 < p1)) ((iteB (decide (x1 ≥ (p0.length : Int))) (some (.inr (-1 : Int))) ((loop (M_boulterref31_Cut_L1 p0) x1).bind fun x8 => iteB (decide (x8 < (p0.length : Int))) (some (.inl (IntKind.i64.wrap (x8 + (1 : Int))))) (some (.inl x8))) : Option ((Int) ⊕ (Int))).bind fun o2 => (match o2 with | .inl x5 => some (.inl (x5, IntKind.i64.wrap (x2 + (1 : Int)))) | .inr x6 => some (.inr (.inr x6)))) (some (.inr (.inl x1)))
noncomputable def M_boulterref31_Cut (p0 : List UInt8) (p1 : Int) : Option (Int) :=
 (loop (M_boulterref31_Cut_L0 p0 p1) ((0 : Int), (0 : Int))).bind fun o1 => (match o1 with | .inl x3 => some x3 | .inr x4 => some x4)
theorem ok_boulterref31_Cut {g : Gd} {h : AHeap} {F : List Ck} {p0 : List UInt8} {p1 : Int} {q0 : Int} {av : List AVal} (hm : M_boulterref31_Cut p0 p1 = some q0) (hc : canL (cfg.still 11) av = [.str p0, .int .i64 p1]) (A : HH g h [] F) : ∃ v h', Runs cfg g h 11 av v h' ∧ v = .int .i64 q0 ∧ HH g h' [] F := by
  refine runsQ1 (n := 35) (rs := [.tmp 4]) (by kernel_rfl) hc (by kernel_rfl) ?_
  clear hc
  unfold M_boulterref31_Cut at hm
  refine start (n := 35) [(0, .str p0), (1, .int .i64 p1)] (by kernel_rfl) (by kernel_rfl) ?_
  intro fr H
  refine aw_seq (by kernel_rfl) ?_
  refine aw_reg (id := 0) (n := 1) [(0, [])] (by kernel_rfl) (by kernel_rfl) ?_
  refine at_seg [(0, [])] [(0, .str p0), (1, .int .i64 p1)] H (noU_all rfl) (fun fr => by kernel_rfl) ?_
  intro fr H
  refine at_nil ?_
  show AW cfg 11 g (right (bodyC cfg.P 11)) fr h _
  refine aw_seq (by kernel_rfl) ?_
  refine aw_reg (id := 1) (n := 1) [(0, [])] (by kernel_rfl) (by kernel_rfl) ?_
  refine at_seg [(0, [])] [(0, .str p0), (1, .int .i64 p1), (5, .int .i64 (0 : Int))] H (noU_all rfl) (fun fr => by kernel_rfl) ?_
  intro fr H
  refine at_nil ?_
  show AW cfg 11 g (right (right (bodyC cfg.P 11))) fr h _
  refine aw_seq (by kernel_rfl) ?_
  refine aw_seq (by kernel_rfl) ?_
  refine aw_reg (id := 2) (n := 1) [(0, [])] (by kernel_rfl) (by kernel_rfl) ?_
  refine at_seg [(0, [])] [(0, .str p0), (1, .int .i64 p1), (5, .int .i64 (0 : Int)), (6, .int .i64 (0 : Int))] H (noU_all rfl) (fun fr => by kernel_rfl) ?_
  intro fr H
  refine at_nil ?_
  show AW cfg 11 g (right (left (right (right (bodyC cfg.P 11))))) fr h _
  refine aw_block (id := 0) (by kernel_rfl) ?_
  obtain ⟨o1, ho, hm⟩ := bind_some hm
  refine aw_mono (Q' := fun e fr' h' => (∃ (x3 : Int), e = .exit 0 ∧ .inl x3 = o1 ∧ Has fr' 35 [(5, .int .i64 x3)] ∧ HH g h' [] F) ∨ (∃ (x4 : Int), e = .ret ∧ .inr x4 = o1 ∧ Has fr' 35 [(4, .int .i64 x4)] ∧ HH g h' [] F) ∨ False) ?_ ?_
  · refine aw_loop (by kernel_rfl) (fun (s : Int × Int) fr' h' => ∃ (x1 : Int) (x2 : Int), (x1, x2) = s ∧ Has fr' 35 [(0, .str p0), (1, .int .i64 p1), (5, .int .i64 x1), (6, .int .i64 x2)] ∧ HH g h' [] F) ho ⟨(0 : Int), (0 : Int), rfl, H.less _ (fun fr => by kernel_rfl), A⟩ ?_
    clear ho hm H A
    intro s q fr h1 hI hm
    obtain ⟨x1, x2, rfl, H, A⟩ := hI
    unfold M_boulterref31_Cut_L0 at hm
    refine aw_seq (by kernel_rfl) ?_
    refine aw_seq (by kernel_rfl) ?_
    refine aw_reg (id := 3) (n := 3) [(0, []), (1, []), (2, [])] (by kernel_rfl) (by kernel_rfl) ?_
    refine at_seg [(0, []), (1, []), (2, [])] [(0, .str p0), (1, .int .i64 p1), (5, .int .i64 x1), (6, .int .i64 x2), (9, .bool (decide (x2 < p1)))] H (noU_all rfl) (fun fr => by kernel_rfl) ?_
    intro fr H
    refine at_nil ?_
    show AW cfg 11 g (right (left (left (left (right (left (right (right (bodyC cfg.P 11))))))))) fr h1 _
    rcases iteB_some hm with ⟨hb, hm⟩ | ⟨hb, hm⟩
    · replace H := H.know 9 hb (by kernel_rfl)
      refine aw_true (x := .tmp 9) (by kernel_rfl) H (fun fr => by kernel_rfl) ?_
      refine aw_skip (by kernel_rfl) ?_
      show AW cfg 11 g (right (left (left (right (left (right (right (bodyC cfg.P 11)))))))) fr h1 _
      refine aw_seq (by kernel_rfl) ?_
      obtain ⟨o2, ho, hm⟩ := bind_some hm
      refine aw_mono (Q' := fun e fr' h' => (∃ (x5 : Int), e = .normal ∧ .inl x5 = o2 ∧ Has fr' 35 [(0, .str p0), (1, .int .i64 p1), (5, .int .i64 x5), (6, .int .i64 x2)] ∧ HH g h' [] F) ∨ (∃ (x6 : Int), e = .ret ∧ .inr x6 = o2 ∧ Has fr' 35 [(4, .int .i64 x6)] ∧ HH g h' [] F) ∨ False) ?_ ?_
      · replace hm := ho
        clear ho
        refine aw_block (id := 1) (by kernel_rfl) ?_
        refine aw_seq (by kernel_rfl) ?_
        refine aw_seq (by kernel_rfl) ?_
        refine aw_reg (id := 5) (n := 4) [(0, []), (1, []), (2, []), (3, [])] (by kernel_rfl) (by kernel_rfl) ?_
        refine at_seg [(0, []), (1, []), (2, []), (3, [])] [(0, .str p0), (1, .int .i64 p1), (5, .int .i64 x1), (6, .int .i64 x2), (15, .bool (decide (x1 ≥ (p0.length : Int))))] H (noU_all rfl) (fun fr => by kernel_rfl) ?_
        intro fr H
        refine at_nil ?_
        show AW cfg 11 g (right (left (left (left (right (left (left (right (left (right (right (bodyC cfg.P 11)))))))))))) fr h1 _
        rcases iteB_some hm with ⟨hb, hm⟩ | ⟨hb, hm⟩
        · replace H := H.know 15 hb (by kernel_rfl)
          refine aw_true (x := .tmp 15) (by kernel_rfl) H (fun fr => by kernel_rfl) ?_
          refine aw_seq (by kernel_rfl) ?_
          refine aw_reg (id := 6) (n := 1) [(0, [])] (by kernel_rfl) (by kernel_rfl) ?_
          refine at_seg [(0, [])] [(4, .int .i64 (-1 : Int))] H (noU_all rfl) (fun fr => by kernel_rfl) ?_
          intro fr H
          refine at_nil ?_
          show AW cfg 11 g (right (left (right (left (left (left (right (left (left (right (left (right (right (bodyC cfg.P 11)))))))))))))) fr h1 _
          refine aw_ret (by kernel_rfl) ?_
          exact Or.inr (Or.inl ⟨(-1 : Int), rfl, Option.some.inj hm, H.less _ (fun fr => by kernel_rfl), A⟩)
        · replace H := H.know 15 hb (by kernel_rfl)
          refine aw_false (x := .tmp 15) (by kernel_rfl) H (fun fr => by kernel_rfl) ?_
          refine aw_skip (by kernel_rfl) ?_
          show AW cfg 11 g (right (left (left (right (left (left (right (left (right (right (bodyC cfg.P 11))))))))))) fr h1 _
          refine aw_seq (by kernel_rfl) ?_
          refine aw_block (id := 2) (by kernel_rfl) ?_
          obtain ⟨o3, ho, hm⟩ := bind_some hm
          refine aw_mono (Q' := fun e fr' h' => (∃ (x8 : Int), e = .exit 2 ∧ x8 = o3 ∧ Has fr' 35 [(0, .str p0), (1, .int .i64 p1), (5, .int .i64 x8), (6, .int .i64 x2)] ∧ HH g h' [] F) ∨ False) ?_ ?_
          · refine aw_loop (by kernel_rfl) (fun (s : Int) fr' h' => ∃ (x7 : Int), x7 = s ∧ Has fr' 35 [(0, .str p0), (1, .int .i64 p1), (5, .int .i64 x7), (6, .int .i64 x2)] ∧ HH g h' [] F) ho ⟨x1, rfl, H.less _ (fun fr => by kernel_rfl), A⟩ ?_
            clear ho hm H A
            intro s q fr h2 hI hm
            obtain ⟨x7, rfl, H, A⟩ := hI
            unfold M_boulterref31_Cut_L1 at hm
            refine aw_seq (by kernel_rfl) ?_
            refine aw_seq (by kernel_rfl) ?_
            refine aw_reg (id := 7) (n := 10) [(0, []), (1, []), (2, []), (3, []), (4, []), (5, []), (6, []), (7, []), (8, []), (9, [])] (by kernel_rfl) (by kernel_rfl) ?_
            refine at_seg [(0, []), (1, []), (2, []), (3, []), (4, [])] [(0, .str p0), (1, .int .i64 p1), (5, .int .i64 x7), (6, .int .i64 x2), (20, .bool (decide (x7 < (p0.length : Int))))] H (noU_all rfl) (fun fr => by kernel_rfl) ?_
            intro fr H
            obtain ⟨x9, ho, hm⟩ := bind_some hm
            refine at_cut [(5, []), (6, []), (7, []), (8, []), (9, [])] (fun fr' h' => Has fr' 35 [(0, .str p0), (1, .int .i64 p1), (5, .int .i64 x7), (6, .int .i64 x2), (25, .bool x9)] ∧ HH g h' [] F) ?_ ?_
            · rcases iteB_some ho with ⟨hb, hm⟩ | ⟨hb, hm⟩
              · replace H := H.know 20 hb (by kernel_rfl)
                refine at_seg [(5, []), (6, [])] [(0, .str p0), (1, .int .i64 p1), (5, .int .i64 x7), (6, .int .i64 x2), (20, .bool true), (21, .str p0), (22, .int .i64 x7)] H (noU_all rfl) (fun fr => by kernel_rfl) ?_
                intro fr H
                obtain ⟨x10, hx, hm⟩ := bind_some hm
                refine at_step (v := .int .u8 x10) (h1 := h2) [(0, .str p0), (1, .int .i64 p1), (5, .int .i64 x7), (6, .int .i64 x2), (20, .bool true), (23, .int .u8 x10)] H (fun fr => by kernel_rfl) (fun fr => .of (s_ixS (by kernel_rfl) hx)) ?_
                intro fr t H
                refine at_seg [(8, []), (9, [])] [(0, .str p0), (1, .int .i64 p1), (5, .int .i64 x7), (6, .int .i64 x2), (25, .bool (x10 != (10 : Int)))] H (noU_all rfl) (fun fr => by kernel_rfl) ?_
                intro fr H
                have e1 := Option.some.inj hm
                subst e1
                exact at_nil ⟨H.less _ (fun fr => by kernel_rfl), A⟩
              · replace H := H.know 20 hb (by kernel_rfl)
                refine at_seg [(5, []), (6, []), (7, []), (8, []), (9, [])] [(0, .str p0), (1, .int .i64 p1), (5, .int .i64 x7), (6, .int .i64 x2), (25, .bool false)] H (noU_all rfl) (fun fr => by kernel_rfl) ?_
                intro fr H
                have e1 := Option.some.inj hm
                subst e1
                exact at_nil ⟨H.less _ (fun fr => by kernel_rfl), A⟩
            · clear A
              intro t fr h3 hK
              obtain ⟨H, A⟩ := hK
              refine at_nil ?_
              show AW cfg 11 g (right (left (left (left (left (right (left (left (right (left (left (right (left (right (right (bodyC cfg.P 11)))))))))))))))) fr h3 _
              rcases iteB_some hm with ⟨hb, hm⟩ | ⟨hb, hm⟩
              · replace H := H.know 25 hb (by kernel_rfl)
                refine aw_true (x := .tmp 25) (by kernel_rfl) H (fun fr => by kernel_rfl) ?_
                refine aw_skip (by kernel_rfl) ?_
                show AW cfg 11 g (right (left (left (left (right (left (left (right (left (left (right (left (right (right (bodyC cfg.P 11))))))))))))))) fr h3 _
                refine aw_block (id := 3) (by kernel_rfl) ?_
                refine aw_reg (id := 8) (n := 3) [(0, []), (1, []), (2, [])] (by kernel_rfl) (by kernel_rfl) ?_
                refine at_seg [(0, []), (1, []), (2, [])] [(0, .str p0), (1, .int .i64 p1), (5, .int .i64 (IntKind.i64.wrap (x7 + (1 : Int)))), (6, .int .i64 x2)] H (noU_all rfl) (fun fr => by kernel_rfl) ?_
                intro fr H
                refine at_nil ?_
                exact Exists.intro (IntKind.i64.wrap (x7 + (1 : Int))) (And.intro (Option.some.inj hm).symm ⟨IntKind.i64.wrap (x7 + (1 : Int)), rfl, H.less _ (fun fr => by kernel_rfl), A⟩)
              · replace H := H.know 25 hb (by kernel_rfl)
                refine aw_false (x := .tmp 25) (by kernel_rfl) H (fun fr => by kernel_rfl) ?_
                refine aw_exit (i := 2) (by kernel_rfl) ?_
                exact Exists.intro _ (And.intro (Option.some.inj hm).symm (fun e => Or.inl ⟨x7, rfl, e, H.less _ (fun fr => by kernel_rfl), A⟩))
          · clear ho
            clear A
            intro e fr h4 hQ
            rcases hQ with ⟨x8, rfl, rfl, H, A⟩ | hF
            · skip
              show AW cfg 11 g (right (right (left (left (right (left (left (right (left (right (right (bodyC cfg.P 11)))))))))))) fr h4 _
              refine aw_seq (by kernel_rfl) ?_
              refine aw_reg (id := 9) (n := 4) [(0, []), (1, []), (2, []), (3, [])] (by kernel_rfl) (by kernel_rfl) ?_
              refine at_seg [(0, []), (1, []), (2, []), (3, [])] [(0, .str p0), (1, .int .i64 p1), (5, .int .i64 x8), (6, .int .i64 x2), (31, .bool (decide (x8 < (p0.length : Int))))] H (noU_all rfl) (fun fr => by kernel_rfl) ?_
              intro fr H
              refine at_nil ?_
              show AW cfg 11 g (right (right (right (left (left (right (left (left (right (left (right (right (bodyC cfg.P 11))))))))))))) fr h4 _
              rcases iteB_some hm with ⟨hb, hm⟩ | ⟨hb, hm⟩
              · replace H := H.know 31 hb (by kernel_rfl)
                refine aw_true (x := .tmp 31) (by kernel_rfl) H (fun fr => by kernel_rfl) ?_
                refine aw_reg (id := 10) (n := 3) [(0, []), (1, []), (2, [])] (by kernel_rfl) (by kernel_rfl) ?_
                refine at_seg [(0, []), (1, []), (2, [])] [(0, .str p0), (1, .int .i64 p1), (5, .int .i64 (IntKind.i64.wrap (x8 + (1 : Int)))), (6, .int .i64 x2)] H (noU_all rfl) (fun fr => by kernel_rfl) ?_
                intro fr H
                refine at_nil ?_
                exact Or.inl ⟨IntKind.i64.wrap (x8 + (1 : Int)), rfl, Option.some.inj hm, H.less _ (fun fr => by kernel_rfl), A⟩
              · replace H := H.know 31 hb (by kernel_rfl)
                refine aw_false (x := .tmp 31) (by kernel_rfl) H (fun fr => by kernel_rfl) ?_
                refine aw_skip (by kernel_rfl) ?_
                exact Or.inl ⟨x8, rfl, Option.some.inj hm, H.less _ (fun fr => by kernel_rfl), A⟩
            · exact hF.elim
      · clear ho
        clear A
        intro e fr h5 hQ
        rcases hQ with ⟨x5, rfl, rfl, H, A⟩ | ⟨x6, rfl, rfl, H, A⟩ | hF
        · skip
          show AW cfg 11 g (right (right (left (left (right (left (right (right (bodyC cfg.P 11))))))))) fr h5 _
          refine aw_reg (id := 4) (n := 3) [(0, []), (1, []), (2, [])] (by kernel_rfl) (by kernel_rfl) ?_
          refine at_seg [(0, []), (1, []), (2, [])] [(0, .str p0), (1, .int .i64 p1), (5, .int .i64 x5), (6, .int .i64 (IntKind.i64.wrap (x2 + (1 : Int))))] H (noU_all rfl) (fun fr => by kernel_rfl) ?_
          intro fr H
          refine at_nil ?_
          exact Exists.intro (x5, IntKind.i64.wrap (x2 + (1 : Int))) (And.intro (Option.some.inj hm).symm ⟨x5, IntKind.i64.wrap (x2 + (1 : Int)), rfl, H.less _ (fun fr => by kernel_rfl), A⟩)
        · skip
          exact Exists.intro _ (And.intro (Option.some.inj hm).symm (fun e => Or.inr (Or.inl ⟨x6, rfl, e, H.less _ (fun fr => by kernel_rfl), A⟩)))
        · exact hF.elim
    · replace H := H.know 9 hb (by kernel_rfl)
      refine aw_false (x := .tmp 9) (by kernel_rfl) H (fun fr => by kernel_rfl) ?_
      refine aw_exit (i := 0) (by kernel_rfl) ?_
      exact Exists.intro _ (And.intro (Option.some.inj hm).symm (fun e => Or.inl ⟨x1, rfl, e, H.less _ (fun fr => by kernel_rfl), A⟩))
  · clear ho
    clear A
    intro e fr h6 hQ
    rcases hQ with ⟨x3, rfl, rfl, H, A⟩ | ⟨x4, rfl, rfl, H, A⟩ | hF
    · skip
      show AW cfg 11 g (right (right (right (bodyC cfg.P 11)))) fr h6 _
      refine aw_seq (by kernel_rfl) ?_
      refine aw_reg (id := 11) (n := 2) [(0, []), (1, [])] (by kernel_rfl) (by kernel_rfl) ?_
      refine at_seg [(0, []), (1, [])] [(4, .int .i64 x3)] H (noU_all rfl) (fun fr => by kernel_rfl) ?_
      intro fr H
      refine at_nil ?_
      show AW cfg 11 g (right (right (right (right (bodyC cfg.P 11))))) fr h6 _
      refine aw_ret (by kernel_rfl) ?_
      have e1 := Option.some.inj hm
      subst e1
      refine ⟨.inl rfl, .int .i64 x3, resH H (fun fr => by kernel_rfl), ?_⟩
      exact ⟨rfl, A⟩
    · skip
      have e1 := Option.some.inj hm
      subst e1
      refine ⟨.inl rfl, .int .i64 x4, resH H (fun fr => by kernel_rfl), ?_⟩
      exact ⟨rfl, A⟩
    · exact hF.elim
end Go.Av.L
