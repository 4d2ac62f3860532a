/-
  Models of functions of package ref31, and that the abstract run tells them. Written by lift2.py.
-/
import Derived.Test.YtcmfogjpkkodbaaDoorKCfg
namespace Go.Av.L
open Go.Av
set_option linter.unusedVariables false
set_option linter.unusedSimpArgs false
/-! ### boulter/boulterref31.parts -/
noncomputable def M_boulterref31_parts_L0 (p0 : List UInt8) (p1 : Int) (s : (List (List UInt8)) × Int × Int) : Option (((List (List UInt8)) × Int × Int) ⊕ (((List (List UInt8)) × Int))) :=
  match s with
  | (x1, x2, x3) => iteB (decide (x3 < (p0.length : Int))) (((ixS p0 x3).bind fun x8 => iteB (x8 == p1) ((subS p0 (some x2) (some x3)).bind fun x9 => need (okN 16 (x1.length + ([x9] : List (List UInt8)).length)) <| some ((x1 ++ ([x9] : List (List UInt8))), IntKind.i64.wrap (x3 + (1 : Int)))) (some (x1, x2)) : Option (((List (List UInt8)) × Int))).bind fun (x6, x7) => some (.inl (x6, x7, IntKind.i64.wrap (x3 + (1 : Int))))) (some (.inr (x1, x2)))
noncomputable def M_boulterref31_parts (p0 : List UInt8) (p1 : Int) : Option ((List (List UInt8))) :=
 (loop (M_boulterref31_parts_L0 p0 p1) (([] : List (List UInt8)), (0 : Int), (0 : Int))).bind fun (x4, x5) => (subS p0 (some x5) none).bind fun x10 => need (okN 16 (x4.length + ([x10] : List (List UInt8)).length)) <| some (x4 ++ ([x10] : List (List UInt8)))
theorem ok_boulterref31_parts {g : Gd} {h : AHeap} {F : List Ck} {p0 : List UInt8} {p1 : Int} {q0 : List (List UInt8)} {av : List AVal} (hm : M_boulterref31_parts p0 p1 = some q0) (hc : canL (cfg.still 31) av = [.str p0, .int .u8 p1]) (A : HH g h [] F) : ∃ v h', Runs cfg g h 31 av v h' ∧ ∃ (rq0 : Option Nat), v = rowV rq0 q0.length ∧ HH g h' [.lst rq0 9 (lst eS q0)] F := by
  refine runsQ1 (n := 35) (rs := [.tmp 4]) (by kernel_rfl) hc (by kernel_rfl) ?_
  clear hc
  unfold M_boulterref31_parts at hm
  refine start (n := 35) [(0, .str p0), (1, .int .u8 p1)] (by kernel_rfl) (by kernel_rfl) ?_
  intro fr H
  refine aw_seq (by kernel_rfl) ?_
  refine aw_reg (id := 0) (n := 1) [(0, [])] (by kernel_rfl) (by kernel_rfl) ?_
  refine at_seg [(0, [])] [(0, .str p0), (1, .int .u8 p1)] H (noU_all rfl) (fun fr => by kernel_rfl) ?_
  intro fr H
  refine at_nil ?_
  show AW cfg 31 g (right (bodyC cfg.P 31)) fr h _
  refine aw_seq (by kernel_rfl) ?_
  refine aw_reg (id := 1) (n := 2) [(0, []), (1, [])] (by kernel_rfl) (by kernel_rfl) ?_
  obtain ⟨h1, e1⟩ : ∃ x, x = h.push (.cells (some 9) 2 []) := ⟨_, rfl⟩
  replace A := (A.pushL _ _).to e1
  refine at_step (v := rowV (some h.size) (([] : List (List UInt8)).length)) (h1 := h1) [(0, .str p0), (1, .int .u8 p1), (8, rowV (some h.size) (([] : List (List UInt8)).length))] H (fun fr => by kernel_rfl) (fun fr => .of (s_n' (by kernel_rfl) (congrArg some e1.symm))) ?_
  intro fr t H
  refine at_seg [(1, [])] [(0, .str p0), (1, .int .u8 p1), (5, rowV (some h.size) (([] : List (List UInt8)).length))] H (noU_all rfl) (fun fr => by kernel_rfl) ?_
  intro fr H
  refine at_nil ?_
  show AW cfg 31 g (right (right (bodyC cfg.P 31))) fr h1 _
  refine aw_seq (by kernel_rfl) ?_
  refine aw_reg (id := 2) (n := 1) [(0, [])] (by kernel_rfl) (by kernel_rfl) ?_
  refine at_seg [(0, [])] [(0, .str p0), (1, .int .u8 p1), (5, rowV (some h.size) (([] : List (List UInt8)).length)), (6, .int .i64 (0 : Int))] H (noU_all rfl) (fun fr => by kernel_rfl) ?_
  intro fr H
  refine at_nil ?_
  show AW cfg 31 g (right (right (right (bodyC cfg.P 31)))) fr h1 _
  refine aw_seq (by kernel_rfl) ?_
  refine aw_seq (by kernel_rfl) ?_
  refine aw_reg (id := 3) (n := 1) [(0, [])] (by kernel_rfl) (by kernel_rfl) ?_
  refine at_seg [(0, [])] [(0, .str p0), (1, .int .u8 p1), (5, rowV (some h.size) (([] : List (List UInt8)).length)), (6, .int .i64 (0 : Int)), (7, .int .i64 (0 : Int))] H (noU_all rfl) (fun fr => by kernel_rfl) ?_
  intro fr H
  refine at_nil ?_
  show AW cfg 31 g (right (left (right (right (right (bodyC cfg.P 31)))))) fr h1 _
  refine aw_block (id := 0) (by kernel_rfl) ?_
  replace A : HH g h1 [.lst (some h.size) 9 (lst eS ([] : List (List UInt8)))] F := A
  obtain ⟨o1, ho, hm⟩ := bind_some hm
  refine aw_mono (Q' := fun e fr' h' => (∃ (x4 : List (List UInt8)) (x5 : Int), e = .exit 0 ∧ (x4, x5) = o1 ∧ ∃ (r2 : Option Nat), Has fr' 35 [(0, .str p0), (5, rowV r2 x4.length), (6, .int .i64 x5)] ∧ HH g h' [.lst r2 9 (lst eS x4)] F) ∨ False) ?_ ?_
  · refine aw_loop (by kernel_rfl) (fun (s : (List (List UInt8)) × Int × Int) fr' h' => ∃ (x1 : List (List UInt8)) (x2 : Int) (x3 : Int), (x1, x2, x3) = s ∧ ∃ (r1 : Option Nat), Has fr' 35 [(0, .str p0), (1, .int .u8 p1), (5, rowV r1 x1.length), (6, .int .i64 x2), (7, .int .i64 x3)] ∧ HH g h' [.lst r1 9 (lst eS x1)] F) ho ⟨([] : List (List UInt8)), (0 : Int), (0 : Int), rfl, some h.size, H.less _ (fun fr => by kernel_rfl), A⟩ ?_
    clear ho hm H A
    intro s q fr h2 hI hm
    obtain ⟨x1, x2, x3, rfl, r1, H, A⟩ := hI
    unfold M_boulterref31_parts_L0 at hm
    refine aw_seq (by kernel_rfl) ?_
    refine aw_seq (by kernel_rfl) ?_
    refine aw_reg (id := 4) (n := 4) [(0, []), (1, []), (2, []), (3, [])] (by kernel_rfl) (by kernel_rfl) ?_
    refine at_seg [(0, []), (1, []), (2, []), (3, [])] [(0, .str p0), (1, .int .u8 p1), (5, rowV r1 x1.length), (6, .int .i64 x2), (7, .int .i64 x3), (12, .bool (decide (x3 < (p0.length : Int))))] H (noU_all rfl) (fun fr => by kernel_rfl) ?_
    intro fr H
    refine at_nil ?_
    show AW cfg 31 g (right (left (left (left (right (left (right (right (right (bodyC cfg.P 31)))))))))) fr h2 _
    rcases iteB_some hm with ⟨hb, hm⟩ | ⟨hb, hm⟩
    · replace H := H.know 12 hb (by kernel_rfl)
      refine aw_true (x := .tmp 12) (by kernel_rfl) H (fun fr => by kernel_rfl) ?_
      refine aw_skip (by kernel_rfl) ?_
      show AW cfg 31 g (right (left (left (right (left (right (right (right (bodyC cfg.P 31))))))))) fr h2 _
      refine aw_seq (by kernel_rfl) ?_
      obtain ⟨o2, ho, hm⟩ := bind_some hm
      refine aw_mono (Q' := fun e fr' h' => (∃ (x6 : List (List UInt8)) (x7 : Int), e = .normal ∧ (x6, x7) = o2 ∧ ∃ (r3 : Option Nat), Has fr' 35 [(0, .str p0), (1, .int .u8 p1), (5, rowV r3 x6.length), (6, .int .i64 x7), (7, .int .i64 x3)] ∧ HH g h' [.lst r3 9 (lst eS x6)] F) ∨ False) ?_ ?_
      · replace hm := ho
        clear ho
        refine aw_block (id := 1) (by kernel_rfl) ?_
        refine aw_seq (by kernel_rfl) ?_
        refine aw_reg (id := 6) (n := 5) [(0, []), (1, []), (2, []), (3, []), (4, [])] (by kernel_rfl) (by kernel_rfl) ?_
        refine at_seg [(0, []), (1, [])] [(0, .str p0), (1, .int .u8 p1), (5, rowV r1 x1.length), (6, .int .i64 x2), (7, .int .i64 x3), (15, .str p0), (16, .int .i64 x3)] H (noU_all rfl) (fun fr => by kernel_rfl) ?_
        intro fr H
        obtain ⟨x8, hx, hm⟩ := bind_some hm
        refine at_step (v := .int .u8 x8) (h1 := h2) [(0, .str p0), (1, .int .u8 p1), (5, rowV r1 x1.length), (6, .int .i64 x2), (7, .int .i64 x3), (17, .int .u8 x8)] H (fun fr => by kernel_rfl) (fun fr => .of (s_ixS (by kernel_rfl) hx)) ?_
        intro fr t H
        refine at_seg [(3, []), (4, [])] [(0, .str p0), (1, .int .u8 p1), (5, rowV r1 x1.length), (6, .int .i64 x2), (7, .int .i64 x3), (19, .bool (x8 == p1))] H (noU_all rfl) (fun fr => by kernel_rfl) ?_
        intro fr H
        refine at_nil ?_
        show AW cfg 31 g (right (left (left (right (left (left (right (left (right (right (right (bodyC cfg.P 31)))))))))))) fr h2 _
        rcases iteB_some hm with ⟨hb, hm⟩ | ⟨hb, hm⟩
        · replace H := H.know 19 hb (by kernel_rfl)
          refine aw_true (x := .tmp 19) (by kernel_rfl) H (fun fr => by kernel_rfl) ?_
          refine aw_seq (by kernel_rfl) ?_
          refine aw_reg (id := 7) (n := 8) [(0, []), (1, []), (2, []), (3, []), (4, []), (5, []), (6, []), (7, [])] (by kernel_rfl) (by kernel_rfl) ?_
          refine at_seg [(0, []), (1, []), (2, []), (3, [])] [(0, .str p0), (1, .int .u8 p1), (7, .int .i64 x3), (20, rowV r1 x1.length), (21, .str p0), (22, .int .i64 x2), (23, .int .i64 x3)] H (noU_all rfl) (fun fr => by kernel_rfl) ?_
          intro fr H
          obtain ⟨x9, hx, hm⟩ := bind_some hm
          refine at_step (v := .str x9) (h1 := h2) [(0, .str p0), (1, .int .u8 p1), (7, .int .i64 x3), (20, rowV r1 x1.length), (24, .str x9)] H (fun fr => by kernel_rfl) (fun fr => .of (s_subS (k := .i64) (k' := .i64) (lo := (some x2)) (hi := (some x3)) (by kernel_rfl) hx)) ?_
          intro fr t H
          obtain ⟨h3, e2⟩ : ∃ x, x = h2.push (.cells (some 9) 2 [.str x9]) := ⟨_, rfl⟩
          replace A := (A.pushL _ _).to e2
          refine at_step (v := rowV (some h2.size) (([x9] : List (List UInt8)).length)) (h1 := h3) [(0, .str p0), (1, .int .u8 p1), (7, .int .i64 x3), (20, rowV r1 x1.length), (25, rowV (some h2.size) (([x9] : List (List UInt8)).length))] H (fun fr => by kernel_rfl) (fun fr => .of (s_n' (by kernel_rfl) (congrArg some e2.symm))) ?_
          intro fr t H
          obtain ⟨hb, hm⟩ := need_some hm
          obtain ⟨r4, h4, hx, A1⟩ := HH.appO encS (by decide) A 1 (xs := x1) (ys := ([x9] : List (List UInt8))) rfl (row_first A 0 rfl (n := ([x9] : List (List UInt8)).length) (z := 1) rfl (by decide)) rfl rfl hb
          replace A : HH g h4 [.lst (some h2.size) 9 ([.str x9]), .lst r4 9 (lst eS (x1 ++ ([x9] : List (List UInt8))))] F := A1
          replace A : HH g h4 [.lst r4 9 (lst eS (x1 ++ ([x9] : List (List UInt8))))] F := (HH.dropF (A.front 1 rfl) 1)
          refine at_step (v := rowV r4 ((x1 ++ ([x9] : List (List UInt8))).length)) (h1 := h4) [(0, .str p0), (1, .int .u8 p1), (7, .int .i64 x3), (26, rowV r4 ((x1 ++ ([x9] : List (List UInt8))).length))] H (fun fr => by kernel_rfl) (fun fr => .of (s_app (s := rowS r1 x1.length) (by kernel_rfl) hx)) ?_
          intro fr t H
          refine at_seg [(7, [])] [(0, .str p0), (1, .int .u8 p1), (5, rowV r4 ((x1 ++ ([x9] : List (List UInt8))).length)), (7, .int .i64 x3)] H (noU_all rfl) (fun fr => by kernel_rfl) ?_
          intro fr H
          refine at_nil ?_
          show AW cfg 31 g (right (left (right (left (left (right (left (left (right (left (right (right (right (bodyC cfg.P 31)))))))))))))) fr h4 _
          refine aw_reg (id := 8) (n := 3) [(0, []), (1, []), (2, [])] (by kernel_rfl) (by kernel_rfl) ?_
          refine at_seg [(0, []), (1, []), (2, [])] [(0, .str p0), (1, .int .u8 p1), (5, rowV r4 ((x1 ++ ([x9] : List (List UInt8))).length)), (6, .int .i64 (IntKind.i64.wrap (x3 + (1 : Int)))), (7, .int .i64 x3)] H (noU_all rfl) (fun fr => by kernel_rfl) ?_
          intro fr H
          refine at_nil ?_
          exact Or.inl ⟨(x1 ++ ([x9] : List (List UInt8))), IntKind.i64.wrap (x3 + (1 : Int)), rfl, Option.some.inj hm, r4, H.less _ (fun fr => by kernel_rfl), A⟩
        · replace H := H.know 19 hb (by kernel_rfl)
          refine aw_false (x := .tmp 19) (by kernel_rfl) H (fun fr => by kernel_rfl) ?_
          refine aw_skip (by kernel_rfl) ?_
          exact Or.inl ⟨x1, x2, rfl, Option.some.inj hm, r1, H.less _ (fun fr => by kernel_rfl), A⟩
      · clear ho
        clear A
        intro e fr h5 hQ
        rcases hQ with ⟨x6, x7, rfl, rfl, r3, H, A⟩ | hF
        · skip
          show AW cfg 31 g (right (right (left (left (right (left (right (right (right (bodyC cfg.P 31)))))))))) fr h5 _
          refine aw_reg (id := 5) (n := 3) [(0, []), (1, []), (2, [])] (by kernel_rfl) (by kernel_rfl) ?_
          refine at_seg [(0, []), (1, []), (2, [])] [(0, .str p0), (1, .int .u8 p1), (5, rowV r3 x6.length), (6, .int .i64 x7), (7, .int .i64 (IntKind.i64.wrap (x3 + (1 : Int))))] H (noU_all rfl) (fun fr => by kernel_rfl) ?_
          intro fr H
          refine at_nil ?_
          exact Exists.intro (x6, x7, IntKind.i64.wrap (x3 + (1 : Int))) (And.intro (Option.some.inj hm).symm ⟨x6, x7, IntKind.i64.wrap (x3 + (1 : Int)), rfl, r3, H.less _ (fun fr => by kernel_rfl), A⟩)
        · exact hF.elim
    · replace H := H.know 12 hb (by kernel_rfl)
      refine aw_false (x := .tmp 12) (by kernel_rfl) H (fun fr => by kernel_rfl) ?_
      refine aw_exit (i := 0) (by kernel_rfl) ?_
      exact Exists.intro _ (And.intro (Option.some.inj hm).symm (fun e => Or.inl ⟨x1, x2, rfl, e, r1, H.less _ (fun fr => by kernel_rfl), A⟩))
  · clear ho
    clear A
    intro e fr h6 hQ
    rcases hQ with ⟨x4, x5, rfl, rfl, r2, H, A⟩ | hF
    · skip
      show AW cfg 31 g (right (right (right (right (bodyC cfg.P 31))))) fr h6 _
      refine aw_seq (by kernel_rfl) ?_
      refine aw_reg (id := 9) (n := 7) [(0, []), (1, []), (2, []), (3, []), (4, []), (5, []), (6, [])] (by kernel_rfl) (by kernel_rfl) ?_
      refine at_seg [(0, []), (1, []), (2, [])] [(29, rowV r2 x4.length), (30, .str p0), (31, .int .i64 x5)] H (noU_all rfl) (fun fr => by kernel_rfl) ?_
      intro fr H
      obtain ⟨x10, hx, hm⟩ := bind_some hm
      refine at_step (v := .str x10) (h1 := h6) [(29, rowV r2 x4.length), (32, .str x10)] H (fun fr => by kernel_rfl) (fun fr => .of (s_subS (k := .i64) (k' := .i64) (lo := (some x5)) (hi := none) (by kernel_rfl) hx)) ?_
      intro fr t H
      obtain ⟨h7, e3⟩ : ∃ x, x = h6.push (.cells (some 9) 2 [.str x10]) := ⟨_, rfl⟩
      replace A := (A.pushL _ _).to e3
      refine at_step (v := rowV (some h6.size) (([x10] : List (List UInt8)).length)) (h1 := h7) [(29, rowV r2 x4.length), (33, rowV (some h6.size) (([x10] : List (List UInt8)).length))] H (fun fr => by kernel_rfl) (fun fr => .of (s_n' (by kernel_rfl) (congrArg some e3.symm))) ?_
      intro fr t H
      obtain ⟨hb, hm⟩ := need_some hm
      obtain ⟨r5, h8, hx, A1⟩ := HH.appO encS (by decide) A 1 (xs := x4) (ys := ([x10] : List (List UInt8))) rfl (row_first A 0 rfl (n := ([x10] : List (List UInt8)).length) (z := 1) rfl (by decide)) rfl rfl hb
      replace A : HH g h8 [.lst (some h6.size) 9 ([.str x10]), .lst r5 9 (lst eS (x4 ++ ([x10] : List (List UInt8))))] F := A1
      replace A : HH g h8 [.lst r5 9 (lst eS (x4 ++ ([x10] : List (List UInt8))))] F := (HH.dropF (A.front 1 rfl) 1)
      refine at_step (v := rowV r5 ((x4 ++ ([x10] : List (List UInt8))).length)) (h1 := h8) [(34, rowV r5 ((x4 ++ ([x10] : List (List UInt8))).length))] H (fun fr => by kernel_rfl) (fun fr => .of (s_app (s := rowS r2 x4.length) (by kernel_rfl) hx)) ?_
      intro fr t H
      refine at_seg [(6, [])] [(4, rowV r5 ((x4 ++ ([x10] : List (List UInt8))).length))] H (noU_all rfl) (fun fr => by kernel_rfl) ?_
      intro fr H
      refine at_nil ?_
      show AW cfg 31 g (right (right (right (right (right (bodyC cfg.P 31)))))) fr h8 _
      refine aw_ret (by kernel_rfl) ?_
      have e1 := Option.some.inj hm
      subst e1
      refine ⟨.inl rfl, rowV r5 ((x4 ++ ([x10] : List (List UInt8))).length), resH H (fun fr => by kernel_rfl), ?_⟩
      exact ⟨r5, rfl, A⟩
    · exact hF.elim
/-! ### boulter/boulterref31.Lines -/
noncomputable def M_boulterref31_Lines_L0 (x1 : List (List UInt8)) (s : (List (List UInt8)) × Int) : Option (((List (List UInt8)) × Int) ⊕ (((List (List UInt8))))) :=
  match s with
  | (x2, x3) => iteB (decide (x3 < (x1.length : Int))) (((ixV x1 x3).bind fun x6 => (iteB (x6 == ([] : List UInt8)) (some true) ((ixS x6 (0 : Int)).bind fun x8 => some (x8 == (35 : Int))) : Option (Bool)).bind fun x7 => iteB x7 (some x2) (((iteB (decide ((x6.length : Int) > (1 : Int))) ((ixS x6 (0 : Int)).bind fun x11 => some (x11 == (92 : Int))) (some false) : Option (Bool)).bind fun x10 => (iteB x10 ((ixS x6 (1 : Int)).bind fun x13 => some (x13 == (35 : Int))) (some false) : Option (Bool)).bind fun x12 => iteB x12 ((subS x6 (some (1 : Int)) none).bind fun x14 => some x14) (some x6) : Option (((List UInt8)))).bind fun x9 => need (okN 16 (x2.length + ([x9] : List (List UInt8)).length)) <| some (x2 ++ ([x9] : List (List UInt8)))) : Option (((List (List UInt8))))).bind fun x5 => some (.inl (x5, IntKind.i64.wrap (x3 + (1 : Int))))) (some (.inr x2))
noncomputable def M_boulterref31_Lines (p0 : List UInt8) : Option ((List (List UInt8))) :=
 (M_boulterref31_parts p0 (10 : Int)).bind fun x1 => (loop (M_boulterref31_Lines_L0 x1) (([] : List (List UInt8)), (0 : Int))).bind fun x4 => some x4
theorem ok_boulterref31_Lines {g : Gd} {h : AHeap} {F : List Ck} {p0 : List UInt8} {q0 : List (List UInt8)} {av : List AVal} (hm : M_boulterref31_Lines p0 = some q0) (hc : canL (cfg.still 10) av = [.str p0]) (A : HH g h [] F) : ∃ v h', Runs cfg g h 10 av v h' ∧ ∃ (rq0 : Option Nat), v = rowV rq0 q0.length ∧ HH g h' [.lst rq0 9 (lst eS q0)] F := by
  refine runsQ1 (n := 47) (rs := [.tmp 2]) (by kernel_rfl) hc (by kernel_rfl) ?_
  clear hc
  unfold M_boulterref31_Lines at hm
  refine start (n := 47) [(0, .str p0)] (by kernel_rfl) (by kernel_rfl) ?_
  intro fr H
  refine aw_seq (by kernel_rfl) ?_
  refine aw_reg (id := 0) (n := 1) [(0, [])] (by kernel_rfl) (by kernel_rfl) ?_
  refine at_seg [(0, [])] [(0, .str p0)] H (noU_all rfl) (fun fr => by kernel_rfl) ?_
  intro fr H
  refine at_nil ?_
  show AW cfg 10 g (right (bodyC cfg.P 10)) fr h _
  refine aw_seq (by kernel_rfl) ?_
  refine aw_reg (id := 1) (n := 2) [(0, []), (1, [])] (by kernel_rfl) (by kernel_rfl) ?_
  obtain ⟨h1, e1⟩ : ∃ x, x = h.push (.cells (some 9) 2 []) := ⟨_, rfl⟩
  replace A := (A.pushL _ _).to e1
  refine at_step (v := rowV (some h.size) (([] : List (List UInt8)).length)) (h1 := h1) [(0, .str p0), (7, rowV (some h.size) (([] : List (List UInt8)).length))] H (fun fr => by kernel_rfl) (fun fr => .of (s_n' (by kernel_rfl) (congrArg some e1.symm))) ?_
  intro fr t H
  refine at_seg [(1, [])] [(0, .str p0), (3, rowV (some h.size) (([] : List (List UInt8)).length))] H (noU_all rfl) (fun fr => by kernel_rfl) ?_
  intro fr H
  refine at_nil ?_
  show AW cfg 10 g (right (right (bodyC cfg.P 10))) fr h1 _
  refine aw_seq (by kernel_rfl) ?_
  refine aw_reg (id := 2) (n := 3) [(0, []), (1, []), (2, [])] (by kernel_rfl) (by kernel_rfl) ?_
  refine at_seg [(0, [])] [(3, rowV (some h.size) (([] : List (List UInt8)).length)), (8, .str p0)] H (noU_all rfl) (fun fr => by kernel_rfl) ?_
  intro fr H
  have A1 := A.cut 0
  obtain ⟨x1, hx, hm⟩ := bind_some hm
  obtain ⟨v1, h2, hr, rqw1, rfl, A1⟩ := ok_boulterref31_parts (av := [.str p0, .int .u8 (10 : Int)]) hx (by kernel_rfl) A1
  replace A : HH g h2 [.lst rqw1 9 (lst eS x1), .lst (some h.size) 9 ([])] F := A.glue0 (n := 0) A1
  refine at_step (v := rowV rqw1 x1.length) (h1 := h2) [(3, rowV (some h.size) (([] : List (List UInt8)).length)), (9, rowV rqw1 x1.length)] H (fun fr => by kernel_rfl) (fun fr => Steps.call (by kernel_rfl) hr) ?_
  intro fr t H
  refine at_seg [(2, [])] [(3, rowV (some h.size) (([] : List (List UInt8)).length)), (4, rowV rqw1 x1.length)] H (noU_all rfl) (fun fr => by kernel_rfl) ?_
  intro fr H
  refine at_nil ?_
  show AW cfg 10 g (right (right (right (bodyC cfg.P 10)))) fr h2 _
  refine aw_seq (by kernel_rfl) ?_
  refine aw_seq (by kernel_rfl) ?_
  refine aw_reg (id := 3) (n := 1) [(0, [])] (by kernel_rfl) (by kernel_rfl) ?_
  refine at_seg [(0, [])] [(3, rowV (some h.size) (([] : List (List UInt8)).length)), (4, rowV rqw1 x1.length), (5, .int .i64 (0 : Int))] H (noU_all rfl) (fun fr => by kernel_rfl) ?_
  intro fr H
  refine at_nil ?_
  show AW cfg 10 g (right (left (right (right (right (bodyC cfg.P 10)))))) fr h2 _
  refine aw_block (id := 0) (by kernel_rfl) ?_
  replace A : HH g h2 [.lst rqw1 9 (lst eS x1), .lst (some h.size) 9 (lst eS ([] : List (List UInt8)))] F := A
  obtain ⟨o1, ho, hm⟩ := bind_some hm
  refine aw_mono (Q' := fun e fr' h' => (∃ (x4 : List (List UInt8)), e = .exit 0 ∧ x4 = o1 ∧ ∃ (r2 : Option Nat), Has fr' 47 [(3, rowV r2 x4.length)] ∧ HH g h' [.lst r2 9 (lst eS x4)] F) ∨ False) ?_ ?_
  · refine aw_loop (by kernel_rfl) (fun (s : (List (List UInt8)) × Int) fr' h' => ∃ (x2 : List (List UInt8)) (x3 : Int), (x2, x3) = s ∧ ∃ (r1 : Option Nat), Has fr' 47 [(3, rowV r1 x2.length), (4, rowV rqw1 x1.length), (5, .int .i64 x3)] ∧ HH g h' [.lst rqw1 9 (lst eS x1), .lst r1 9 (lst eS x2)] F) ho ⟨([] : List (List UInt8)), (0 : Int), rfl, some h.size, H.less _ (fun fr => by kernel_rfl), A⟩ ?_
    clear ho hm H A
    intro s q fr h3 hI hm
    obtain ⟨x2, x3, rfl, r1, H, A⟩ := hI
    unfold M_boulterref31_Lines_L0 at hm
    refine aw_seq (by kernel_rfl) ?_
    refine aw_seq (by kernel_rfl) ?_
    refine aw_reg (id := 4) (n := 4) [(0, []), (1, []), (2, []), (3, [])] (by kernel_rfl) (by kernel_rfl) ?_
    refine at_seg [(0, []), (1, []), (2, []), (3, [])] [(3, rowV r1 x2.length), (4, rowV rqw1 x1.length), (5, .int .i64 x3), (13, .bool (decide (x3 < (x1.length : Int))))] H (noU_all rfl) (fun fr => by kernel_rfl) ?_
    intro fr H
    refine at_nil ?_
    show AW cfg 10 g (right (left (left (left (right (left (right (right (right (bodyC cfg.P 10)))))))))) fr h3 _
    rcases iteB_some hm with ⟨hb, hm⟩ | ⟨hb, hm⟩
    · replace H := H.know 13 hb (by kernel_rfl)
      refine aw_true (x := .tmp 13) (by kernel_rfl) H (fun fr => by kernel_rfl) ?_
      refine aw_skip (by kernel_rfl) ?_
      show AW cfg 10 g (right (left (left (right (left (right (right (right (bodyC cfg.P 10))))))))) fr h3 _
      refine aw_seq (by kernel_rfl) ?_
      obtain ⟨o2, ho, hm⟩ := bind_some hm
      refine aw_mono (Q' := fun e fr' h' => (∃ (x5 : List (List UInt8)), e = .normal ∧ x5 = o2 ∧ ∃ (r3 : Option Nat), Has fr' 47 [(3, rowV r3 x5.length), (4, rowV rqw1 x1.length), (5, .int .i64 x3)] ∧ HH g h' [.lst rqw1 9 (lst eS x1), .lst r3 9 (lst eS x5)] F) ∨ False) ?_ ?_
      · replace hm := ho
        clear ho
        refine aw_block (id := 1) (by kernel_rfl) ?_
        refine aw_seq (by kernel_rfl) ?_
        refine aw_reg (id := 6) (n := 5) [(0, []), (1, []), (2, []), (3, []), (4, [])] (by kernel_rfl) (by kernel_rfl) ?_
        refine at_seg [(0, []), (1, [])] [(3, rowV r1 x2.length), (4, rowV rqw1 x1.length), (5, .int .i64 x3), (16, rowV rqw1 x1.length), (17, .int .i64 x3)] H (noU_all rfl) (fun fr => by kernel_rfl) ?_
        intro fr H
        obtain ⟨x6, hx, hm⟩ := bind_some hm
        obtain ⟨i1, er1, _, hx, hq1⟩ := HH.ixO encS (by decide) A 0 (xs := x1) rfl hx
        refine at_step (v := .ptr (some (i1, x3.toNat * 1))) (h1 := h3) [(3, rowV r1 x2.length), (4, rowV rqw1 x1.length), (5, .int .i64 x3), (18, .ptr (some (i1, x3.toNat * 1)))] H (fun fr => by kernel_rfl) (fun fr => .of (s_ixL (s := rowS rqw1 x1.length) (by kernel_rfl) hx)) ?_
        intro fr t H
        refine at_step (v := .str x6) (h1 := h3) [(3, rowV r1 x2.length), (4, rowV rqw1 x1.length), (5, .int .i64 x3), (19, .str x6)] H (fun fr => by kernel_rfl) (fun fr => .of (s_ld (by kernel_rfl) (row_ld1 encS (HH.row A 0 rfl er1) hq1 (o := 0) rfl))) ?_
        intro fr t H
        refine at_seg [(4, [])] [(3, rowV r1 x2.length), (4, rowV rqw1 x1.length), (5, .int .i64 x3), (6, .str x6)] H (noU_all rfl) (fun fr => by kernel_rfl) ?_
        intro fr H
        refine at_nil ?_
        show AW cfg 10 g (right (left (left (right (left (left (right (left (right (right (right (bodyC cfg.P 10)))))))))))) fr h3 _
        refine aw_seq (by kernel_rfl) ?_
        refine aw_seq (by kernel_rfl) ?_
        refine aw_reg (id := 7) (n := 7) [(0, []), (1, []), (2, []), (3, []), (4, []), (5, []), (6, [])] (by kernel_rfl) (by kernel_rfl) ?_
        refine at_seg [(0, []), (1, []), (2, [])] [(3, rowV r1 x2.length), (4, rowV rqw1 x1.length), (5, .int .i64 x3), (6, .str x6), (22, .bool (x6 == ([] : List UInt8)))] H (noU_all rfl) (fun fr => by kernel_rfl) ?_
        intro fr H
        obtain ⟨x7, ho, hm⟩ := bind_some hm
        refine at_cut [(3, []), (4, []), (5, []), (6, [])] (fun fr' h' => Has fr' 47 [(3, rowV r1 x2.length), (4, rowV rqw1 x1.length), (5, .int .i64 x3), (6, .str x6), (26, .bool x7)] ∧ HH g h' [.lst rqw1 9 (lst eS x1), .lst r1 9 (lst eS x2)] F) ?_ ?_
        · rcases iteB_some ho with ⟨hb, hm⟩ | ⟨hb, hm⟩
          · replace H := H.know 22 hb (by kernel_rfl)
            refine at_seg [(3, []), (4, []), (5, []), (6, [])] [(3, rowV r1 x2.length), (4, rowV rqw1 x1.length), (5, .int .i64 x3), (6, .str x6), (26, .bool true)] H (noU_all rfl) (fun fr => by kernel_rfl) ?_
            intro fr H
            have e1 := Option.some.inj hm
            subst e1
            exact at_nil ⟨H.less _ (fun fr => by kernel_rfl), A⟩
          · replace H := H.know 22 hb (by kernel_rfl)
            refine at_seg [(3, [])] [(3, rowV r1 x2.length), (4, rowV rqw1 x1.length), (5, .int .i64 x3), (6, .str x6), (22, .bool false), (23, .str x6)] H (noU_all rfl) (fun fr => by kernel_rfl) ?_
            intro fr H
            obtain ⟨x8, hx, hm⟩ := bind_some hm
            refine at_step (v := .int .u8 x8) (h1 := h3) [(3, rowV r1 x2.length), (4, rowV rqw1 x1.length), (5, .int .i64 x3), (6, .str x6), (22, .bool false), (24, .int .u8 x8)] H (fun fr => by kernel_rfl) (fun fr => .of (s_ixS (by kernel_rfl) hx)) ?_
            intro fr t H
            refine at_seg [(5, []), (6, [])] [(3, rowV r1 x2.length), (4, rowV rqw1 x1.length), (5, .int .i64 x3), (6, .str x6), (26, .bool (x8 == (35 : Int)))] H (noU_all rfl) (fun fr => by kernel_rfl) ?_
            intro fr H
            have e1 := Option.some.inj hm
            subst e1
            exact at_nil ⟨H.less _ (fun fr => by kernel_rfl), A⟩
        · clear A
          intro t fr h4 hK
          obtain ⟨H, A⟩ := hK
          refine at_nil ?_
          show AW cfg 10 g (right (left (right (left (left (right (left (left (right (left (right (right (right (bodyC cfg.P 10)))))))))))))) fr h4 _
          rcases iteB_some hm with ⟨hb, hm⟩ | ⟨hb, hm⟩
          · replace H := H.know 26 hb (by kernel_rfl)
            refine aw_true (x := .tmp 26) (by kernel_rfl) H (fun fr => by kernel_rfl) ?_
            refine aw_exit (i := 1) (by kernel_rfl) ?_
            exact Or.inl ⟨x2, rfl, Option.some.inj hm, r1, H.less _ (fun fr => by kernel_rfl), A⟩
          · replace H := H.know 26 hb (by kernel_rfl)
            refine aw_false (x := .tmp 26) (by kernel_rfl) H (fun fr => by kernel_rfl) ?_
            refine aw_skip (by kernel_rfl) ?_
            show AW cfg 10 g (right (right (left (left (right (left (left (right (left (right (right (right (bodyC cfg.P 10))))))))))))) fr h4 _
            refine aw_seq (by kernel_rfl) ?_
            obtain ⟨o3, ho, hm⟩ := bind_some hm
            refine aw_mono (Q' := fun e fr' h' => (∃ (x9 : List UInt8), e = .normal ∧ x9 = o3 ∧ Has fr' 47 [(3, rowV r1 x2.length), (4, rowV rqw1 x1.length), (5, .int .i64 x3), (6, .str x9)] ∧ HH g h' [.lst rqw1 9 (lst eS x1), .lst r1 9 (lst eS x2)] F) ∨ False) ?_ ?_
            · replace hm := ho
              clear ho
              refine aw_seq (by kernel_rfl) ?_
              refine aw_reg (id := 8) (n := 13) [(0, []), (1, []), (2, []), (3, []), (4, []), (5, []), (6, []), (7, []), (8, []), (9, []), (10, []), (11, []), (12, [])] (by kernel_rfl) (by kernel_rfl) ?_
              refine at_seg [(0, []), (1, []), (2, []), (3, [])] [(3, rowV r1 x2.length), (4, rowV rqw1 x1.length), (5, .int .i64 x3), (6, .str x6), (30, .bool (decide ((x6.length : Int) > (1 : Int))))] H (noU_all rfl) (fun fr => by kernel_rfl) ?_
              intro fr H
              obtain ⟨x10, ho, hm⟩ := bind_some hm
              refine at_cut [(4, []), (5, []), (6, []), (7, [])] (fun fr' h' => Has fr' 47 [(3, rowV r1 x2.length), (4, rowV rqw1 x1.length), (5, .int .i64 x3), (6, .str x6), (34, .bool x10)] ∧ HH g h' [.lst rqw1 9 (lst eS x1), .lst r1 9 (lst eS x2)] F) ?_ ?_
              · rcases iteB_some ho with ⟨hb, hm⟩ | ⟨hb, hm⟩
                · replace H := H.know 30 hb (by kernel_rfl)
                  refine at_seg [(4, [])] [(3, rowV r1 x2.length), (4, rowV rqw1 x1.length), (5, .int .i64 x3), (6, .str x6), (30, .bool true), (31, .str x6)] H (noU_all rfl) (fun fr => by kernel_rfl) ?_
                  intro fr H
                  obtain ⟨x11, hx, hm⟩ := bind_some hm
                  refine at_step (v := .int .u8 x11) (h1 := h4) [(3, rowV r1 x2.length), (4, rowV rqw1 x1.length), (5, .int .i64 x3), (6, .str x6), (30, .bool true), (32, .int .u8 x11)] H (fun fr => by kernel_rfl) (fun fr => .of (s_ixS (by kernel_rfl) hx)) ?_
                  intro fr t H
                  refine at_seg [(6, []), (7, [])] [(3, rowV r1 x2.length), (4, rowV rqw1 x1.length), (5, .int .i64 x3), (6, .str x6), (34, .bool (x11 == (92 : Int)))] H (noU_all rfl) (fun fr => by kernel_rfl) ?_
                  intro fr H
                  have e1 := Option.some.inj hm
                  subst e1
                  exact at_nil ⟨H.less _ (fun fr => by kernel_rfl), A⟩
                · replace H := H.know 30 hb (by kernel_rfl)
                  refine at_seg [(4, []), (5, []), (6, []), (7, [])] [(3, rowV r1 x2.length), (4, rowV rqw1 x1.length), (5, .int .i64 x3), (6, .str x6), (34, .bool false)] H (noU_all rfl) (fun fr => by kernel_rfl) ?_
                  intro fr H
                  have e1 := Option.some.inj hm
                  subst e1
                  exact at_nil ⟨H.less _ (fun fr => by kernel_rfl), A⟩
              · clear A
                intro t fr h5 hK
                obtain ⟨H, A⟩ := hK
                refine at_seg [(8, [])] [(3, rowV r1 x2.length), (4, rowV rqw1 x1.length), (5, .int .i64 x3), (6, .str x6), (35, .bool x10)] H (noU_all rfl) (fun fr => by kernel_rfl) ?_
                intro fr H
                obtain ⟨x12, ho, hm⟩ := bind_some hm
                refine at_cut [(9, []), (10, []), (11, []), (12, [])] (fun fr' h' => Has fr' 47 [(3, rowV r1 x2.length), (4, rowV rqw1 x1.length), (5, .int .i64 x3), (6, .str x6), (39, .bool x12)] ∧ HH g h' [.lst rqw1 9 (lst eS x1), .lst r1 9 (lst eS x2)] F) ?_ ?_
                · rcases iteB_some ho with ⟨hb, hm⟩ | ⟨hb, hm⟩
                  · replace H := H.know 35 hb (by kernel_rfl)
                    refine at_seg [(9, [])] [(3, rowV r1 x2.length), (4, rowV rqw1 x1.length), (5, .int .i64 x3), (6, .str x6), (35, .bool true), (36, .str x6)] H (noU_all rfl) (fun fr => by kernel_rfl) ?_
                    intro fr H
                    obtain ⟨x13, hx, hm⟩ := bind_some hm
                    refine at_step (v := .int .u8 x13) (h1 := h5) [(3, rowV r1 x2.length), (4, rowV rqw1 x1.length), (5, .int .i64 x3), (6, .str x6), (35, .bool true), (37, .int .u8 x13)] H (fun fr => by kernel_rfl) (fun fr => .of (s_ixS (by kernel_rfl) hx)) ?_
                    intro fr t H
                    refine at_seg [(11, []), (12, [])] [(3, rowV r1 x2.length), (4, rowV rqw1 x1.length), (5, .int .i64 x3), (6, .str x6), (39, .bool (x13 == (35 : Int)))] H (noU_all rfl) (fun fr => by kernel_rfl) ?_
                    intro fr H
                    have e1 := Option.some.inj hm
                    subst e1
                    exact at_nil ⟨H.less _ (fun fr => by kernel_rfl), A⟩
                  · replace H := H.know 35 hb (by kernel_rfl)
                    refine at_seg [(9, []), (10, []), (11, []), (12, [])] [(3, rowV r1 x2.length), (4, rowV rqw1 x1.length), (5, .int .i64 x3), (6, .str x6), (39, .bool false)] H (noU_all rfl) (fun fr => by kernel_rfl) ?_
                    intro fr H
                    have e1 := Option.some.inj hm
                    subst e1
                    exact at_nil ⟨H.less _ (fun fr => by kernel_rfl), A⟩
                · clear A
                  intro t fr h6 hK
                  obtain ⟨H, A⟩ := hK
                  refine at_nil ?_
                  show AW cfg 10 g (right (left (right (right (left (left (right (left (left (right (left (right (right (right (bodyC cfg.P 10))))))))))))))) fr h6 _
                  rcases iteB_some hm with ⟨hb, hm⟩ | ⟨hb, hm⟩
                  · replace H := H.know 39 hb (by kernel_rfl)
                    refine aw_true (x := .tmp 39) (by kernel_rfl) H (fun fr => by kernel_rfl) ?_
                    refine aw_reg (id := 9) (n := 3) [(0, []), (1, []), (2, [])] (by kernel_rfl) (by kernel_rfl) ?_
                    refine at_seg [(0, [])] [(3, rowV r1 x2.length), (4, rowV rqw1 x1.length), (5, .int .i64 x3), (40, .str x6)] H (noU_all rfl) (fun fr => by kernel_rfl) ?_
                    intro fr H
                    obtain ⟨x14, hx, hm⟩ := bind_some hm
                    refine at_step (v := .str x14) (h1 := h6) [(3, rowV r1 x2.length), (4, rowV rqw1 x1.length), (5, .int .i64 x3), (41, .str x14)] H (fun fr => by kernel_rfl) (fun fr => .of (s_subS (k := .i64) (k' := .i64) (lo := (some (1 : Int))) (hi := none) (by kernel_rfl) hx)) ?_
                    intro fr t H
                    refine at_seg [(2, [])] [(3, rowV r1 x2.length), (4, rowV rqw1 x1.length), (5, .int .i64 x3), (6, .str x14)] H (noU_all rfl) (fun fr => by kernel_rfl) ?_
                    intro fr H
                    refine at_nil ?_
                    exact Or.inl ⟨x14, rfl, Option.some.inj hm, H.less _ (fun fr => by kernel_rfl), A⟩
                  · replace H := H.know 39 hb (by kernel_rfl)
                    refine aw_false (x := .tmp 39) (by kernel_rfl) H (fun fr => by kernel_rfl) ?_
                    refine aw_skip (by kernel_rfl) ?_
                    exact Or.inl ⟨x6, rfl, Option.some.inj hm, H.less _ (fun fr => by kernel_rfl), A⟩
            · clear ho
              clear A
              intro e fr h7 hQ
              rcases hQ with ⟨x9, rfl, rfl, H, A⟩ | hF
              · skip
                show AW cfg 10 g (right (right (right (left (left (right (left (left (right (left (right (right (right (bodyC cfg.P 10)))))))))))))) fr h7 _
                refine aw_reg (id := 10) (n := 5) [(0, []), (1, []), (2, []), (3, []), (4, [])] (by kernel_rfl) (by kernel_rfl) ?_
                refine at_seg [(0, []), (1, [])] [(4, rowV rqw1 x1.length), (5, .int .i64 x3), (42, rowV r1 x2.length), (43, .str x9)] H (noU_all rfl) (fun fr => by kernel_rfl) ?_
                intro fr H
                obtain ⟨h8, e2⟩ : ∃ x, x = h7.push (.cells (some 9) 2 [.str x9]) := ⟨_, rfl⟩
                replace A := (A.pushL _ _).to e2
                refine at_step (v := rowV (some h7.size) (([x9] : List (List UInt8)).length)) (h1 := h8) [(4, rowV rqw1 x1.length), (5, .int .i64 x3), (42, rowV r1 x2.length), (44, rowV (some h7.size) (([x9] : List (List UInt8)).length))] H (fun fr => by kernel_rfl) (fun fr => .of (s_n' (by kernel_rfl) (congrArg some e2.symm))) ?_
                intro fr t H
                obtain ⟨hb, hm⟩ := need_some hm
                obtain ⟨r4, h9, hx, A1⟩ := HH.appO encS (by decide) A 2 (xs := x2) (ys := ([x9] : List (List UInt8))) rfl (row_first A 0 rfl (n := ([x9] : List (List UInt8)).length) (z := 1) rfl (by decide)) rfl rfl hb
                replace A : HH g h9 [.lst (some h7.size) 9 ([.str x9]), .lst rqw1 9 (lst eS x1), .lst r4 9 (lst eS (x2 ++ ([x9] : List (List UInt8))))] F := A1
                replace A : HH g h9 [.lst rqw1 9 (lst eS x1), .lst r4 9 (lst eS (x2 ++ ([x9] : List (List UInt8))))] F := (HH.dropF ((A.front 2 rfl).front 2 rfl) 2)
                refine at_step (v := rowV r4 ((x2 ++ ([x9] : List (List UInt8))).length)) (h1 := h9) [(4, rowV rqw1 x1.length), (5, .int .i64 x3), (45, rowV r4 ((x2 ++ ([x9] : List (List UInt8))).length))] H (fun fr => by kernel_rfl) (fun fr => .of (s_app (s := rowS r1 x2.length) (by kernel_rfl) hx)) ?_
                intro fr t H
                refine at_seg [(4, [])] [(3, rowV r4 ((x2 ++ ([x9] : List (List UInt8))).length)), (4, rowV rqw1 x1.length), (5, .int .i64 x3)] H (noU_all rfl) (fun fr => by kernel_rfl) ?_
                intro fr H
                refine at_nil ?_
                exact Or.inl ⟨(x2 ++ ([x9] : List (List UInt8))), rfl, Option.some.inj hm, r4, H.less _ (fun fr => by kernel_rfl), A⟩
              · exact hF.elim
      · clear ho
        clear A
        intro e fr h10 hQ
        rcases hQ with ⟨x5, rfl, rfl, r3, H, A⟩ | hF
        · skip
          show AW cfg 10 g (right (right (left (left (right (left (right (right (right (bodyC cfg.P 10)))))))))) fr h10 _
          refine aw_reg (id := 5) (n := 3) [(0, []), (1, []), (2, [])] (by kernel_rfl) (by kernel_rfl) ?_
          refine at_seg [(0, []), (1, []), (2, [])] [(3, rowV r3 x5.length), (4, rowV rqw1 x1.length), (5, .int .i64 (IntKind.i64.wrap (x3 + (1 : Int))))] H (noU_all rfl) (fun fr => by kernel_rfl) ?_
          intro fr H
          refine at_nil ?_
          exact Exists.intro (x5, IntKind.i64.wrap (x3 + (1 : Int))) (And.intro (Option.some.inj hm).symm ⟨x5, IntKind.i64.wrap (x3 + (1 : Int)), rfl, r3, H.less _ (fun fr => by kernel_rfl), A⟩)
        · exact hF.elim
    · replace H := H.know 13 hb (by kernel_rfl)
      refine aw_false (x := .tmp 13) (by kernel_rfl) H (fun fr => by kernel_rfl) ?_
      refine aw_exit (i := 0) (by kernel_rfl) ?_
      replace A : HH g h3 [.lst r1 9 (lst eS x2)] F := (HH.dropF (A.front 1 rfl) 1)
      exact Exists.intro _ (And.intro (Option.some.inj hm).symm (fun e => Or.inl ⟨x2, rfl, e, r1, H.less _ (fun fr => by kernel_rfl), A⟩))
  · clear ho
    clear A
    intro e fr h11 hQ
    rcases hQ with ⟨x4, rfl, rfl, r2, H, A⟩ | hF
    · skip
      show AW cfg 10 g (right (right (right (right (bodyC cfg.P 10))))) fr h11 _
      refine aw_seq (by kernel_rfl) ?_
      refine aw_reg (id := 11) (n := 2) [(0, []), (1, [])] (by kernel_rfl) (by kernel_rfl) ?_
      refine at_seg [(0, []), (1, [])] [(2, rowV r2 x4.length)] H (noU_all rfl) (fun fr => by kernel_rfl) ?_
      intro fr H
      refine at_nil ?_
      show AW cfg 10 g (right (right (right (right (right (bodyC cfg.P 10)))))) fr h11 _
      refine aw_ret (by kernel_rfl) ?_
      have e1 := Option.some.inj hm
      subst e1
      refine ⟨.inl rfl, rowV r2 x4.length, resH H (fun fr => by kernel_rfl), ?_⟩
      exact ⟨r2, rfl, A⟩
    · exact hF.elim
/-! ### boulter/boulterref31.Items -/
noncomputable def M_boulterref31_Items_L0 (x1 : List (List UInt8)) (s : (List (List UInt8)) × Int) : Option (((List (List UInt8)) × Int) ⊕ (((List (List UInt8))))) :=
  match s with
  | (x2, x3) => iteB (decide (x3 < (x1.length : Int))) (((ixV x1 x3).bind fun x6 => iteB (!(x6 == ([] : List UInt8))) ((ixV x1 x3).bind fun x7 => need (okN 16 (x2.length + ([x7] : List (List UInt8)).length)) <| some (x2 ++ ([x7] : List (List UInt8)))) (some x2) : Option (((List (List UInt8))))).bind fun x5 => some (.inl (x5, IntKind.i64.wrap (x3 + (1 : Int))))) (some (.inr x2))
noncomputable def M_boulterref31_Items (p0 : List UInt8) : Option ((List (List UInt8))) :=
 (M_boulterref31_parts p0 (0 : Int)).bind fun x1 => (loop (M_boulterref31_Items_L0 x1) (([] : List (List UInt8)), (0 : Int))).bind fun x4 => some x4
theorem ok_boulterref31_Items {g : Gd} {h : AHeap} {F : List Ck} {p0 : List UInt8} {q0 : List (List UInt8)} {av : List AVal} (hm : M_boulterref31_Items p0 = some q0) (hc : canL (cfg.still 12) av = [.str p0]) (A : HH g h [] F) : ∃ v h', Runs cfg g h 12 av v h' ∧ ∃ (rq0 : Option Nat), v = rowV rq0 q0.length ∧ HH g h' [.lst rq0 9 (lst eS q0)] F := by
  refine runsQ1 (n := 28) (rs := [.tmp 2]) (by kernel_rfl) hc (by kernel_rfl) ?_
  clear hc
  unfold M_boulterref31_Items at hm
  refine start (n := 28) [(0, .str p0)] (by kernel_rfl) (by kernel_rfl) ?_
  intro fr H
  refine aw_seq (by kernel_rfl) ?_
  refine aw_reg (id := 0) (n := 1) [(0, [])] (by kernel_rfl) (by kernel_rfl) ?_
  refine at_seg [(0, [])] [(0, .str p0)] H (noU_all rfl) (fun fr => by kernel_rfl) ?_
  intro fr H
  refine at_nil ?_
  show AW cfg 12 g (right (bodyC cfg.P 12)) fr h _
  refine aw_seq (by kernel_rfl) ?_
  refine aw_reg (id := 1) (n := 2) [(0, []), (1, [])] (by kernel_rfl) (by kernel_rfl) ?_
  obtain ⟨h1, e1⟩ : ∃ x, x = h.push (.cells (some 9) 2 []) := ⟨_, rfl⟩
  replace A := (A.pushL _ _).to e1
  refine at_step (v := rowV (some h.size) (([] : List (List UInt8)).length)) (h1 := h1) [(0, .str p0), (6, rowV (some h.size) (([] : List (List UInt8)).length))] H (fun fr => by kernel_rfl) (fun fr => .of (s_n' (by kernel_rfl) (congrArg some e1.symm))) ?_
  intro fr t H
  refine at_seg [(1, [])] [(0, .str p0), (3, rowV (some h.size) (([] : List (List UInt8)).length))] H (noU_all rfl) (fun fr => by kernel_rfl) ?_
  intro fr H
  refine at_nil ?_
  show AW cfg 12 g (right (right (bodyC cfg.P 12))) fr h1 _
  refine aw_seq (by kernel_rfl) ?_
  refine aw_reg (id := 2) (n := 3) [(0, []), (1, []), (2, [])] (by kernel_rfl) (by kernel_rfl) ?_
  refine at_seg [(0, [])] [(3, rowV (some h.size) (([] : List (List UInt8)).length)), (7, .str p0)] H (noU_all rfl) (fun fr => by kernel_rfl) ?_
  intro fr H
  have A1 := A.cut 0
  obtain ⟨x1, hx, hm⟩ := bind_some hm
  obtain ⟨v1, h2, hr, rqw1, rfl, A1⟩ := ok_boulterref31_parts (av := [.str p0, .int .u8 (0 : Int)]) hx (by kernel_rfl) A1
  replace A : HH g h2 [.lst rqw1 9 (lst eS x1), .lst (some h.size) 9 ([])] F := A.glue0 (n := 0) A1
  refine at_step (v := rowV rqw1 x1.length) (h1 := h2) [(3, rowV (some h.size) (([] : List (List UInt8)).length)), (8, rowV rqw1 x1.length)] H (fun fr => by kernel_rfl) (fun fr => Steps.call (by kernel_rfl) hr) ?_
  intro fr t H
  refine at_seg [(2, [])] [(3, rowV (some h.size) (([] : List (List UInt8)).length)), (4, rowV rqw1 x1.length)] H (noU_all rfl) (fun fr => by kernel_rfl) ?_
  intro fr H
  refine at_nil ?_
  show AW cfg 12 g (right (right (right (bodyC cfg.P 12)))) fr h2 _
  refine aw_seq (by kernel_rfl) ?_
  refine aw_seq (by kernel_rfl) ?_
  refine aw_reg (id := 3) (n := 1) [(0, [])] (by kernel_rfl) (by kernel_rfl) ?_
  refine at_seg [(0, [])] [(3, rowV (some h.size) (([] : List (List UInt8)).length)), (4, rowV rqw1 x1.length), (5, .int .i64 (0 : Int))] H (noU_all rfl) (fun fr => by kernel_rfl) ?_
  intro fr H
  refine at_nil ?_
  show AW cfg 12 g (right (left (right (right (right (bodyC cfg.P 12)))))) fr h2 _
  refine aw_block (id := 0) (by kernel_rfl) ?_
  replace A : HH g h2 [.lst rqw1 9 (lst eS x1), .lst (some h.size) 9 (lst eS ([] : List (List UInt8)))] F := A
  obtain ⟨o1, ho, hm⟩ := bind_some hm
  refine aw_mono (Q' := fun e fr' h' => (∃ (x4 : List (List UInt8)), e = .exit 0 ∧ x4 = o1 ∧ ∃ (r2 : Option Nat), Has fr' 28 [(3, rowV r2 x4.length)] ∧ HH g h' [.lst r2 9 (lst eS x4)] F) ∨ False) ?_ ?_
  · refine aw_loop (by kernel_rfl) (fun (s : (List (List UInt8)) × Int) fr' h' => ∃ (x2 : List (List UInt8)) (x3 : Int), (x2, x3) = s ∧ ∃ (r1 : Option Nat), Has fr' 28 [(3, rowV r1 x2.length), (4, rowV rqw1 x1.length), (5, .int .i64 x3)] ∧ HH g h' [.lst rqw1 9 (lst eS x1), .lst r1 9 (lst eS x2)] F) ho ⟨([] : List (List UInt8)), (0 : Int), rfl, some h.size, H.less _ (fun fr => by kernel_rfl), A⟩ ?_
    clear ho hm H A
    intro s q fr h3 hI hm
    obtain ⟨x2, x3, rfl, r1, H, A⟩ := hI
    unfold M_boulterref31_Items_L0 at hm
    refine aw_seq (by kernel_rfl) ?_
    refine aw_seq (by kernel_rfl) ?_
    refine aw_reg (id := 4) (n := 4) [(0, []), (1, []), (2, []), (3, [])] (by kernel_rfl) (by kernel_rfl) ?_
    refine at_seg [(0, []), (1, []), (2, []), (3, [])] [(3, rowV r1 x2.length), (4, rowV rqw1 x1.length), (5, .int .i64 x3), (12, .bool (decide (x3 < (x1.length : Int))))] H (noU_all rfl) (fun fr => by kernel_rfl) ?_
    intro fr H
    refine at_nil ?_
    show AW cfg 12 g (right (left (left (left (right (left (right (right (right (bodyC cfg.P 12)))))))))) fr h3 _
    rcases iteB_some hm with ⟨hb, hm⟩ | ⟨hb, hm⟩
    · replace H := H.know 12 hb (by kernel_rfl)
      refine aw_true (x := .tmp 12) (by kernel_rfl) H (fun fr => by kernel_rfl) ?_
      refine aw_skip (by kernel_rfl) ?_
      show AW cfg 12 g (right (left (left (right (left (right (right (right (bodyC cfg.P 12))))))))) fr h3 _
      refine aw_seq (by kernel_rfl) ?_
      obtain ⟨o2, ho, hm⟩ := bind_some hm
      refine aw_mono (Q' := fun e fr' h' => (∃ (x5 : List (List UInt8)), e = .normal ∧ x5 = o2 ∧ ∃ (r3 : Option Nat), Has fr' 28 [(3, rowV r3 x5.length), (4, rowV rqw1 x1.length), (5, .int .i64 x3)] ∧ HH g h' [.lst rqw1 9 (lst eS x1), .lst r3 9 (lst eS x5)] F) ∨ False) ?_ ?_
      · replace hm := ho
        clear ho
        refine aw_block (id := 1) (by kernel_rfl) ?_
        refine aw_seq (by kernel_rfl) ?_
        refine aw_reg (id := 6) (n := 5) [(0, []), (1, []), (2, []), (3, []), (4, [])] (by kernel_rfl) (by kernel_rfl) ?_
        refine at_seg [(0, []), (1, [])] [(3, rowV r1 x2.length), (4, rowV rqw1 x1.length), (5, .int .i64 x3), (15, rowV rqw1 x1.length), (16, .int .i64 x3)] H (noU_all rfl) (fun fr => by kernel_rfl) ?_
        intro fr H
        obtain ⟨x6, hx, hm⟩ := bind_some hm
        obtain ⟨i1, er1, _, hx, hq1⟩ := HH.ixO encS (by decide) A 0 (xs := x1) rfl hx
        refine at_step (v := .ptr (some (i1, x3.toNat * 1))) (h1 := h3) [(3, rowV r1 x2.length), (4, rowV rqw1 x1.length), (5, .int .i64 x3), (17, .ptr (some (i1, x3.toNat * 1)))] H (fun fr => by kernel_rfl) (fun fr => .of (s_ixL (s := rowS rqw1 x1.length) (by kernel_rfl) hx)) ?_
        intro fr t H
        refine at_step (v := .str x6) (h1 := h3) [(3, rowV r1 x2.length), (4, rowV rqw1 x1.length), (5, .int .i64 x3), (18, .str x6)] H (fun fr => by kernel_rfl) (fun fr => .of (s_ld (by kernel_rfl) (row_ld1 encS (HH.row A 0 rfl er1) hq1 (o := 0) rfl))) ?_
        intro fr t H
        refine at_seg [(4, [])] [(3, rowV r1 x2.length), (4, rowV rqw1 x1.length), (5, .int .i64 x3), (19, .bool (!(x6 == ([] : List UInt8))))] H (noU_all rfl) (fun fr => by kernel_rfl) ?_
        intro fr H
        refine at_nil ?_
        show AW cfg 12 g (right (left (left (right (left (left (right (left (right (right (right (bodyC cfg.P 12)))))))))))) fr h3 _
        rcases iteB_some hm with ⟨hb, hm⟩ | ⟨hb, hm⟩
        · replace H := H.know 19 hb (by kernel_rfl)
          refine aw_true (x := .tmp 19) (by kernel_rfl) H (fun fr => by kernel_rfl) ?_
          refine aw_reg (id := 7) (n := 8) [(0, []), (1, []), (2, []), (3, []), (4, []), (5, []), (6, []), (7, [])] (by kernel_rfl) (by kernel_rfl) ?_
          refine at_seg [(0, []), (1, []), (2, [])] [(4, rowV rqw1 x1.length), (5, .int .i64 x3), (20, rowV r1 x2.length), (21, rowV rqw1 x1.length), (22, .int .i64 x3)] H (noU_all rfl) (fun fr => by kernel_rfl) ?_
          intro fr H
          obtain ⟨x7, hx, hm⟩ := bind_some hm
          obtain ⟨i2, er2, _, hx, hq2⟩ := HH.ixO encS (by decide) A 0 (xs := x1) rfl hx
          refine at_step (v := .ptr (some (i2, x3.toNat * 1))) (h1 := h3) [(4, rowV rqw1 x1.length), (5, .int .i64 x3), (20, rowV r1 x2.length), (23, .ptr (some (i2, x3.toNat * 1)))] H (fun fr => by kernel_rfl) (fun fr => .of (s_ixL (s := rowS rqw1 x1.length) (by kernel_rfl) hx)) ?_
          intro fr t H
          refine at_step (v := .str x7) (h1 := h3) [(4, rowV rqw1 x1.length), (5, .int .i64 x3), (20, rowV r1 x2.length), (24, .str x7)] H (fun fr => by kernel_rfl) (fun fr => .of (s_ld (by kernel_rfl) (row_ld1 encS (HH.row A 0 rfl er2) hq2 (o := 0) rfl))) ?_
          intro fr t H
          obtain ⟨h4, e2⟩ : ∃ x, x = h3.push (.cells (some 9) 2 [.str x7]) := ⟨_, rfl⟩
          replace A := (A.pushL _ _).to e2
          refine at_step (v := rowV (some h3.size) (([x7] : List (List UInt8)).length)) (h1 := h4) [(4, rowV rqw1 x1.length), (5, .int .i64 x3), (20, rowV r1 x2.length), (25, rowV (some h3.size) (([x7] : List (List UInt8)).length))] H (fun fr => by kernel_rfl) (fun fr => .of (s_n' (by kernel_rfl) (congrArg some e2.symm))) ?_
          intro fr t H
          obtain ⟨hb, hm⟩ := need_some hm
          obtain ⟨r4, h5, hx, A1⟩ := HH.appO encS (by decide) A 2 (xs := x2) (ys := ([x7] : List (List UInt8))) rfl (row_first A 0 rfl (n := ([x7] : List (List UInt8)).length) (z := 1) rfl (by decide)) rfl rfl hb
          replace A : HH g h5 [.lst (some h3.size) 9 ([.str x7]), .lst rqw1 9 (lst eS x1), .lst r4 9 (lst eS (x2 ++ ([x7] : List (List UInt8))))] F := A1
          replace A : HH g h5 [.lst rqw1 9 (lst eS x1), .lst r4 9 (lst eS (x2 ++ ([x7] : List (List UInt8))))] F := (HH.dropF ((A.front 2 rfl).front 2 rfl) 2)
          refine at_step (v := rowV r4 ((x2 ++ ([x7] : List (List UInt8))).length)) (h1 := h5) [(4, rowV rqw1 x1.length), (5, .int .i64 x3), (26, rowV r4 ((x2 ++ ([x7] : List (List UInt8))).length))] H (fun fr => by kernel_rfl) (fun fr => .of (s_app (s := rowS r1 x2.length) (by kernel_rfl) hx)) ?_
          intro fr t H
          refine at_seg [(7, [])] [(3, rowV r4 ((x2 ++ ([x7] : List (List UInt8))).length)), (4, rowV rqw1 x1.length), (5, .int .i64 x3)] H (noU_all rfl) (fun fr => by kernel_rfl) ?_
          intro fr H
          refine at_nil ?_
          exact Or.inl ⟨(x2 ++ ([x7] : List (List UInt8))), rfl, Option.some.inj hm, r4, H.less _ (fun fr => by kernel_rfl), A⟩
        · replace H := H.know 19 hb (by kernel_rfl)
          refine aw_false (x := .tmp 19) (by kernel_rfl) H (fun fr => by kernel_rfl) ?_
          refine aw_skip (by kernel_rfl) ?_
          exact Or.inl ⟨x2, rfl, Option.some.inj hm, r1, H.less _ (fun fr => by kernel_rfl), A⟩
      · clear ho
        clear A
        intro e fr h6 hQ
        rcases hQ with ⟨x5, rfl, rfl, r3, H, A⟩ | hF
        · skip
          show AW cfg 12 g (right (right (left (left (right (left (right (right (right (bodyC cfg.P 12)))))))))) fr h6 _
          refine aw_reg (id := 5) (n := 3) [(0, []), (1, []), (2, [])] (by kernel_rfl) (by kernel_rfl) ?_
          refine at_seg [(0, []), (1, []), (2, [])] [(3, rowV r3 x5.length), (4, rowV rqw1 x1.length), (5, .int .i64 (IntKind.i64.wrap (x3 + (1 : Int))))] H (noU_all rfl) (fun fr => by kernel_rfl) ?_
          intro fr H
          refine at_nil ?_
          exact Exists.intro (x5, IntKind.i64.wrap (x3 + (1 : Int))) (And.intro (Option.some.inj hm).symm ⟨x5, IntKind.i64.wrap (x3 + (1 : Int)), rfl, r3, H.less _ (fun fr => by kernel_rfl), A⟩)
        · exact hF.elim
    · replace H := H.know 12 hb (by kernel_rfl)
      refine aw_false (x := .tmp 12) (by kernel_rfl) H (fun fr => by kernel_rfl) ?_
      refine aw_exit (i := 0) (by kernel_rfl) ?_
      replace A : HH g h3 [.lst r1 9 (lst eS x2)] F := (HH.dropF (A.front 1 rfl) 1)
      exact Exists.intro _ (And.intro (Option.some.inj hm).symm (fun e => Or.inl ⟨x2, rfl, e, r1, H.less _ (fun fr => by kernel_rfl), A⟩))
  · clear ho
    clear A
    intro e fr h7 hQ
    rcases hQ with ⟨x4, rfl, rfl, r2, H, A⟩ | hF
    · skip
      show AW cfg 12 g (right (right (right (right (bodyC cfg.P 12))))) fr h7 _
      refine aw_seq (by kernel_rfl) ?_
      refine aw_reg (id := 8) (n := 2) [(0, []), (1, [])] (by kernel_rfl) (by kernel_rfl) ?_
      refine at_seg [(0, []), (1, [])] [(2, rowV r2 x4.length)] H (noU_all rfl) (fun fr => by kernel_rfl) ?_
      intro fr H
      refine at_nil ?_
      show AW cfg 12 g (right (right (right (right (right (bodyC cfg.P 12)))))) fr h7 _
      refine aw_ret (by kernel_rfl) ?_
      have e1 := Option.some.inj hm
      subst e1
      refine ⟨.inl rfl, rowV r2 x4.length, resH H (fun fr => by kernel_rfl), ?_⟩
      exact ⟨r2, rfl, A⟩
    · exact hF.elim
end Go.Av.L
