/-
  Models of functions, and that the abstract run tells them. Written by lift2.py.
-/
import Derived.Test.YtcmfogjpkkodbaaKCfg
namespace Go.Av.L
open Go.Av Go.Lib
set_option maxRecDepth 10000
set_option linter.unusedVariables false
set_option linter.unusedSimpArgs false
/-! ### boulter/boulterref12.Find -/
noncomputable def M_boulterref12_Find_sOS_L0 (p0 : List S_api_Member) (p1 : List UInt8) (s : Int × Int) : Option ((Int × Int) ⊕ ((Int))) :=
  match s with
  | (x1, x2) => iteB (decide (x2 < (p0.length : Int))) (((ixV p0 x2).bind fun x5 => iteB (x5.Name == p1) (some x2) (some x1) : Option ((Int))).bind fun x4 => some (.inl (x4, IntKind.i64.wrap (x2 + (1 : Int))))) (some (.inr x1))
noncomputable def M_boulterref12_Find_sOS (p0 : List S_api_Member) (p1 : List UInt8) : Option (Int) :=
 (loop (M_boulterref12_Find_sOS_L0 p0 p1) ((-1 : Int), (0 : Int))).bind fun x3 => some x3
theorem ok_boulterref12_Find_sOS {g : Gd} {h : AHeap} {F : List Ck} {p0 : List S_api_Member} {p1 : List UInt8} {rp0 : Option Nat} {q0 : Int} {av : List AVal} (hm : M_boulterref12_Find_sOS p0 p1 = some q0) (hc : canL (cfg.still 53) av = [rowV rp0 p0.length, .str p1]) (A : HH g h [.lst rp0 63 (lst e_S_api_Member p0)] F) : ∃ v h', Runs cfg g h 53 av v h' ∧ v = .int .i64 q0 ∧ HH g h' [.lst rp0 63 (lst e_S_api_Member p0)] F := by
  refine runsQ1 (n := 22) (rs := [.tmp 4]) (by kernel_rfl) hc (by kernel_rfl) ?_
  clear hc
  unfold M_boulterref12_Find_sOS at hm
  refine start (n := 22) [(0, rowV rp0 p0.length), (1, .str p1)] (by kernel_rfl) (by kernel_rfl) ?_
  intro fr H
  refine aw_seq (by kernel_rfl) ?_
  refine aw_reg (id := 0) (n := 1) [(0, [])] (by kernel_rfl) (by kernel_rfl) ?_
  refine at_seg [(0, [])] [(0, rowV rp0 p0.length), (1, .str p1)] H (noU_all rfl) (fun fr => by kernel_rfl) ?_
  intro fr H
  refine at_nil ?_
  show AW cfg 53 g (right (bodyC cfg.P 53)) fr h _
  refine aw_seq (by kernel_rfl) ?_
  refine aw_reg (id := 1) (n := 1) [(0, [])] (by kernel_rfl) (by kernel_rfl) ?_
  refine at_seg [(0, [])] [(0, rowV rp0 p0.length), (1, .str p1), (5, .int .i64 (-1 : Int))] H (noU_all rfl) (fun fr => by kernel_rfl) ?_
  intro fr H
  refine at_nil ?_
  show AW cfg 53 g (right (right (bodyC cfg.P 53))) fr h _
  refine aw_seq (by kernel_rfl) ?_
  refine aw_seq (by kernel_rfl) ?_
  refine aw_reg (id := 2) (n := 1) [(0, [])] (by kernel_rfl) (by kernel_rfl) ?_
  refine at_seg [(0, [])] [(0, rowV rp0 p0.length), (1, .str p1), (5, .int .i64 (-1 : Int)), (6, .int .i64 (0 : Int))] H (noU_all rfl) (fun fr => by kernel_rfl) ?_
  intro fr H
  refine at_nil ?_
  show AW cfg 53 g (right (left (right (right (bodyC cfg.P 53))))) fr h _
  refine aw_block (id := 0) (by kernel_rfl) ?_
  obtain ⟨o1, ho, hm⟩ := bind_some hm
  refine aw_mono (Q' := fun e fr' h' => (∃ (x3 : Int), e = .exit 0 ∧ x3 = o1 ∧ Has fr' 22 [(5, .int .i64 x3)] ∧ HH g h' [.lst rp0 63 (lst e_S_api_Member p0)] F) ∨ False) ?_ ?_
  · refine aw_loop (by kernel_rfl) (fun (s : Int × Int) fr' h' => ∃ (x1 : Int) (x2 : Int), (x1, x2) = s ∧ Has fr' 22 [(0, rowV rp0 p0.length), (1, .str p1), (5, .int .i64 x1), (6, .int .i64 x2)] ∧ HH g h' [.lst rp0 63 (lst e_S_api_Member p0)] F) ho ⟨(-1 : Int), (0 : Int), rfl, H.less _ (fun fr => by kernel_rfl), A⟩ ?_
    clear ho hm H A
    intro s q fr h1 hI hm
    obtain ⟨x1, x2, rfl, H, A⟩ := hI
    unfold M_boulterref12_Find_sOS_L0 at hm
    refine aw_seq (by kernel_rfl) ?_
    refine aw_seq (by kernel_rfl) ?_
    refine aw_reg (id := 3) (n := 4) [(0, []), (1, []), (2, []), (3, [])] (by kernel_rfl) (by kernel_rfl) ?_
    refine at_seg [(0, []), (1, []), (2, []), (3, [])] [(0, rowV rp0 p0.length), (1, .str p1), (5, .int .i64 x1), (6, .int .i64 x2), (10, .bool (decide (x2 < (p0.length : Int))))] H (noU_all rfl) (fun fr => by kernel_rfl) ?_
    intro fr H
    refine at_nil ?_
    show AW cfg 53 g (right (left (left (left (right (left (right (right (bodyC cfg.P 53))))))))) fr h1 _
    rcases iteB_some hm with ⟨hb, hm⟩ | ⟨hb, hm⟩
    · replace H := H.know 10 hb (by kernel_rfl)
      refine aw_true (x := .tmp 10) (by kernel_rfl) H (fun fr => by kernel_rfl) ?_
      refine aw_skip (by kernel_rfl) ?_
      show AW cfg 53 g (right (left (left (right (left (right (right (bodyC cfg.P 53)))))))) fr h1 _
      refine aw_seq (by kernel_rfl) ?_
      obtain ⟨o2, ho, hm⟩ := bind_some hm
      refine aw_mono (Q' := fun e fr' h' => (∃ (x4 : Int), e = .normal ∧ x4 = o2 ∧ Has fr' 22 [(0, rowV rp0 p0.length), (1, .str p1), (5, .int .i64 x4), (6, .int .i64 x2)] ∧ HH g h' [.lst rp0 63 (lst e_S_api_Member p0)] F) ∨ False) ?_ ?_
      · replace hm := ho
        clear ho
        refine aw_block (id := 1) (by kernel_rfl) ?_
        refine aw_seq (by kernel_rfl) ?_
        refine aw_reg (id := 5) (n := 7) [(0, []), (1, []), (2, []), (3, []), (4, []), (5, []), (6, [])] (by kernel_rfl) (by kernel_rfl) ?_
        refine at_seg [(0, []), (1, [])] [(0, rowV rp0 p0.length), (1, .str p1), (5, .int .i64 x1), (6, .int .i64 x2), (13, rowV rp0 p0.length), (14, .int .i64 x2)] H (noU_all rfl) (fun fr => by kernel_rfl) ?_
        intro fr H
        obtain ⟨x5, hx, hm⟩ := bind_some hm
        obtain ⟨i1, er1, _, hx, hq1⟩ := HH.ixO enc_S_api_Member (by decide) A 0 (xs := p0) rfl hx
        refine at_step (v := .ptr (some (i1, x2.toNat * 14))) (h1 := h1) [(0, rowV rp0 p0.length), (1, .str p1), (5, .int .i64 x1), (6, .int .i64 x2), (15, .ptr (some (i1, x2.toNat * 14)))] H (fun fr => by kernel_rfl) (fun fr => .of (s_ixL (s := rowS rp0 p0.length) (by kernel_rfl) hx)) ?_
        intro fr t H
        refine at_seg [(3, [])] [(0, rowV rp0 p0.length), (1, .str p1), (5, .int .i64 x1), (6, .int .i64 x2), (16, .ptr (some (i1, x2.toNat * 14)))] H (noU_all rfl) (fun fr => by kernel_rfl) ?_
        intro fr H
        refine at_step (v := .str x5.Name) (h1 := h1) [(0, rowV rp0 p0.length), (1, .str p1), (5, .int .i64 x1), (6, .int .i64 x2), (17, .str x5.Name)] H (fun fr => by kernel_rfl) (fun fr => .of (s_ld (by kernel_rfl) (row_ld1 enc_S_api_Member (HH.row A 0 rfl er1) hq1 (o := 0) rfl))) ?_
        intro fr t H
        refine at_seg [(5, []), (6, [])] [(0, rowV rp0 p0.length), (1, .str p1), (5, .int .i64 x1), (6, .int .i64 x2), (19, .bool (x5.Name == p1))] H (noU_all rfl) (fun fr => by kernel_rfl) ?_
        intro fr H
        refine at_nil ?_
        show AW cfg 53 g (right (left (left (right (left (left (right (left (right (right (bodyC cfg.P 53))))))))))) fr h1 _
        rcases iteB_some hm with ⟨hb, hm⟩ | ⟨hb, hm⟩
        · replace H := H.know 19 hb (by kernel_rfl)
          refine aw_true (x := .tmp 19) (by kernel_rfl) H (fun fr => by kernel_rfl) ?_
          refine aw_reg (id := 6) (n := 2) [(0, []), (1, [])] (by kernel_rfl) (by kernel_rfl) ?_
          refine at_seg [(0, []), (1, [])] [(0, rowV rp0 p0.length), (1, .str p1), (5, .int .i64 x2), (6, .int .i64 x2)] H (noU_all rfl) (fun fr => by kernel_rfl) ?_
          intro fr H
          refine at_nil ?_
          exact Or.inl ⟨x2, rfl, Option.some.inj hm, H.less _ (fun fr => by kernel_rfl), A⟩
        · replace H := H.know 19 hb (by kernel_rfl)
          refine aw_false (x := .tmp 19) (by kernel_rfl) H (fun fr => by kernel_rfl) ?_
          refine aw_skip (by kernel_rfl) ?_
          exact Or.inl ⟨x1, rfl, Option.some.inj hm, H.less _ (fun fr => by kernel_rfl), A⟩
      · clear ho
        clear A
        intro e fr h2 hQ
        rcases hQ with ⟨x4, rfl, rfl, H, A⟩ | hF
        · skip
          show AW cfg 53 g (right (right (left (left (right (left (right (right (bodyC cfg.P 53))))))))) fr h2 _
          refine aw_reg (id := 4) (n := 3) [(0, []), (1, []), (2, [])] (by kernel_rfl) (by kernel_rfl) ?_
          refine at_seg [(0, []), (1, []), (2, [])] [(0, rowV rp0 p0.length), (1, .str p1), (5, .int .i64 x4), (6, .int .i64 (IntKind.i64.wrap (x2 + (1 : Int))))] H (noU_all rfl) (fun fr => by kernel_rfl) ?_
          intro fr H
          refine at_nil ?_
          exact Exists.intro (x4, IntKind.i64.wrap (x2 + (1 : Int))) (And.intro (Option.some.inj hm).symm ⟨x4, IntKind.i64.wrap (x2 + (1 : Int)), rfl, H.less _ (fun fr => by kernel_rfl), A⟩)
        · exact hF.elim
    · replace H := H.know 10 hb (by kernel_rfl)
      refine aw_false (x := .tmp 10) (by kernel_rfl) H (fun fr => by kernel_rfl) ?_
      refine aw_exit (i := 0) (by kernel_rfl) ?_
      exact Exists.intro _ (And.intro (Option.some.inj hm).symm (fun e => Or.inl ⟨x1, rfl, e, H.less _ (fun fr => by kernel_rfl), A⟩))
  · clear ho
    clear A
    intro e fr h3 hQ
    rcases hQ with ⟨x3, rfl, rfl, H, A⟩ | hF
    · skip
      show AW cfg 53 g (right (right (right (bodyC cfg.P 53)))) fr h3 _
      refine aw_seq (by kernel_rfl) ?_
      refine aw_reg (id := 7) (n := 2) [(0, []), (1, [])] (by kernel_rfl) (by kernel_rfl) ?_
      refine at_seg [(0, []), (1, [])] [(4, .int .i64 x3)] H (noU_all rfl) (fun fr => by kernel_rfl) ?_
      intro fr H
      refine at_nil ?_
      show AW cfg 53 g (right (right (right (right (bodyC cfg.P 53))))) fr h3 _
      refine aw_ret (by kernel_rfl) ?_
      have e1 := Option.some.inj hm
      subst e1
      refine ⟨.inl rfl, .int .i64 x3, resH H (fun fr => by kernel_rfl), ?_⟩
      exact ⟨rfl, A⟩
    · exact hF.elim
/-! ### boulter/boulterref38.put -/
noncomputable def M_boulterref38_put_sOS_L0 (p0 : List (List UInt8)) (p1 : List UInt8) (s : (List (List UInt8)) × Bool × Int) : Option (((List (List UInt8)) × Bool × Int) ⊕ (((List (List UInt8)) × Bool))) :=
  match s with
  | (x1, x2, x3) => iteB (decide (x3 < (p0.length : Int))) (((iteB (!x2) ((ixV p0 x3).bind fun x9 => some (Op.bytesLess p1 x9)) (some false) : Option (Bool)).bind fun x8 => iteB x8 (need (okN 16 (x1.length + ([p1] : List (List UInt8)).length)) <| some ((x1 ++ ([p1] : List (List UInt8))), true)) (some (x1, x2)) : Option (((List (List UInt8)) × Bool))).bind fun (x6, x7) => (ixV p0 x3).bind fun x10 => need (okN 16 (x6.length + ([x10] : List (List UInt8)).length)) <| some (.inl ((x6 ++ ([x10] : List (List UInt8))), x7, IntKind.i64.wrap (x3 + (1 : Int))))) (some (.inr (x1, x2)))
noncomputable def M_boulterref38_put_sOS (p0 : List (List UInt8)) (p1 : List UInt8) : Option ((List (List UInt8))) :=
 (loop (M_boulterref38_put_sOS_L0 p0 p1) (([] : List (List UInt8)), false, (0 : Int))).bind fun (x4, x5) => (iteB (!x5) (need (okN 16 (x4.length + ([p1] : List (List UInt8)).length)) <| some (x4 ++ ([p1] : List (List UInt8)))) (some x4) : Option (((List (List UInt8))))).bind fun x11 => some x11
theorem ok_boulterref38_put_sOS {g : Gd} {h : AHeap} {F : List Ck} {p0 : List (List UInt8)} {p1 : List UInt8} {rp0 : Option Nat} {q0 : List (List UInt8)} {av : List AVal} (hm : M_boulterref38_put_sOS p0 p1 = some q0) (hc : canL (cfg.still 54) av = [rowV rp0 p0.length, .str p1]) (A : HH g h [.lst rp0 9 (lst eS p0)] F) : ∃ v h', Runs cfg g h 54 av v h' ∧ ∃ (rq0 : Option Nat), v = rowV rq0 q0.length ∧ HH g h' [.lst rq0 9 (lst eS q0), .lst rp0 9 (lst eS p0)] F := by
  refine runsQ1 (n := 43) (rs := [.tmp 4]) (by kernel_rfl) hc (by kernel_rfl) ?_
  clear hc
  unfold M_boulterref38_put_sOS at hm
  refine start (n := 43) [(0, rowV rp0 p0.length), (1, .str p1)] (by kernel_rfl) (by kernel_rfl) ?_
  intro fr H
  refine aw_seq (by kernel_rfl) ?_
  refine aw_reg (id := 0) (n := 1) [(0, [])] (by kernel_rfl) (by kernel_rfl) ?_
  refine at_seg [(0, [])] [(0, rowV rp0 p0.length), (1, .str p1)] H (noU_all rfl) (fun fr => by kernel_rfl) ?_
  intro fr H
  refine at_nil ?_
  show AW cfg 54 g (right (bodyC cfg.P 54)) fr h _
  refine aw_seq (by kernel_rfl) ?_
  refine aw_reg (id := 1) (n := 2) [(0, []), (1, [])] (by kernel_rfl) (by kernel_rfl) ?_
  obtain ⟨h1, e1⟩ : ∃ x, x = h.push (.cells (some 9) 2 []) := ⟨_, rfl⟩
  replace A := (A.pushL _ _).to e1
  refine at_step (v := rowV (some h.size) (([] : List (List UInt8)).length)) (h1 := h1) [(0, rowV rp0 p0.length), (1, .str p1), (8, rowV (some h.size) (([] : List (List UInt8)).length))] H (fun fr => by kernel_rfl) (fun fr => .of (s_n' (by kernel_rfl) (congrArg some e1.symm))) ?_
  intro fr t H
  refine at_seg [(1, [])] [(0, rowV rp0 p0.length), (1, .str p1), (5, rowV (some h.size) (([] : List (List UInt8)).length))] H (noU_all rfl) (fun fr => by kernel_rfl) ?_
  intro fr H
  refine at_nil ?_
  show AW cfg 54 g (right (right (bodyC cfg.P 54))) fr h1 _
  refine aw_seq (by kernel_rfl) ?_
  refine aw_reg (id := 2) (n := 1) [(0, [])] (by kernel_rfl) (by kernel_rfl) ?_
  refine at_seg [(0, [])] [(0, rowV rp0 p0.length), (1, .str p1), (5, rowV (some h.size) (([] : List (List UInt8)).length)), (6, .bool false)] H (noU_all rfl) (fun fr => by kernel_rfl) ?_
  intro fr H
  refine at_nil ?_
  show AW cfg 54 g (right (right (right (bodyC cfg.P 54)))) fr h1 _
  refine aw_seq (by kernel_rfl) ?_
  refine aw_seq (by kernel_rfl) ?_
  refine aw_reg (id := 3) (n := 1) [(0, [])] (by kernel_rfl) (by kernel_rfl) ?_
  refine at_seg [(0, [])] [(0, rowV rp0 p0.length), (1, .str p1), (5, rowV (some h.size) (([] : List (List UInt8)).length)), (6, .bool false), (7, .int .i64 (0 : Int))] H (noU_all rfl) (fun fr => by kernel_rfl) ?_
  intro fr H
  refine at_nil ?_
  show AW cfg 54 g (right (left (right (right (right (bodyC cfg.P 54)))))) fr h1 _
  refine aw_block (id := 0) (by kernel_rfl) ?_
  replace A : HH g h1 [.lst (some h.size) 9 (lst eS ([] : List (List UInt8))), .lst rp0 9 (lst eS p0)] F := A
  obtain ⟨o1, ho, hm⟩ := bind_some hm
  refine aw_mono (Q' := fun e fr' h' => (∃ (x4 : List (List UInt8)) (x5 : Bool), e = .exit 0 ∧ (x4, x5) = o1 ∧ ∃ (r2 : Option Nat), Has fr' 43 [(1, .str p1), (5, rowV r2 x4.length), (6, .bool x5)] ∧ HH g h' [.lst r2 9 (lst eS x4), .lst rp0 9 (lst eS p0)] F) ∨ False) ?_ ?_
  · refine aw_loop (by kernel_rfl) (fun (s : (List (List UInt8)) × Bool × Int) fr' h' => ∃ (x1 : List (List UInt8)) (x2 : Bool) (x3 : Int), (x1, x2, x3) = s ∧ ∃ (r1 : Option Nat), Has fr' 43 [(0, rowV rp0 p0.length), (1, .str p1), (5, rowV r1 x1.length), (6, .bool x2), (7, .int .i64 x3)] ∧ HH g h' [.lst r1 9 (lst eS x1), .lst rp0 9 (lst eS p0)] F) ho ⟨([] : List (List UInt8)), false, (0 : Int), rfl, some h.size, H.less _ (fun fr => by kernel_rfl), A⟩ ?_
    clear ho hm H A
    intro s q fr h2 hI hm
    obtain ⟨x1, x2, x3, rfl, r1, H, A⟩ := hI
    unfold M_boulterref38_put_sOS_L0 at hm
    refine aw_seq (by kernel_rfl) ?_
    refine aw_seq (by kernel_rfl) ?_
    refine aw_reg (id := 4) (n := 4) [(0, []), (1, []), (2, []), (3, [])] (by kernel_rfl) (by kernel_rfl) ?_
    refine at_seg [(0, []), (1, []), (2, []), (3, [])] [(0, rowV rp0 p0.length), (1, .str p1), (5, rowV r1 x1.length), (6, .bool x2), (7, .int .i64 x3), (12, .bool (decide (x3 < (p0.length : Int))))] H (noU_all rfl) (fun fr => by kernel_rfl) ?_
    intro fr H
    refine at_nil ?_
    show AW cfg 54 g (right (left (left (left (right (left (right (right (right (bodyC cfg.P 54)))))))))) fr h2 _
    rcases iteB_some hm with ⟨hb, hm⟩ | ⟨hb, hm⟩
    · replace H := H.know 12 hb (by kernel_rfl)
      refine aw_true (x := .tmp 12) (by kernel_rfl) H (fun fr => by kernel_rfl) ?_
      refine aw_skip (by kernel_rfl) ?_
      show AW cfg 54 g (right (left (left (right (left (right (right (right (bodyC cfg.P 54))))))))) fr h2 _
      refine aw_seq (by kernel_rfl) ?_
      refine aw_block (id := 1) (by kernel_rfl) ?_
      refine aw_seq (by kernel_rfl) ?_
      obtain ⟨o2, ho, hm⟩ := bind_some hm
      refine aw_mono (Q' := fun e fr' h' => (∃ (x6 : List (List UInt8)) (x7 : Bool), e = .normal ∧ (x6, x7) = o2 ∧ ∃ (r3 : Option Nat), Has fr' 43 [(0, rowV rp0 p0.length), (1, .str p1), (5, rowV r3 x6.length), (6, .bool x7), (7, .int .i64 x3)] ∧ HH g h' [.lst r3 9 (lst eS x6), .lst rp0 9 (lst eS p0)] F) ∨ False) ?_ ?_
      · replace hm := ho
        clear ho
        refine aw_seq (by kernel_rfl) ?_
        refine aw_reg (id := 6) (n := 10) [(0, []), (1, []), (2, []), (3, []), (4, []), (5, []), (6, []), (7, []), (8, []), (9, [])] (by kernel_rfl) (by kernel_rfl) ?_
        refine at_seg [(0, []), (1, []), (2, [])] [(0, rowV rp0 p0.length), (1, .str p1), (5, rowV r1 x1.length), (6, .bool x2), (7, .int .i64 x3), (17, .bool (!x2))] H (noU_all rfl) (fun fr => by kernel_rfl) ?_
        intro fr H
        obtain ⟨x8, ho, hm⟩ := bind_some hm
        refine at_cut [(3, []), (4, []), (5, []), (6, []), (7, []), (8, []), (9, [])] (fun fr' h' => Has fr' 43 [(0, rowV rp0 p0.length), (1, .str p1), (5, rowV r1 x1.length), (6, .bool x2), (7, .int .i64 x3), (24, .bool x8)] ∧ HH g h' [.lst r1 9 (lst eS x1), .lst rp0 9 (lst eS p0)] F) ?_ ?_
        · rcases iteB_some ho with ⟨hb, hm⟩ | ⟨hb, hm⟩
          · replace H := H.know 17 hb (by kernel_rfl)
            refine at_seg [(3, []), (4, []), (5, [])] [(0, rowV rp0 p0.length), (1, .str p1), (5, rowV r1 x1.length), (6, .bool x2), (7, .int .i64 x3), (17, .bool true), (18, .str p1), (19, rowV rp0 p0.length), (20, .int .i64 x3)] H (noU_all rfl) (fun fr => by kernel_rfl) ?_
            intro fr H
            obtain ⟨x9, hx, hm⟩ := bind_some hm
            obtain ⟨i1, er1, _, hx, hq1⟩ := HH.ixO encS (by decide) A 1 (xs := p0) rfl hx
            refine at_step (v := .ptr (some (i1, x3.toNat * 1))) (h1 := h2) [(0, rowV rp0 p0.length), (1, .str p1), (5, rowV r1 x1.length), (6, .bool x2), (7, .int .i64 x3), (17, .bool true), (18, .str p1), (21, .ptr (some (i1, x3.toNat * 1)))] H (fun fr => by kernel_rfl) (fun fr => .of (s_ixL (s := rowS rp0 p0.length) (by kernel_rfl) hx)) ?_
            intro fr t H
            refine at_step (v := .str x9) (h1 := h2) [(0, rowV rp0 p0.length), (1, .str p1), (5, rowV r1 x1.length), (6, .bool x2), (7, .int .i64 x3), (17, .bool true), (18, .str p1), (22, .str x9)] H (fun fr => by kernel_rfl) (fun fr => .of (s_ld (by kernel_rfl) (row_ld1 encS (HH.row A 1 rfl er1) hq1 (o := 0) rfl))) ?_
            intro fr t H
            refine at_seg [(8, []), (9, [])] [(0, rowV rp0 p0.length), (1, .str p1), (5, rowV r1 x1.length), (6, .bool x2), (7, .int .i64 x3), (24, .bool (Op.bytesLess p1 x9))] H (noU_all rfl) (fun fr => by kernel_rfl) ?_
            intro fr H
            have e1 := Option.some.inj hm
            subst e1
            exact at_nil ⟨H.less _ (fun fr => by kernel_rfl), A⟩
          · replace H := H.know 17 hb (by kernel_rfl)
            refine at_seg [(3, []), (4, []), (5, []), (6, []), (7, []), (8, []), (9, [])] [(0, rowV rp0 p0.length), (1, .str p1), (5, rowV r1 x1.length), (6, .bool x2), (7, .int .i64 x3), (24, .bool false)] H (noU_all rfl) (fun fr => by kernel_rfl) ?_
            intro fr H
            have e1 := Option.some.inj hm
            subst e1
            exact at_nil ⟨H.less _ (fun fr => by kernel_rfl), A⟩
        · clear A
          intro t fr h3 hK
          obtain ⟨H, A⟩ := hK
          refine at_nil ?_
          show AW cfg 54 g (right (left (left (left (right (left (left (right (left (right (right (right (bodyC cfg.P 54))))))))))))) fr h3 _
          rcases iteB_some hm with ⟨hb, hm⟩ | ⟨hb, hm⟩
          · replace H := H.know 24 hb (by kernel_rfl)
            refine aw_true (x := .tmp 24) (by kernel_rfl) H (fun fr => by kernel_rfl) ?_
            refine aw_seq (by kernel_rfl) ?_
            refine aw_reg (id := 7) (n := 5) [(0, []), (1, []), (2, []), (3, []), (4, [])] (by kernel_rfl) (by kernel_rfl) ?_
            refine at_seg [(0, []), (1, [])] [(0, rowV rp0 p0.length), (1, .str p1), (7, .int .i64 x3), (25, rowV r1 x1.length), (26, .str p1)] H (noU_all rfl) (fun fr => by kernel_rfl) ?_
            intro fr H
            obtain ⟨h4, e2⟩ : ∃ x, x = h3.push (.cells (some 9) 2 [.str p1]) := ⟨_, rfl⟩
            replace A := (A.pushL _ _).to e2
            refine at_step (v := rowV (some h3.size) (([p1] : List (List UInt8)).length)) (h1 := h4) [(0, rowV rp0 p0.length), (1, .str p1), (7, .int .i64 x3), (25, rowV r1 x1.length), (27, rowV (some h3.size) (([p1] : List (List UInt8)).length))] H (fun fr => by kernel_rfl) (fun fr => .of (s_n' (by kernel_rfl) (congrArg some e2.symm))) ?_
            intro fr t H
            obtain ⟨hb, hm⟩ := need_some hm
            obtain ⟨r4, h5, hx, A1⟩ := HH.appO encS (by decide) A 1 (xs := x1) (ys := ([p1] : List (List UInt8))) rfl (row_first A 0 rfl (n := ([p1] : List (List UInt8)).length) (z := 1) rfl (by decide)) rfl rfl hb
            replace A : HH g h5 [.lst (some h3.size) 9 ([.str p1]), .lst r4 9 (lst eS (x1 ++ ([p1] : List (List UInt8)))), .lst rp0 9 (lst eS p0)] F := A1
            replace A : HH g h5 [.lst r4 9 (lst eS (x1 ++ ([p1] : List (List UInt8)))), .lst rp0 9 (lst eS p0)] F := (HH.dropF ((A.front 2 rfl).front 2 rfl) 2)
            refine at_step (v := rowV r4 ((x1 ++ ([p1] : List (List UInt8))).length)) (h1 := h5) [(0, rowV rp0 p0.length), (1, .str p1), (7, .int .i64 x3), (28, rowV r4 ((x1 ++ ([p1] : List (List UInt8))).length))] H (fun fr => by kernel_rfl) (fun fr => .of (s_app (s := rowS r1 x1.length) (by kernel_rfl) hx)) ?_
            intro fr t H
            refine at_seg [(4, [])] [(0, rowV rp0 p0.length), (1, .str p1), (5, rowV r4 ((x1 ++ ([p1] : List (List UInt8))).length)), (7, .int .i64 x3)] H (noU_all rfl) (fun fr => by kernel_rfl) ?_
            intro fr H
            refine at_nil ?_
            show AW cfg 54 g (right (left (right (left (left (left (right (left (left (right (left (right (right (right (bodyC cfg.P 54))))))))))))))) fr h5 _
            refine aw_reg (id := 8) (n := 1) [(0, [])] (by kernel_rfl) (by kernel_rfl) ?_
            refine at_seg [(0, [])] [(0, rowV rp0 p0.length), (1, .str p1), (5, rowV r4 ((x1 ++ ([p1] : List (List UInt8))).length)), (6, .bool true), (7, .int .i64 x3)] H (noU_all rfl) (fun fr => by kernel_rfl) ?_
            intro fr H
            refine at_nil ?_
            exact Or.inl ⟨(x1 ++ ([p1] : List (List UInt8))), true, rfl, Option.some.inj hm, r4, H.less _ (fun fr => by kernel_rfl), A⟩
          · replace H := H.know 24 hb (by kernel_rfl)
            refine aw_false (x := .tmp 24) (by kernel_rfl) H (fun fr => by kernel_rfl) ?_
            refine aw_skip (by kernel_rfl) ?_
            exact Or.inl ⟨x1, x2, rfl, Option.some.inj hm, r1, H.less _ (fun fr => by kernel_rfl), A⟩
      · clear ho
        clear A
        intro e fr h6 hQ
        rcases hQ with ⟨x6, x7, rfl, rfl, r3, H, A⟩ | hF
        · skip
          show AW cfg 54 g (right (left (left (right (left (left (right (left (right (right (right (bodyC cfg.P 54)))))))))))) fr h6 _
          refine aw_reg (id := 9) (n := 8) [(0, []), (1, []), (2, []), (3, []), (4, []), (5, []), (6, []), (7, [])] (by kernel_rfl) (by kernel_rfl) ?_
          refine at_seg [(0, []), (1, []), (2, [])] [(0, rowV rp0 p0.length), (1, .str p1), (6, .bool x7), (7, .int .i64 x3), (29, rowV r3 x6.length), (30, rowV rp0 p0.length), (31, .int .i64 x3)] H (noU_all rfl) (fun fr => by kernel_rfl) ?_
          intro fr H
          obtain ⟨x10, hx, hm⟩ := bind_some hm
          obtain ⟨i2, er2, _, hx, hq2⟩ := HH.ixO encS (by decide) A 1 (xs := p0) rfl hx
          refine at_step (v := .ptr (some (i2, x3.toNat * 1))) (h1 := h6) [(0, rowV rp0 p0.length), (1, .str p1), (6, .bool x7), (7, .int .i64 x3), (29, rowV r3 x6.length), (32, .ptr (some (i2, x3.toNat * 1)))] H (fun fr => by kernel_rfl) (fun fr => .of (s_ixL (s := rowS rp0 p0.length) (by kernel_rfl) hx)) ?_
          intro fr t H
          refine at_step (v := .str x10) (h1 := h6) [(0, rowV rp0 p0.length), (1, .str p1), (6, .bool x7), (7, .int .i64 x3), (29, rowV r3 x6.length), (33, .str x10)] H (fun fr => by kernel_rfl) (fun fr => .of (s_ld (by kernel_rfl) (row_ld1 encS (HH.row A 1 rfl er2) hq2 (o := 0) rfl))) ?_
          intro fr t H
          obtain ⟨h7, e3⟩ : ∃ x, x = h6.push (.cells (some 9) 2 [.str x10]) := ⟨_, rfl⟩
          replace A := (A.pushL _ _).to e3
          refine at_step (v := rowV (some h6.size) (([x10] : List (List UInt8)).length)) (h1 := h7) [(0, rowV rp0 p0.length), (1, .str p1), (6, .bool x7), (7, .int .i64 x3), (29, rowV r3 x6.length), (34, rowV (some h6.size) (([x10] : List (List UInt8)).length))] H (fun fr => by kernel_rfl) (fun fr => .of (s_n' (by kernel_rfl) (congrArg some e3.symm))) ?_
          intro fr t H
          obtain ⟨hb, hm⟩ := need_some hm
          obtain ⟨r5, h8, hx, A1⟩ := HH.appO encS (by decide) A 1 (xs := x6) (ys := ([x10] : List (List UInt8))) rfl (row_first A 0 rfl (n := ([x10] : List (List UInt8)).length) (z := 1) rfl (by decide)) rfl rfl hb
          replace A : HH g h8 [.lst (some h6.size) 9 ([.str x10]), .lst r5 9 (lst eS (x6 ++ ([x10] : List (List UInt8)))), .lst rp0 9 (lst eS p0)] F := A1
          replace A : HH g h8 [.lst r5 9 (lst eS (x6 ++ ([x10] : List (List UInt8)))), .lst rp0 9 (lst eS p0)] F := (HH.dropF ((A.front 2 rfl).front 2 rfl) 2)
          refine at_step (v := rowV r5 ((x6 ++ ([x10] : List (List UInt8))).length)) (h1 := h8) [(0, rowV rp0 p0.length), (1, .str p1), (6, .bool x7), (7, .int .i64 x3), (35, rowV r5 ((x6 ++ ([x10] : List (List UInt8))).length))] H (fun fr => by kernel_rfl) (fun fr => .of (s_app (s := rowS r3 x6.length) (by kernel_rfl) hx)) ?_
          intro fr t H
          refine at_seg [(7, [])] [(0, rowV rp0 p0.length), (1, .str p1), (5, rowV r5 ((x6 ++ ([x10] : List (List UInt8))).length)), (6, .bool x7), (7, .int .i64 x3)] H (noU_all rfl) (fun fr => by kernel_rfl) ?_
          intro fr H
          refine at_nil ?_
          show AW cfg 54 g (right (right (left (left (right (left (right (right (right (bodyC cfg.P 54)))))))))) fr h8 _
          refine aw_reg (id := 5) (n := 3) [(0, []), (1, []), (2, [])] (by kernel_rfl) (by kernel_rfl) ?_
          refine at_seg [(0, []), (1, []), (2, [])] [(0, rowV rp0 p0.length), (1, .str p1), (5, rowV r5 ((x6 ++ ([x10] : List (List UInt8))).length)), (6, .bool x7), (7, .int .i64 (IntKind.i64.wrap (x3 + (1 : Int))))] H (noU_all rfl) (fun fr => by kernel_rfl) ?_
          intro fr H
          refine at_nil ?_
          exact Exists.intro ((x6 ++ ([x10] : List (List UInt8))), x7, IntKind.i64.wrap (x3 + (1 : Int))) (And.intro (Option.some.inj hm).symm ⟨(x6 ++ ([x10] : List (List UInt8))), x7, IntKind.i64.wrap (x3 + (1 : Int)), rfl, r5, H.less _ (fun fr => by kernel_rfl), A⟩)
        · exact hF.elim
    · replace H := H.know 12 hb (by kernel_rfl)
      refine aw_false (x := .tmp 12) (by kernel_rfl) H (fun fr => by kernel_rfl) ?_
      refine aw_exit (i := 0) (by kernel_rfl) ?_
      exact Exists.intro _ (And.intro (Option.some.inj hm).symm (fun e => Or.inl ⟨x1, x2, rfl, e, r1, H.less _ (fun fr => by kernel_rfl), A⟩))
  · clear ho
    clear A
    intro e fr h9 hQ
    rcases hQ with ⟨x4, x5, rfl, rfl, r2, H, A⟩ | hF
    · skip
      show AW cfg 54 g (right (right (right (right (bodyC cfg.P 54))))) fr h9 _
      refine aw_seq (by kernel_rfl) ?_
      obtain ⟨o3, ho, hm⟩ := bind_some hm
      refine aw_mono (Q' := fun e fr' h' => (∃ (x11 : List (List UInt8)), e = .normal ∧ x11 = o3 ∧ ∃ (r6 : Option Nat), Has fr' 43 [(5, rowV r6 x11.length)] ∧ HH g h' [.lst r6 9 (lst eS x11), .lst rp0 9 (lst eS p0)] F) ∨ False) ?_ ?_
      · replace hm := ho
        clear ho
        refine aw_seq (by kernel_rfl) ?_
        refine aw_reg (id := 10) (n := 2) [(0, []), (1, [])] (by kernel_rfl) (by kernel_rfl) ?_
        refine at_seg [(0, []), (1, [])] [(1, .str p1), (5, rowV r2 x4.length), (37, .bool (!x5))] H (noU_all rfl) (fun fr => by kernel_rfl) ?_
        intro fr H
        refine at_nil ?_
        show AW cfg 54 g (right (left (right (right (right (right (bodyC cfg.P 54))))))) fr h9 _
        rcases iteB_some hm with ⟨hb, hm⟩ | ⟨hb, hm⟩
        · replace H := H.know 37 hb (by kernel_rfl)
          refine aw_true (x := .tmp 37) (by kernel_rfl) H (fun fr => by kernel_rfl) ?_
          refine aw_reg (id := 11) (n := 5) [(0, []), (1, []), (2, []), (3, []), (4, [])] (by kernel_rfl) (by kernel_rfl) ?_
          refine at_seg [(0, []), (1, [])] [(38, rowV r2 x4.length), (39, .str p1)] H (noU_all rfl) (fun fr => by kernel_rfl) ?_
          intro fr H
          obtain ⟨h10, e4⟩ : ∃ x, x = h9.push (.cells (some 9) 2 [.str p1]) := ⟨_, rfl⟩
          replace A := (A.pushL _ _).to e4
          refine at_step (v := rowV (some h9.size) (([p1] : List (List UInt8)).length)) (h1 := h10) [(38, rowV r2 x4.length), (40, rowV (some h9.size) (([p1] : List (List UInt8)).length))] H (fun fr => by kernel_rfl) (fun fr => .of (s_n' (by kernel_rfl) (congrArg some e4.symm))) ?_
          intro fr t H
          obtain ⟨hb, hm⟩ := need_some hm
          obtain ⟨r7, h11, hx, A1⟩ := HH.appO encS (by decide) A 1 (xs := x4) (ys := ([p1] : List (List UInt8))) rfl (row_first A 0 rfl (n := ([p1] : List (List UInt8)).length) (z := 1) rfl (by decide)) rfl rfl hb
          replace A : HH g h11 [.lst (some h9.size) 9 ([.str p1]), .lst r7 9 (lst eS (x4 ++ ([p1] : List (List UInt8)))), .lst rp0 9 (lst eS p0)] F := A1
          replace A : HH g h11 [.lst r7 9 (lst eS (x4 ++ ([p1] : List (List UInt8)))), .lst rp0 9 (lst eS p0)] F := (HH.dropF ((A.front 2 rfl).front 2 rfl) 2)
          refine at_step (v := rowV r7 ((x4 ++ ([p1] : List (List UInt8))).length)) (h1 := h11) [(41, rowV r7 ((x4 ++ ([p1] : List (List UInt8))).length))] H (fun fr => by kernel_rfl) (fun fr => .of (s_app (s := rowS r2 x4.length) (by kernel_rfl) hx)) ?_
          intro fr t H
          refine at_seg [(4, [])] [(5, rowV r7 ((x4 ++ ([p1] : List (List UInt8))).length))] H (noU_all rfl) (fun fr => by kernel_rfl) ?_
          intro fr H
          refine at_nil ?_
          exact Or.inl ⟨(x4 ++ ([p1] : List (List UInt8))), rfl, Option.some.inj hm, r7, H.less _ (fun fr => by kernel_rfl), A⟩
        · replace H := H.know 37 hb (by kernel_rfl)
          refine aw_false (x := .tmp 37) (by kernel_rfl) H (fun fr => by kernel_rfl) ?_
          refine aw_skip (by kernel_rfl) ?_
          exact Or.inl ⟨x4, rfl, Option.some.inj hm, r2, H.less _ (fun fr => by kernel_rfl), A⟩
      · clear ho
        clear A
        intro e fr h12 hQ
        rcases hQ with ⟨x11, rfl, rfl, r6, H, A⟩ | hF
        · skip
          show AW cfg 54 g (right (right (right (right (right (bodyC cfg.P 54)))))) fr h12 _
          refine aw_seq (by kernel_rfl) ?_
          refine aw_reg (id := 12) (n := 2) [(0, []), (1, [])] (by kernel_rfl) (by kernel_rfl) ?_
          refine at_seg [(0, []), (1, [])] [(4, rowV r6 x11.length)] H (noU_all rfl) (fun fr => by kernel_rfl) ?_
          intro fr H
          refine at_nil ?_
          show AW cfg 54 g (right (right (right (right (right (right (bodyC cfg.P 54))))))) fr h12 _
          refine aw_ret (by kernel_rfl) ?_
          have e1 := Option.some.inj hm
          subst e1
          refine ⟨.inl rfl, rowV r6 x11.length, resH H (fun fr => by kernel_rfl), ?_⟩
          exact ⟨r6, rfl, A⟩
        · exact hF.elim
    · exact hF.elim
/-! ### boulter/boulterref06.Same -/
noncomputable def M_boulterref06_Same_L0 (p0 : List S_api_Pair) (p1 : List S_api_Pair) (s : Int) : Option ((Int) ⊕ ((Unit) ⊕ (Bool))) :=
  match s with
  | x1 => iteB (decide (x1 < (p0.length : Int))) ((ixV p0 x1).bind fun x3 => (ixV p1 x1).bind fun x4 => (eqG cfg.P 88 [.str x3.Key, .str x3.Value] [.str x4.Key, .str x4.Value]).bind fun x5 => iteB (!x5) (some (.inr (.inr false))) (some (.inl (IntKind.i64.wrap (x1 + (1 : Int)))))) (some (.inr (.inl ())))
noncomputable def M_boulterref06_Same (p0 : List S_api_Pair) (p1 : List S_api_Pair) : Option (Bool) :=
 iteB ((p0.length : Int) != (p1.length : Int)) (some false) ((loop (M_boulterref06_Same_L0 p0 p1) (0 : Int)).bind fun o1 => (match o1 with | .inl _ => some true | .inr x2 => some x2))
theorem ok_boulterref06_Same {g : Gd} {h : AHeap} {F : List Ck} {p0 : List S_api_Pair} {p1 : List S_api_Pair} {q0 : Bool} {av : List AVal} (hm : M_boulterref06_Same p0 p1 = some q0) (hc : canL (cfg.still 65) av = [vs e_S_api_Pair p0, vs e_S_api_Pair p1]) (A : HH g h [] F) : ∃ v h', Runs cfg g h 65 av v h' ∧ v = .bool q0 ∧ HH g h' [] F := by
  refine runsQ1 (n := 26) (rs := [.tmp 4]) (by kernel_rfl) hc (by kernel_rfl) ?_
  clear hc
  unfold M_boulterref06_Same at hm
  refine start (n := 26) [(0, vs e_S_api_Pair p0), (1, vs e_S_api_Pair p1)] (by kernel_rfl) (by kernel_rfl) ?_
  intro fr H
  refine aw_seq (by kernel_rfl) ?_
  refine aw_reg (id := 0) (n := 1) [(0, [])] (by kernel_rfl) (by kernel_rfl) ?_
  refine at_seg [(0, [])] [(0, vs e_S_api_Pair p0), (1, vs e_S_api_Pair p1)] H (noU_all rfl) (fun fr => by kernel_rfl) ?_
  intro fr H
  refine at_nil ?_
  show AW cfg 65 g (right (bodyC cfg.P 65)) fr h _
  refine aw_seq (by kernel_rfl) ?_
  refine aw_seq (by kernel_rfl) ?_
  refine aw_reg (id := 1) (n := 5) [(0, []), (1, []), (2, []), (3, []), (4, [])] (by kernel_rfl) (by kernel_rfl) ?_
  refine at_seg [(0, []), (1, []), (2, []), (3, []), (4, [])] [(0, vs e_S_api_Pair p0), (1, vs e_S_api_Pair p1), (10, .bool ((p0.length : Int) != (p1.length : Int)))] H (noU_all rfl) (fun fr => by kernel_rfl) ?_
  intro fr H
  refine at_nil ?_
  show AW cfg 65 g (right (left (right (bodyC cfg.P 65)))) fr h _
  rcases iteB_some hm with ⟨hb, hm⟩ | ⟨hb, hm⟩
  · replace H := H.know 10 hb (by kernel_rfl)
    refine aw_true (x := .tmp 10) (by kernel_rfl) H (fun fr => by kernel_rfl) ?_
    refine aw_seq (by kernel_rfl) ?_
    refine aw_reg (id := 2) (n := 1) [(0, [])] (by kernel_rfl) (by kernel_rfl) ?_
    refine at_seg [(0, [])] [(4, .bool false)] H (noU_all rfl) (fun fr => by kernel_rfl) ?_
    intro fr H
    refine at_nil ?_
    show AW cfg 65 g (right (left (right (left (right (bodyC cfg.P 65)))))) fr h _
    refine aw_ret (by kernel_rfl) ?_
    have e1 := Option.some.inj hm
    subst e1
    refine ⟨.inl rfl, .bool false, resH H (fun fr => by kernel_rfl), ?_⟩
    exact ⟨rfl, A⟩
  · replace H := H.know 10 hb (by kernel_rfl)
    refine aw_false (x := .tmp 10) (by kernel_rfl) H (fun fr => by kernel_rfl) ?_
    refine aw_skip (by kernel_rfl) ?_
    show AW cfg 65 g (right (right (bodyC cfg.P 65))) fr h _
    refine aw_seq (by kernel_rfl) ?_
    refine aw_seq (by kernel_rfl) ?_
    refine aw_reg (id := 3) (n := 1) [(0, [])] (by kernel_rfl) (by kernel_rfl) ?_
    refine at_seg [(0, [])] [(0, vs e_S_api_Pair p0), (1, vs e_S_api_Pair p1), (5, .int .i64 (0 : Int))] H (noU_all rfl) (fun fr => by kernel_rfl) ?_
    intro fr H
    refine at_nil ?_
    show AW cfg 65 g (right (left (right (right (bodyC cfg.P 65))))) fr h _
    refine aw_block (id := 0) (by kernel_rfl) ?_
    obtain ⟨o1, ho, hm⟩ := bind_some hm
    refine aw_mono (Q' := fun e fr' h' => (e = .exit 0 ∧ .inl () = o1 ∧ Has fr' 26 [] ∧ HH g h' [] F) ∨ (∃ (x2 : Bool), e = .ret ∧ .inr x2 = o1 ∧ Has fr' 26 [(4, .bool x2)] ∧ HH g h' [] F) ∨ False) ?_ ?_
    · refine aw_loop (by kernel_rfl) (fun (s : Int) fr' h' => ∃ (x1 : Int), x1 = s ∧ Has fr' 26 [(0, vs e_S_api_Pair p0), (1, vs e_S_api_Pair p1), (5, .int .i64 x1)] ∧ HH g h' [] F) ho ⟨(0 : Int), rfl, H.less _ (fun fr => by kernel_rfl), A⟩ ?_
      clear ho hm H A
      intro s q fr h1 hI hm
      obtain ⟨x1, rfl, H, A⟩ := hI
      unfold M_boulterref06_Same_L0 at hm
      refine aw_seq (by kernel_rfl) ?_
      refine aw_seq (by kernel_rfl) ?_
      refine aw_reg (id := 4) (n := 4) [(0, []), (1, []), (2, []), (3, [])] (by kernel_rfl) (by kernel_rfl) ?_
      refine at_seg [(0, []), (1, []), (2, []), (3, [])] [(0, vs e_S_api_Pair p0), (1, vs e_S_api_Pair p1), (5, .int .i64 x1), (14, .bool (decide (x1 < (p0.length : Int))))] H (noU_all rfl) (fun fr => by kernel_rfl) ?_
      intro fr H
      refine at_nil ?_
      show AW cfg 65 g (right (left (left (left (right (left (right (right (bodyC cfg.P 65))))))))) fr h1 _
      rcases iteB_some hm with ⟨hb, hm⟩ | ⟨hb, hm⟩
      · replace H := H.know 14 hb (by kernel_rfl)
        refine aw_true (x := .tmp 14) (by kernel_rfl) H (fun fr => by kernel_rfl) ?_
        refine aw_skip (by kernel_rfl) ?_
        show AW cfg 65 g (right (left (left (right (left (right (right (bodyC cfg.P 65)))))))) fr h1 _
        refine aw_seq (by kernel_rfl) ?_
        refine aw_block (id := 1) (by kernel_rfl) ?_
        refine aw_seq (by kernel_rfl) ?_
        refine aw_draw (id := 6) (n := 9) (by kernel_rfl) [(0, []), (1, []), (2, []), (3, []), (4, []), (5, []), (6, []), (7, []), (8, [])] (by kernel_rfl) ?_
        refine at_seg [(0, []), (1, [])] [(0, vs e_S_api_Pair p0), (1, vs e_S_api_Pair p1), (5, .int .i64 x1), (17, vs e_S_api_Pair p0), (18, .int .i64 x1)] H (noU_all rfl) (fun fr => by kernel_rfl) ?_
        intro fr H
        obtain ⟨x3, hx, hm⟩ := bind_some hm
        refine at_step (v := .vptr [.str x3.Key, .str x3.Value]) (h1 := h1) [(0, vs e_S_api_Pair p0), (1, vs e_S_api_Pair p1), (5, .int .i64 x1), (19, .vptr [.str x3.Key, .str x3.Value])] H (fun fr => by kernel_rfl) (fun fr => .of (s_ixV (e := e_S_api_Pair) (x := x3) enc_S_api_Pair (by decide) (by kernel_rfl) hx)) ?_
        intro fr t H
        refine at_step (v := .agg [.str x3.Key, .str x3.Value]) (h1 := h1) [(0, vs e_S_api_Pair p0), (1, vs e_S_api_Pair p1), (5, .int .i64 x1), (20, .agg [.str x3.Key, .str x3.Value])] H (fun fr => by kernel_rfl) (fun fr => .of (s_lv (by kernel_rfl))) ?_
        intro fr t H
        refine at_seg [(4, []), (5, [])] [(0, vs e_S_api_Pair p0), (1, vs e_S_api_Pair p1), (5, .int .i64 x1), (20, .agg [.str x3.Key, .str x3.Value]), (21, vs e_S_api_Pair p1), (22, .int .i64 x1)] H (noU_all rfl) (fun fr => by kernel_rfl) ?_
        intro fr H
        obtain ⟨x4, hx, hm⟩ := bind_some hm
        refine at_step (v := .vptr [.str x4.Key, .str x4.Value]) (h1 := h1) [(0, vs e_S_api_Pair p0), (1, vs e_S_api_Pair p1), (5, .int .i64 x1), (20, .agg [.str x3.Key, .str x3.Value]), (23, .vptr [.str x4.Key, .str x4.Value])] H (fun fr => by kernel_rfl) (fun fr => .of (s_ixV (e := e_S_api_Pair) (x := x4) enc_S_api_Pair (by decide) (by kernel_rfl) hx)) ?_
        intro fr t H
        refine at_step (v := .agg [.str x4.Key, .str x4.Value]) (h1 := h1) [(0, vs e_S_api_Pair p0), (1, vs e_S_api_Pair p1), (5, .int .i64 x1), (20, .agg [.str x3.Key, .str x3.Value]), (24, .agg [.str x4.Key, .str x4.Value])] H (fun fr => by kernel_rfl) (fun fr => .of (s_lv (by kernel_rfl))) ?_
        intro fr t H
        obtain ⟨x5, hx, hm⟩ := bind_some hm
        refine at_step (v := .bool (!x5)) (h1 := h1) [(0, vs e_S_api_Pair p0), (1, vs e_S_api_Pair p1), (5, .int .i64 x1), (25, .bool (!x5))] H (fun fr => by kernel_rfl) (fun fr => .of (s_neG (by kernel_rfl) hx)) ?_
        intro fr t H
        refine at_nil ?_
        show AW cfg 65 g (right (left (left (right (left (left (right (left (right (right (bodyC cfg.P 65))))))))))) fr h1 _
        rcases iteB_some hm with ⟨hb, hm⟩ | ⟨hb, hm⟩
        · replace H := H.know 25 hb (by kernel_rfl)
          refine aw_true (x := .tmp 25) (by kernel_rfl) H (fun fr => by kernel_rfl) ?_
          refine aw_seq (by kernel_rfl) ?_
          refine aw_reg (id := 7) (n := 1) [(0, [])] (by kernel_rfl) (by kernel_rfl) ?_
          refine at_seg [(0, [])] [(4, .bool false)] H (noU_all rfl) (fun fr => by kernel_rfl) ?_
          intro fr H
          refine at_nil ?_
          show AW cfg 65 g (right (left (right (left (left (right (left (left (right (left (right (right (bodyC cfg.P 65))))))))))))) fr h1 _
          refine aw_ret (by kernel_rfl) ?_
          exact Exists.intro _ (And.intro (Option.some.inj hm).symm (fun e => Or.inr (Or.inl ⟨false, rfl, e, H.less _ (fun fr => by kernel_rfl), A⟩)))
        · replace H := H.know 25 hb (by kernel_rfl)
          refine aw_false (x := .tmp 25) (by kernel_rfl) H (fun fr => by kernel_rfl) ?_
          refine aw_skip (by kernel_rfl) ?_
          show AW cfg 65 g (right (right (left (left (right (left (right (right (bodyC cfg.P 65))))))))) fr h1 _
          refine aw_reg (id := 5) (n := 3) [(0, []), (1, []), (2, [])] (by kernel_rfl) (by kernel_rfl) ?_
          refine at_seg [(0, []), (1, []), (2, [])] [(0, vs e_S_api_Pair p0), (1, vs e_S_api_Pair p1), (5, .int .i64 (IntKind.i64.wrap (x1 + (1 : Int))))] H (noU_all rfl) (fun fr => by kernel_rfl) ?_
          intro fr H
          refine at_nil ?_
          exact Exists.intro (IntKind.i64.wrap (x1 + (1 : Int))) (And.intro (Option.some.inj hm).symm ⟨IntKind.i64.wrap (x1 + (1 : Int)), rfl, H.less _ (fun fr => by kernel_rfl), A⟩)
      · replace H := H.know 14 hb (by kernel_rfl)
        refine aw_false (x := .tmp 14) (by kernel_rfl) H (fun fr => by kernel_rfl) ?_
        refine aw_exit (i := 0) (by kernel_rfl) ?_
        exact Exists.intro _ (And.intro (Option.some.inj hm).symm (fun e => Or.inl ⟨rfl, e, H.less _ (fun fr => by kernel_rfl), A⟩))
    · clear ho
      clear A
      intro e fr h2 hQ
      rcases hQ with ⟨rfl, rfl, H, A⟩ | ⟨x2, rfl, rfl, H, A⟩ | hF
      · skip
        show AW cfg 65 g (right (right (right (bodyC cfg.P 65)))) fr h2 _
        refine aw_seq (by kernel_rfl) ?_
        refine aw_reg (id := 8) (n := 1) [(0, [])] (by kernel_rfl) (by kernel_rfl) ?_
        refine at_seg [(0, [])] [(4, .bool true)] H (noU_all rfl) (fun fr => by kernel_rfl) ?_
        intro fr H
        refine at_nil ?_
        show AW cfg 65 g (right (right (right (right (bodyC cfg.P 65))))) fr h2 _
        refine aw_ret (by kernel_rfl) ?_
        have e1 := Option.some.inj hm
        subst e1
        refine ⟨.inl rfl, .bool true, resH H (fun fr => by kernel_rfl), ?_⟩
        exact ⟨rfl, A⟩
      · skip
        have e1 := Option.some.inj hm
        subst e1
        refine ⟨.inl rfl, .bool x2, resH H (fun fr => by kernel_rfl), ?_⟩
        exact ⟨rfl, A⟩
      · exact hF.elim
/-! ### boulter/boulterref07.Same -/
noncomputable def M_boulterref07_Same (p0 : S_api_Member) (p1 : S_api_Member) : Option (Bool) :=
 (iteB ((((((((((p0.Name == p1.Name) && (p0.Link == p1.Link)) && (p0.Kind == p1.Kind)) && (p0.Mode == p1.Mode)) && (p0.Uid == p1.Uid)) && (p0.Gid == p1.Gid)) && (p0.Uname == p1.Uname)) && (p0.Gname == p1.Gname)) && (p0.Major == p1.Major)) && (p0.Minor == p1.Minor)) ((eqG cfg.P 60 [.int .i64 p0.Time.Sec, .int .i64 p0.Time.Nsec] [.int .i64 p1.Time.Sec, .int .i64 p1.Time.Nsec]).bind fun x2 => some x2) (some false) : Option (Bool)).bind fun x1 => (iteB x1 ((M_boulterref06_Same p0.Extra p1.Extra).bind fun x4 => some x4) (some false) : Option (Bool)).bind fun x3 => some (x3 && (p0.Data == p1.Data))
theorem ok_boulterref07_Same {g : Gd} {h : AHeap} {F : List Ck} {p0 : S_api_Member} {p1 : S_api_Member} {q0 : Bool} {av : List AVal} (hm : M_boulterref07_Same p0 p1 = some q0) (hc : canL (cfg.still 43) av = [.agg (e_S_api_Member p0), .agg (e_S_api_Member p1)]) (A : HH g h [] F) : ∃ v h', Runs cfg g h 43 av v h' ∧ v = .bool q0 ∧ HH g h' [] F := by
  refine runsQ1 (n := 94) (rs := [.tmp 4]) (by kernel_rfl) hc (by kernel_rfl) ?_
  clear hc
  unfold M_boulterref07_Same at hm
  refine start (n := 94) [(0, .agg (e_S_api_Member p0)), (1, .agg (e_S_api_Member p1))] (by kernel_rfl) (by kernel_rfl) ?_
  intro fr H
  refine aw_seq (by kernel_rfl) ?_
  refine aw_reg (id := 0) (n := 3) [(0, []), (1, []), (2, [])] (by kernel_rfl) (by kernel_rfl) ?_
  obtain ⟨h1, e1⟩ : ∃ x, x = h.push (.cells none 2 (e_S_api_Member p0)) := ⟨_, rfl⟩
  replace A := (A.push _).to e1
  refine at_step (v := .ptr (some (h.size, 0))) (h1 := h1) [(1, .agg (e_S_api_Member p1)), (2, .ptr (some (h.size, 0)))] H (fun fr => by kernel_rfl) (fun fr => .of (s_n' (by kernel_rfl) (congrArg some e1.symm))) ?_
  intro fr t H
  obtain ⟨h2, e2⟩ : ∃ x, x = h1.push (.cells none 2 (e_S_api_Member p1)) := ⟨_, rfl⟩
  replace A := (A.push _).to e2
  refine at_step (v := .ptr (some (h1.size, 0))) (h1 := h2) [(2, .ptr (some (h.size, 0))), (3, .ptr (some (h1.size, 0)))] H (fun fr => by kernel_rfl) (fun fr => .of (s_n' (by kernel_rfl) (congrArg some e2.symm))) ?_
  intro fr t H
  refine at_seg [(2, [])] [(2, .ptr (some (h.size, 0))), (3, .ptr (some (h1.size, 0)))] H (noU_all rfl) (fun fr => by kernel_rfl) ?_
  intro fr H
  refine at_nil ?_
  show AW cfg 43 g (right (bodyC cfg.P 43)) fr h2 _
  refine aw_seq (by kernel_rfl) ?_
  refine aw_reg (id := 1) (n := 90) [(0, []), (1, []), (2, []), (3, []), (4, []), (5, []), (6, []), (7, []), (8, []), (9, []), (10, []), (11, []), (12, []), (13, []), (14, []), (15, []), (16, []), (17, []), (18, []), (19, []), (20, []), (21, []), (22, []), (23, []), (24, []), (25, []), (26, []), (27, []), (28, []), (29, []), (30, []), (31, []), (32, []), (33, []), (34, []), (35, []), (36, []), (37, []), (38, []), (39, []), (40, []), (41, []), (42, []), (43, []), (44, []), (45, []), (46, []), (47, []), (48, []), (49, []), (50, []), (51, []), (52, []), (53, []), (54, []), (55, []), (56, []), (57, []), (58, []), (59, []), (60, []), (61, []), (62, []), (63, []), (64, []), (65, []), (66, []), (67, []), (68, []), (69, []), (70, []), (71, []), (72, []), (73, []), (74, []), (75, []), (76, []), (77, []), (78, []), (79, []), (80, []), (81, []), (82, []), (83, []), (84, []), (85, []), (86, []), (87, []), (88, []), (89, [])] (by kernel_rfl) (by kernel_rfl) ?_
  refine at_seg [(0, [])] [(2, .ptr (some (h.size, 0))), (3, .ptr (some (h1.size, 0))), (5, .ptr (some (h.size, 0)))] H (noU_all rfl) (fun fr => by kernel_rfl) ?_
  intro fr H
  refine at_step (v := .str p0.Name) (h1 := h2) [(2, .ptr (some (h.size, 0))), (3, .ptr (some (h1.size, 0))), (6, .str p0.Name)] H (fun fr => by kernel_rfl) (fun fr => .of (s_ld (by kernel_rfl) (A.ld1 1 rfl (o := 0) rfl))) ?_
  intro fr t H
  refine at_seg [(2, [])] [(2, .ptr (some (h.size, 0))), (3, .ptr (some (h1.size, 0))), (6, .str p0.Name), (7, .ptr (some (h1.size, 0)))] H (noU_all rfl) (fun fr => by kernel_rfl) ?_
  intro fr H
  refine at_step (v := .str p1.Name) (h1 := h2) [(2, .ptr (some (h.size, 0))), (3, .ptr (some (h1.size, 0))), (6, .str p0.Name), (8, .str p1.Name)] H (fun fr => by kernel_rfl) (fun fr => .of (s_ld (by kernel_rfl) (A.ld1 0 rfl (o := 0) rfl))) ?_
  intro fr t H
  refine at_seg [(4, []), (5, [])] [(2, .ptr (some (h.size, 0))), (3, .ptr (some (h1.size, 0))), (10, .bool (p0.Name == p1.Name))] H (noU_all rfl) (fun fr => by kernel_rfl) ?_
  intro fr H
  refine at_cut [(6, []), (7, []), (8, []), (9, []), (10, []), (11, [])] (fun fr' h' => h2 = h' ∧ Has fr' 94 [(2, .ptr (some (h.size, 0))), (3, .ptr (some (h1.size, 0))), (16, .bool ((p0.Name == p1.Name) && (p0.Link == p1.Link)))]) ?_ ?_
  · cases hb : (p0.Name == p1.Name : Bool) with
    | true =>
      replace H := H.know 10 hb (by kernel_rfl)
      refine at_seg [(6, [])] [(2, .ptr (some (h.size, 0))), (3, .ptr (some (h1.size, 0))), (10, .bool true), (11, .ptr (some (h.size, 1)))] H (noU_all rfl) (fun fr => by kernel_rfl) ?_
      intro fr H
      refine at_step (v := .str p0.Link) (h1 := h2) [(2, .ptr (some (h.size, 0))), (3, .ptr (some (h1.size, 0))), (10, .bool true), (12, .str p0.Link)] H (fun fr => by kernel_rfl) (fun fr => .of (s_ld (by kernel_rfl) (A.ld1 1 rfl (o := 1) rfl))) ?_
      intro fr t H
      refine at_seg [(8, [])] [(2, .ptr (some (h.size, 0))), (3, .ptr (some (h1.size, 0))), (10, .bool true), (12, .str p0.Link), (13, .ptr (some (h1.size, 1)))] H (noU_all rfl) (fun fr => by kernel_rfl) ?_
      intro fr H
      refine at_step (v := .str p1.Link) (h1 := h2) [(2, .ptr (some (h.size, 0))), (3, .ptr (some (h1.size, 0))), (10, .bool true), (12, .str p0.Link), (14, .str p1.Link)] H (fun fr => by kernel_rfl) (fun fr => .of (s_ld (by kernel_rfl) (A.ld1 0 rfl (o := 1) rfl))) ?_
      intro fr t H
      refine at_seg [(10, []), (11, [])] [(2, .ptr (some (h.size, 0))), (3, .ptr (some (h1.size, 0))), (16, .bool (p0.Link == p1.Link))] H (noU_all rfl) (fun fr => by kernel_rfl) ?_
      intro fr H
      exact at_nil ⟨rfl, by first | exact H.less _ (fun fr => by rfl) | exact H.less _ (fun fr => by rw [hb]; rfl)⟩
    | false =>
      replace H := H.know 10 hb (by kernel_rfl)
      refine at_seg [(6, []), (7, []), (8, []), (9, []), (10, []), (11, [])] [(2, .ptr (some (h.size, 0))), (3, .ptr (some (h1.size, 0))), (16, .bool false)] H (noU_all rfl) (fun fr => by kernel_rfl) ?_
      intro fr H
      exact at_nil ⟨rfl, by first | exact H.less _ (fun fr => by rfl) | exact H.less _ (fun fr => by rw [hb]; rfl)⟩
  · intro t fr h' hK
    obtain ⟨e, H⟩ := hK
    subst e
    refine at_seg [(12, [])] [(2, .ptr (some (h.size, 0))), (3, .ptr (some (h1.size, 0))), (17, .bool ((p0.Name == p1.Name) && (p0.Link == p1.Link)))] H (noU_all rfl) (fun fr => by kernel_rfl) ?_
    intro fr H
    refine at_cut [(13, []), (14, []), (15, []), (16, []), (17, []), (18, [])] (fun fr' h' => h2 = h' ∧ Has fr' 94 [(2, .ptr (some (h.size, 0))), (3, .ptr (some (h1.size, 0))), (23, .bool (((p0.Name == p1.Name) && (p0.Link == p1.Link)) && (p0.Kind == p1.Kind)))]) ?_ ?_
    · cases hb : ((p0.Name == p1.Name) && (p0.Link == p1.Link) : Bool) with
      | true =>
        replace H := H.know 17 hb (by kernel_rfl)
        refine at_seg [(13, [])] [(2, .ptr (some (h.size, 0))), (3, .ptr (some (h1.size, 0))), (17, .bool true), (18, .ptr (some (h.size, 2)))] H (noU_all rfl) (fun fr => by kernel_rfl) ?_
        intro fr H
        refine at_step (v := .int .u8 p0.Kind) (h1 := h2) [(2, .ptr (some (h.size, 0))), (3, .ptr (some (h1.size, 0))), (17, .bool true), (19, .int .u8 p0.Kind)] H (fun fr => by kernel_rfl) (fun fr => .of (s_ld (by kernel_rfl) (A.ld1 1 rfl (o := 2) rfl))) ?_
        intro fr t H
        refine at_seg [(15, [])] [(2, .ptr (some (h.size, 0))), (3, .ptr (some (h1.size, 0))), (17, .bool true), (19, .int .u8 p0.Kind), (20, .ptr (some (h1.size, 2)))] H (noU_all rfl) (fun fr => by kernel_rfl) ?_
        intro fr H
        refine at_step (v := .int .u8 p1.Kind) (h1 := h2) [(2, .ptr (some (h.size, 0))), (3, .ptr (some (h1.size, 0))), (17, .bool true), (19, .int .u8 p0.Kind), (21, .int .u8 p1.Kind)] H (fun fr => by kernel_rfl) (fun fr => .of (s_ld (by kernel_rfl) (A.ld1 0 rfl (o := 2) rfl))) ?_
        intro fr t H
        refine at_seg [(17, []), (18, [])] [(2, .ptr (some (h.size, 0))), (3, .ptr (some (h1.size, 0))), (23, .bool (p0.Kind == p1.Kind))] H (noU_all rfl) (fun fr => by kernel_rfl) ?_
        intro fr H
        exact at_nil ⟨rfl, by first | exact H.less _ (fun fr => by rfl) | exact H.less _ (fun fr => by rw [hb]; rfl)⟩
      | false =>
        replace H := H.know 17 hb (by kernel_rfl)
        refine at_seg [(13, []), (14, []), (15, []), (16, []), (17, []), (18, [])] [(2, .ptr (some (h.size, 0))), (3, .ptr (some (h1.size, 0))), (23, .bool false)] H (noU_all rfl) (fun fr => by kernel_rfl) ?_
        intro fr H
        exact at_nil ⟨rfl, by first | exact H.less _ (fun fr => by rfl) | exact H.less _ (fun fr => by rw [hb]; rfl)⟩
    · intro t fr h' hK
      obtain ⟨e, H⟩ := hK
      subst e
      refine at_seg [(19, [])] [(2, .ptr (some (h.size, 0))), (3, .ptr (some (h1.size, 0))), (24, .bool (((p0.Name == p1.Name) && (p0.Link == p1.Link)) && (p0.Kind == p1.Kind)))] H (noU_all rfl) (fun fr => by kernel_rfl) ?_
      intro fr H
      refine at_cut [(20, []), (21, []), (22, []), (23, []), (24, []), (25, [])] (fun fr' h' => h2 = h' ∧ Has fr' 94 [(2, .ptr (some (h.size, 0))), (3, .ptr (some (h1.size, 0))), (30, .bool ((((p0.Name == p1.Name) && (p0.Link == p1.Link)) && (p0.Kind == p1.Kind)) && (p0.Mode == p1.Mode)))]) ?_ ?_
      · cases hb : (((p0.Name == p1.Name) && (p0.Link == p1.Link)) && (p0.Kind == p1.Kind) : Bool) with
        | true =>
          replace H := H.know 24 hb (by kernel_rfl)
          refine at_seg [(20, [])] [(2, .ptr (some (h.size, 0))), (3, .ptr (some (h1.size, 0))), (24, .bool true), (25, .ptr (some (h.size, 3)))] H (noU_all rfl) (fun fr => by kernel_rfl) ?_
          intro fr H
          refine at_step (v := .int .i64 p0.Mode) (h1 := h2) [(2, .ptr (some (h.size, 0))), (3, .ptr (some (h1.size, 0))), (24, .bool true), (26, .int .i64 p0.Mode)] H (fun fr => by kernel_rfl) (fun fr => .of (s_ld (by kernel_rfl) (A.ld1 1 rfl (o := 3) rfl))) ?_
          intro fr t H
          refine at_seg [(22, [])] [(2, .ptr (some (h.size, 0))), (3, .ptr (some (h1.size, 0))), (24, .bool true), (26, .int .i64 p0.Mode), (27, .ptr (some (h1.size, 3)))] H (noU_all rfl) (fun fr => by kernel_rfl) ?_
          intro fr H
          refine at_step (v := .int .i64 p1.Mode) (h1 := h2) [(2, .ptr (some (h.size, 0))), (3, .ptr (some (h1.size, 0))), (24, .bool true), (26, .int .i64 p0.Mode), (28, .int .i64 p1.Mode)] H (fun fr => by kernel_rfl) (fun fr => .of (s_ld (by kernel_rfl) (A.ld1 0 rfl (o := 3) rfl))) ?_
          intro fr t H
          refine at_seg [(24, []), (25, [])] [(2, .ptr (some (h.size, 0))), (3, .ptr (some (h1.size, 0))), (30, .bool (p0.Mode == p1.Mode))] H (noU_all rfl) (fun fr => by kernel_rfl) ?_
          intro fr H
          exact at_nil ⟨rfl, by first | exact H.less _ (fun fr => by rfl) | exact H.less _ (fun fr => by rw [hb]; rfl)⟩
        | false =>
          replace H := H.know 24 hb (by kernel_rfl)
          refine at_seg [(20, []), (21, []), (22, []), (23, []), (24, []), (25, [])] [(2, .ptr (some (h.size, 0))), (3, .ptr (some (h1.size, 0))), (30, .bool false)] H (noU_all rfl) (fun fr => by kernel_rfl) ?_
          intro fr H
          exact at_nil ⟨rfl, by first | exact H.less _ (fun fr => by rfl) | exact H.less _ (fun fr => by rw [hb]; rfl)⟩
      · intro t fr h' hK
        obtain ⟨e, H⟩ := hK
        subst e
        refine at_seg [(26, [])] [(2, .ptr (some (h.size, 0))), (3, .ptr (some (h1.size, 0))), (31, .bool ((((p0.Name == p1.Name) && (p0.Link == p1.Link)) && (p0.Kind == p1.Kind)) && (p0.Mode == p1.Mode)))] H (noU_all rfl) (fun fr => by kernel_rfl) ?_
        intro fr H
        refine at_cut [(27, []), (28, []), (29, []), (30, []), (31, []), (32, [])] (fun fr' h' => h2 = h' ∧ Has fr' 94 [(2, .ptr (some (h.size, 0))), (3, .ptr (some (h1.size, 0))), (37, .bool (((((p0.Name == p1.Name) && (p0.Link == p1.Link)) && (p0.Kind == p1.Kind)) && (p0.Mode == p1.Mode)) && (p0.Uid == p1.Uid)))]) ?_ ?_
        · cases hb : ((((p0.Name == p1.Name) && (p0.Link == p1.Link)) && (p0.Kind == p1.Kind)) && (p0.Mode == p1.Mode) : Bool) with
          | true =>
            replace H := H.know 31 hb (by kernel_rfl)
            refine at_seg [(27, [])] [(2, .ptr (some (h.size, 0))), (3, .ptr (some (h1.size, 0))), (31, .bool true), (32, .ptr (some (h.size, 4)))] H (noU_all rfl) (fun fr => by kernel_rfl) ?_
            intro fr H
            refine at_step (v := .int .i64 p0.Uid) (h1 := h2) [(2, .ptr (some (h.size, 0))), (3, .ptr (some (h1.size, 0))), (31, .bool true), (33, .int .i64 p0.Uid)] H (fun fr => by kernel_rfl) (fun fr => .of (s_ld (by kernel_rfl) (A.ld1 1 rfl (o := 4) rfl))) ?_
            intro fr t H
            refine at_seg [(29, [])] [(2, .ptr (some (h.size, 0))), (3, .ptr (some (h1.size, 0))), (31, .bool true), (33, .int .i64 p0.Uid), (34, .ptr (some (h1.size, 4)))] H (noU_all rfl) (fun fr => by kernel_rfl) ?_
            intro fr H
            refine at_step (v := .int .i64 p1.Uid) (h1 := h2) [(2, .ptr (some (h.size, 0))), (3, .ptr (some (h1.size, 0))), (31, .bool true), (33, .int .i64 p0.Uid), (35, .int .i64 p1.Uid)] H (fun fr => by kernel_rfl) (fun fr => .of (s_ld (by kernel_rfl) (A.ld1 0 rfl (o := 4) rfl))) ?_
            intro fr t H
            refine at_seg [(31, []), (32, [])] [(2, .ptr (some (h.size, 0))), (3, .ptr (some (h1.size, 0))), (37, .bool (p0.Uid == p1.Uid))] H (noU_all rfl) (fun fr => by kernel_rfl) ?_
            intro fr H
            exact at_nil ⟨rfl, by first | exact H.less _ (fun fr => by rfl) | exact H.less _ (fun fr => by rw [hb]; rfl)⟩
          | false =>
            replace H := H.know 31 hb (by kernel_rfl)
            refine at_seg [(27, []), (28, []), (29, []), (30, []), (31, []), (32, [])] [(2, .ptr (some (h.size, 0))), (3, .ptr (some (h1.size, 0))), (37, .bool false)] H (noU_all rfl) (fun fr => by kernel_rfl) ?_
            intro fr H
            exact at_nil ⟨rfl, by first | exact H.less _ (fun fr => by rfl) | exact H.less _ (fun fr => by rw [hb]; rfl)⟩
        · intro t fr h' hK
          obtain ⟨e, H⟩ := hK
          subst e
          refine at_seg [(33, [])] [(2, .ptr (some (h.size, 0))), (3, .ptr (some (h1.size, 0))), (38, .bool (((((p0.Name == p1.Name) && (p0.Link == p1.Link)) && (p0.Kind == p1.Kind)) && (p0.Mode == p1.Mode)) && (p0.Uid == p1.Uid)))] H (noU_all rfl) (fun fr => by kernel_rfl) ?_
          intro fr H
          refine at_cut [(34, []), (35, []), (36, []), (37, []), (38, []), (39, [])] (fun fr' h' => h2 = h' ∧ Has fr' 94 [(2, .ptr (some (h.size, 0))), (3, .ptr (some (h1.size, 0))), (44, .bool ((((((p0.Name == p1.Name) && (p0.Link == p1.Link)) && (p0.Kind == p1.Kind)) && (p0.Mode == p1.Mode)) && (p0.Uid == p1.Uid)) && (p0.Gid == p1.Gid)))]) ?_ ?_
          · cases hb : (((((p0.Name == p1.Name) && (p0.Link == p1.Link)) && (p0.Kind == p1.Kind)) && (p0.Mode == p1.Mode)) && (p0.Uid == p1.Uid) : Bool) with
            | true =>
              replace H := H.know 38 hb (by kernel_rfl)
              refine at_seg [(34, [])] [(2, .ptr (some (h.size, 0))), (3, .ptr (some (h1.size, 0))), (38, .bool true), (39, .ptr (some (h.size, 5)))] H (noU_all rfl) (fun fr => by kernel_rfl) ?_
              intro fr H
              refine at_step (v := .int .i64 p0.Gid) (h1 := h2) [(2, .ptr (some (h.size, 0))), (3, .ptr (some (h1.size, 0))), (38, .bool true), (40, .int .i64 p0.Gid)] H (fun fr => by kernel_rfl) (fun fr => .of (s_ld (by kernel_rfl) (A.ld1 1 rfl (o := 5) rfl))) ?_
              intro fr t H
              refine at_seg [(36, [])] [(2, .ptr (some (h.size, 0))), (3, .ptr (some (h1.size, 0))), (38, .bool true), (40, .int .i64 p0.Gid), (41, .ptr (some (h1.size, 5)))] H (noU_all rfl) (fun fr => by kernel_rfl) ?_
              intro fr H
              refine at_step (v := .int .i64 p1.Gid) (h1 := h2) [(2, .ptr (some (h.size, 0))), (3, .ptr (some (h1.size, 0))), (38, .bool true), (40, .int .i64 p0.Gid), (42, .int .i64 p1.Gid)] H (fun fr => by kernel_rfl) (fun fr => .of (s_ld (by kernel_rfl) (A.ld1 0 rfl (o := 5) rfl))) ?_
              intro fr t H
              refine at_seg [(38, []), (39, [])] [(2, .ptr (some (h.size, 0))), (3, .ptr (some (h1.size, 0))), (44, .bool (p0.Gid == p1.Gid))] H (noU_all rfl) (fun fr => by kernel_rfl) ?_
              intro fr H
              exact at_nil ⟨rfl, by first | exact H.less _ (fun fr => by rfl) | exact H.less _ (fun fr => by rw [hb]; rfl)⟩
            | false =>
              replace H := H.know 38 hb (by kernel_rfl)
              refine at_seg [(34, []), (35, []), (36, []), (37, []), (38, []), (39, [])] [(2, .ptr (some (h.size, 0))), (3, .ptr (some (h1.size, 0))), (44, .bool false)] H (noU_all rfl) (fun fr => by kernel_rfl) ?_
              intro fr H
              exact at_nil ⟨rfl, by first | exact H.less _ (fun fr => by rfl) | exact H.less _ (fun fr => by rw [hb]; rfl)⟩
          · intro t fr h' hK
            obtain ⟨e, H⟩ := hK
            subst e
            refine at_seg [(40, [])] [(2, .ptr (some (h.size, 0))), (3, .ptr (some (h1.size, 0))), (45, .bool ((((((p0.Name == p1.Name) && (p0.Link == p1.Link)) && (p0.Kind == p1.Kind)) && (p0.Mode == p1.Mode)) && (p0.Uid == p1.Uid)) && (p0.Gid == p1.Gid)))] H (noU_all rfl) (fun fr => by kernel_rfl) ?_
            intro fr H
            refine at_cut [(41, []), (42, []), (43, []), (44, []), (45, []), (46, [])] (fun fr' h' => h2 = h' ∧ Has fr' 94 [(2, .ptr (some (h.size, 0))), (3, .ptr (some (h1.size, 0))), (51, .bool (((((((p0.Name == p1.Name) && (p0.Link == p1.Link)) && (p0.Kind == p1.Kind)) && (p0.Mode == p1.Mode)) && (p0.Uid == p1.Uid)) && (p0.Gid == p1.Gid)) && (p0.Uname == p1.Uname)))]) ?_ ?_
            · cases hb : ((((((p0.Name == p1.Name) && (p0.Link == p1.Link)) && (p0.Kind == p1.Kind)) && (p0.Mode == p1.Mode)) && (p0.Uid == p1.Uid)) && (p0.Gid == p1.Gid) : Bool) with
              | true =>
                replace H := H.know 45 hb (by kernel_rfl)
                refine at_seg [(41, [])] [(2, .ptr (some (h.size, 0))), (3, .ptr (some (h1.size, 0))), (45, .bool true), (46, .ptr (some (h.size, 6)))] H (noU_all rfl) (fun fr => by kernel_rfl) ?_
                intro fr H
                refine at_step (v := .str p0.Uname) (h1 := h2) [(2, .ptr (some (h.size, 0))), (3, .ptr (some (h1.size, 0))), (45, .bool true), (47, .str p0.Uname)] H (fun fr => by kernel_rfl) (fun fr => .of (s_ld (by kernel_rfl) (A.ld1 1 rfl (o := 6) rfl))) ?_
                intro fr t H
                refine at_seg [(43, [])] [(2, .ptr (some (h.size, 0))), (3, .ptr (some (h1.size, 0))), (45, .bool true), (47, .str p0.Uname), (48, .ptr (some (h1.size, 6)))] H (noU_all rfl) (fun fr => by kernel_rfl) ?_
                intro fr H
                refine at_step (v := .str p1.Uname) (h1 := h2) [(2, .ptr (some (h.size, 0))), (3, .ptr (some (h1.size, 0))), (45, .bool true), (47, .str p0.Uname), (49, .str p1.Uname)] H (fun fr => by kernel_rfl) (fun fr => .of (s_ld (by kernel_rfl) (A.ld1 0 rfl (o := 6) rfl))) ?_
                intro fr t H
                refine at_seg [(45, []), (46, [])] [(2, .ptr (some (h.size, 0))), (3, .ptr (some (h1.size, 0))), (51, .bool (p0.Uname == p1.Uname))] H (noU_all rfl) (fun fr => by kernel_rfl) ?_
                intro fr H
                exact at_nil ⟨rfl, by first | exact H.less _ (fun fr => by rfl) | exact H.less _ (fun fr => by rw [hb]; rfl)⟩
              | false =>
                replace H := H.know 45 hb (by kernel_rfl)
                refine at_seg [(41, []), (42, []), (43, []), (44, []), (45, []), (46, [])] [(2, .ptr (some (h.size, 0))), (3, .ptr (some (h1.size, 0))), (51, .bool false)] H (noU_all rfl) (fun fr => by kernel_rfl) ?_
                intro fr H
                exact at_nil ⟨rfl, by first | exact H.less _ (fun fr => by rfl) | exact H.less _ (fun fr => by rw [hb]; rfl)⟩
            · intro t fr h' hK
              obtain ⟨e, H⟩ := hK
              subst e
              refine at_seg [(47, [])] [(2, .ptr (some (h.size, 0))), (3, .ptr (some (h1.size, 0))), (52, .bool (((((((p0.Name == p1.Name) && (p0.Link == p1.Link)) && (p0.Kind == p1.Kind)) && (p0.Mode == p1.Mode)) && (p0.Uid == p1.Uid)) && (p0.Gid == p1.Gid)) && (p0.Uname == p1.Uname)))] H (noU_all rfl) (fun fr => by kernel_rfl) ?_
              intro fr H
              refine at_cut [(48, []), (49, []), (50, []), (51, []), (52, []), (53, [])] (fun fr' h' => h2 = h' ∧ Has fr' 94 [(2, .ptr (some (h.size, 0))), (3, .ptr (some (h1.size, 0))), (58, .bool ((((((((p0.Name == p1.Name) && (p0.Link == p1.Link)) && (p0.Kind == p1.Kind)) && (p0.Mode == p1.Mode)) && (p0.Uid == p1.Uid)) && (p0.Gid == p1.Gid)) && (p0.Uname == p1.Uname)) && (p0.Gname == p1.Gname)))]) ?_ ?_
              · cases hb : (((((((p0.Name == p1.Name) && (p0.Link == p1.Link)) && (p0.Kind == p1.Kind)) && (p0.Mode == p1.Mode)) && (p0.Uid == p1.Uid)) && (p0.Gid == p1.Gid)) && (p0.Uname == p1.Uname) : Bool) with
                | true =>
                  replace H := H.know 52 hb (by kernel_rfl)
                  refine at_seg [(48, [])] [(2, .ptr (some (h.size, 0))), (3, .ptr (some (h1.size, 0))), (52, .bool true), (53, .ptr (some (h.size, 7)))] H (noU_all rfl) (fun fr => by kernel_rfl) ?_
                  intro fr H
                  refine at_step (v := .str p0.Gname) (h1 := h2) [(2, .ptr (some (h.size, 0))), (3, .ptr (some (h1.size, 0))), (52, .bool true), (54, .str p0.Gname)] H (fun fr => by kernel_rfl) (fun fr => .of (s_ld (by kernel_rfl) (A.ld1 1 rfl (o := 7) rfl))) ?_
                  intro fr t H
                  refine at_seg [(50, [])] [(2, .ptr (some (h.size, 0))), (3, .ptr (some (h1.size, 0))), (52, .bool true), (54, .str p0.Gname), (55, .ptr (some (h1.size, 7)))] H (noU_all rfl) (fun fr => by kernel_rfl) ?_
                  intro fr H
                  refine at_step (v := .str p1.Gname) (h1 := h2) [(2, .ptr (some (h.size, 0))), (3, .ptr (some (h1.size, 0))), (52, .bool true), (54, .str p0.Gname), (56, .str p1.Gname)] H (fun fr => by kernel_rfl) (fun fr => .of (s_ld (by kernel_rfl) (A.ld1 0 rfl (o := 7) rfl))) ?_
                  intro fr t H
                  refine at_seg [(52, []), (53, [])] [(2, .ptr (some (h.size, 0))), (3, .ptr (some (h1.size, 0))), (58, .bool (p0.Gname == p1.Gname))] H (noU_all rfl) (fun fr => by kernel_rfl) ?_
                  intro fr H
                  exact at_nil ⟨rfl, by first | exact H.less _ (fun fr => by rfl) | exact H.less _ (fun fr => by rw [hb]; rfl)⟩
                | false =>
                  replace H := H.know 52 hb (by kernel_rfl)
                  refine at_seg [(48, []), (49, []), (50, []), (51, []), (52, []), (53, [])] [(2, .ptr (some (h.size, 0))), (3, .ptr (some (h1.size, 0))), (58, .bool false)] H (noU_all rfl) (fun fr => by kernel_rfl) ?_
                  intro fr H
                  exact at_nil ⟨rfl, by first | exact H.less _ (fun fr => by rfl) | exact H.less _ (fun fr => by rw [hb]; rfl)⟩
              · intro t fr h' hK
                obtain ⟨e, H⟩ := hK
                subst e
                refine at_seg [(54, [])] [(2, .ptr (some (h.size, 0))), (3, .ptr (some (h1.size, 0))), (59, .bool ((((((((p0.Name == p1.Name) && (p0.Link == p1.Link)) && (p0.Kind == p1.Kind)) && (p0.Mode == p1.Mode)) && (p0.Uid == p1.Uid)) && (p0.Gid == p1.Gid)) && (p0.Uname == p1.Uname)) && (p0.Gname == p1.Gname)))] H (noU_all rfl) (fun fr => by kernel_rfl) ?_
                intro fr H
                refine at_cut [(55, []), (56, []), (57, []), (58, []), (59, []), (60, [])] (fun fr' h' => h2 = h' ∧ Has fr' 94 [(2, .ptr (some (h.size, 0))), (3, .ptr (some (h1.size, 0))), (65, .bool (((((((((p0.Name == p1.Name) && (p0.Link == p1.Link)) && (p0.Kind == p1.Kind)) && (p0.Mode == p1.Mode)) && (p0.Uid == p1.Uid)) && (p0.Gid == p1.Gid)) && (p0.Uname == p1.Uname)) && (p0.Gname == p1.Gname)) && (p0.Major == p1.Major)))]) ?_ ?_
                · cases hb : ((((((((p0.Name == p1.Name) && (p0.Link == p1.Link)) && (p0.Kind == p1.Kind)) && (p0.Mode == p1.Mode)) && (p0.Uid == p1.Uid)) && (p0.Gid == p1.Gid)) && (p0.Uname == p1.Uname)) && (p0.Gname == p1.Gname) : Bool) with
                  | true =>
                    replace H := H.know 59 hb (by kernel_rfl)
                    refine at_seg [(55, [])] [(2, .ptr (some (h.size, 0))), (3, .ptr (some (h1.size, 0))), (59, .bool true), (60, .ptr (some (h.size, 8)))] H (noU_all rfl) (fun fr => by kernel_rfl) ?_
                    intro fr H
                    refine at_step (v := .int .i64 p0.Major) (h1 := h2) [(2, .ptr (some (h.size, 0))), (3, .ptr (some (h1.size, 0))), (59, .bool true), (61, .int .i64 p0.Major)] H (fun fr => by kernel_rfl) (fun fr => .of (s_ld (by kernel_rfl) (A.ld1 1 rfl (o := 8) rfl))) ?_
                    intro fr t H
                    refine at_seg [(57, [])] [(2, .ptr (some (h.size, 0))), (3, .ptr (some (h1.size, 0))), (59, .bool true), (61, .int .i64 p0.Major), (62, .ptr (some (h1.size, 8)))] H (noU_all rfl) (fun fr => by kernel_rfl) ?_
                    intro fr H
                    refine at_step (v := .int .i64 p1.Major) (h1 := h2) [(2, .ptr (some (h.size, 0))), (3, .ptr (some (h1.size, 0))), (59, .bool true), (61, .int .i64 p0.Major), (63, .int .i64 p1.Major)] H (fun fr => by kernel_rfl) (fun fr => .of (s_ld (by kernel_rfl) (A.ld1 0 rfl (o := 8) rfl))) ?_
                    intro fr t H
                    refine at_seg [(59, []), (60, [])] [(2, .ptr (some (h.size, 0))), (3, .ptr (some (h1.size, 0))), (65, .bool (p0.Major == p1.Major))] H (noU_all rfl) (fun fr => by kernel_rfl) ?_
                    intro fr H
                    exact at_nil ⟨rfl, by first | exact H.less _ (fun fr => by rfl) | exact H.less _ (fun fr => by rw [hb]; rfl)⟩
                  | false =>
                    replace H := H.know 59 hb (by kernel_rfl)
                    refine at_seg [(55, []), (56, []), (57, []), (58, []), (59, []), (60, [])] [(2, .ptr (some (h.size, 0))), (3, .ptr (some (h1.size, 0))), (65, .bool false)] H (noU_all rfl) (fun fr => by kernel_rfl) ?_
                    intro fr H
                    exact at_nil ⟨rfl, by first | exact H.less _ (fun fr => by rfl) | exact H.less _ (fun fr => by rw [hb]; rfl)⟩
                · intro t fr h' hK
                  obtain ⟨e, H⟩ := hK
                  subst e
                  refine at_seg [(61, [])] [(2, .ptr (some (h.size, 0))), (3, .ptr (some (h1.size, 0))), (66, .bool (((((((((p0.Name == p1.Name) && (p0.Link == p1.Link)) && (p0.Kind == p1.Kind)) && (p0.Mode == p1.Mode)) && (p0.Uid == p1.Uid)) && (p0.Gid == p1.Gid)) && (p0.Uname == p1.Uname)) && (p0.Gname == p1.Gname)) && (p0.Major == p1.Major)))] H (noU_all rfl) (fun fr => by kernel_rfl) ?_
                  intro fr H
                  refine at_cut [(62, []), (63, []), (64, []), (65, []), (66, []), (67, [])] (fun fr' h' => h2 = h' ∧ Has fr' 94 [(2, .ptr (some (h.size, 0))), (3, .ptr (some (h1.size, 0))), (72, .bool ((((((((((p0.Name == p1.Name) && (p0.Link == p1.Link)) && (p0.Kind == p1.Kind)) && (p0.Mode == p1.Mode)) && (p0.Uid == p1.Uid)) && (p0.Gid == p1.Gid)) && (p0.Uname == p1.Uname)) && (p0.Gname == p1.Gname)) && (p0.Major == p1.Major)) && (p0.Minor == p1.Minor)))]) ?_ ?_
                  · cases hb : (((((((((p0.Name == p1.Name) && (p0.Link == p1.Link)) && (p0.Kind == p1.Kind)) && (p0.Mode == p1.Mode)) && (p0.Uid == p1.Uid)) && (p0.Gid == p1.Gid)) && (p0.Uname == p1.Uname)) && (p0.Gname == p1.Gname)) && (p0.Major == p1.Major) : Bool) with
                    | true =>
                      replace H := H.know 66 hb (by kernel_rfl)
                      refine at_seg [(62, [])] [(2, .ptr (some (h.size, 0))), (3, .ptr (some (h1.size, 0))), (66, .bool true), (67, .ptr (some (h.size, 9)))] H (noU_all rfl) (fun fr => by kernel_rfl) ?_
                      intro fr H
                      refine at_step (v := .int .i64 p0.Minor) (h1 := h2) [(2, .ptr (some (h.size, 0))), (3, .ptr (some (h1.size, 0))), (66, .bool true), (68, .int .i64 p0.Minor)] H (fun fr => by kernel_rfl) (fun fr => .of (s_ld (by kernel_rfl) (A.ld1 1 rfl (o := 9) rfl))) ?_
                      intro fr t H
                      refine at_seg [(64, [])] [(2, .ptr (some (h.size, 0))), (3, .ptr (some (h1.size, 0))), (66, .bool true), (68, .int .i64 p0.Minor), (69, .ptr (some (h1.size, 9)))] H (noU_all rfl) (fun fr => by kernel_rfl) ?_
                      intro fr H
                      refine at_step (v := .int .i64 p1.Minor) (h1 := h2) [(2, .ptr (some (h.size, 0))), (3, .ptr (some (h1.size, 0))), (66, .bool true), (68, .int .i64 p0.Minor), (70, .int .i64 p1.Minor)] H (fun fr => by kernel_rfl) (fun fr => .of (s_ld (by kernel_rfl) (A.ld1 0 rfl (o := 9) rfl))) ?_
                      intro fr t H
                      refine at_seg [(66, []), (67, [])] [(2, .ptr (some (h.size, 0))), (3, .ptr (some (h1.size, 0))), (72, .bool (p0.Minor == p1.Minor))] H (noU_all rfl) (fun fr => by kernel_rfl) ?_
                      intro fr H
                      exact at_nil ⟨rfl, by first | exact H.less _ (fun fr => by rfl) | exact H.less _ (fun fr => by rw [hb]; rfl)⟩
                    | false =>
                      replace H := H.know 66 hb (by kernel_rfl)
                      refine at_seg [(62, []), (63, []), (64, []), (65, []), (66, []), (67, [])] [(2, .ptr (some (h.size, 0))), (3, .ptr (some (h1.size, 0))), (72, .bool false)] H (noU_all rfl) (fun fr => by kernel_rfl) ?_
                      intro fr H
                      exact at_nil ⟨rfl, by first | exact H.less _ (fun fr => by rfl) | exact H.less _ (fun fr => by rw [hb]; rfl)⟩
                  · intro t fr h' hK
                    obtain ⟨e, H⟩ := hK
                    subst e
                    refine at_seg [(68, [])] [(2, .ptr (some (h.size, 0))), (3, .ptr (some (h1.size, 0))), (73, .bool ((((((((((p0.Name == p1.Name) && (p0.Link == p1.Link)) && (p0.Kind == p1.Kind)) && (p0.Mode == p1.Mode)) && (p0.Uid == p1.Uid)) && (p0.Gid == p1.Gid)) && (p0.Uname == p1.Uname)) && (p0.Gname == p1.Gname)) && (p0.Major == p1.Major)) && (p0.Minor == p1.Minor)))] H (noU_all rfl) (fun fr => by kernel_rfl) ?_
                    intro fr H
                    obtain ⟨x1, ho, hm⟩ := bind_some hm
                    refine at_cut [(69, []), (70, []), (71, []), (72, []), (73, []), (74, [])] (fun fr' h' => Has fr' 94 [(2, .ptr (some (h.size, 0))), (3, .ptr (some (h1.size, 0))), (79, .bool x1)] ∧ HH g h' [.obj h1.size (.cells none 2 (e_S_api_Member p1)), .obj h.size (.cells none 2 (e_S_api_Member p0))] F) ?_ ?_
                    · rcases iteB_some ho with ⟨hb, hm⟩ | ⟨hb, hm⟩
                      · replace H := H.know 73 hb (by kernel_rfl)
                        refine at_seg [(69, [])] [(2, .ptr (some (h.size, 0))), (3, .ptr (some (h1.size, 0))), (73, .bool true), (74, .ptr (some (h.size, 10)))] H (noU_all rfl) (fun fr => by kernel_rfl) ?_
                        intro fr H
                        refine at_step (v := .agg [.int .i64 p0.Time.Sec, .int .i64 p0.Time.Nsec]) (h1 := h2) [(2, .ptr (some (h.size, 0))), (3, .ptr (some (h1.size, 0))), (73, .bool true), (75, .agg [.int .i64 p0.Time.Sec, .int .i64 p0.Time.Nsec])] H (fun fr => by kernel_rfl) (fun fr => .of (s_ldA (by kernel_rfl) (A.ldA 1 rfl (o := 10) (n := 2) ⟨Nat.le_of_ble_eq_true rfl, rfl⟩))) ?_
                        intro fr t H
                        refine at_seg [(71, [])] [(2, .ptr (some (h.size, 0))), (3, .ptr (some (h1.size, 0))), (73, .bool true), (75, .agg [.int .i64 p0.Time.Sec, .int .i64 p0.Time.Nsec]), (76, .ptr (some (h1.size, 10)))] H (noU_all rfl) (fun fr => by kernel_rfl) ?_
                        intro fr H
                        refine at_step (v := .agg [.int .i64 p1.Time.Sec, .int .i64 p1.Time.Nsec]) (h1 := h2) [(2, .ptr (some (h.size, 0))), (3, .ptr (some (h1.size, 0))), (73, .bool true), (75, .agg [.int .i64 p0.Time.Sec, .int .i64 p0.Time.Nsec]), (77, .agg [.int .i64 p1.Time.Sec, .int .i64 p1.Time.Nsec])] H (fun fr => by kernel_rfl) (fun fr => .of (s_ldA (by kernel_rfl) (A.ldA 0 rfl (o := 10) (n := 2) ⟨Nat.le_of_ble_eq_true rfl, rfl⟩))) ?_
                        intro fr t H
                        obtain ⟨x2, hx, hm⟩ := bind_some hm
                        refine at_step (v := .bool x2) (h1 := h2) [(2, .ptr (some (h.size, 0))), (3, .ptr (some (h1.size, 0))), (73, .bool true), (78, .bool x2)] H (fun fr => by kernel_rfl) (fun fr => .of (s_eqG (by kernel_rfl) hx)) ?_
                        intro fr t H
                        refine at_seg [(74, [])] [(2, .ptr (some (h.size, 0))), (3, .ptr (some (h1.size, 0))), (79, .bool x2)] H (noU_all rfl) (fun fr => by kernel_rfl) ?_
                        intro fr H
                        have e1 := Option.some.inj hm
                        subst e1
                        exact at_nil ⟨H.less _ (fun fr => by kernel_rfl), A⟩
                      · replace H := H.know 73 hb (by kernel_rfl)
                        refine at_seg [(69, []), (70, []), (71, []), (72, []), (73, []), (74, [])] [(2, .ptr (some (h.size, 0))), (3, .ptr (some (h1.size, 0))), (79, .bool false)] H (noU_all rfl) (fun fr => by kernel_rfl) ?_
                        intro fr H
                        have e1 := Option.some.inj hm
                        subst e1
                        exact at_nil ⟨H.less _ (fun fr => by kernel_rfl), A⟩
                    · clear A
                      intro t fr h3 hK
                      obtain ⟨H, A⟩ := hK
                      refine at_seg [(75, [])] [(2, .ptr (some (h.size, 0))), (3, .ptr (some (h1.size, 0))), (80, .bool x1)] H (noU_all rfl) (fun fr => by kernel_rfl) ?_
                      intro fr H
                      obtain ⟨x3, ho, hm⟩ := bind_some hm
                      refine at_cut [(76, []), (77, []), (78, []), (79, []), (80, []), (81, [])] (fun fr' h' => Has fr' 94 [(2, .ptr (some (h.size, 0))), (3, .ptr (some (h1.size, 0))), (86, .bool x3)] ∧ HH g h' [.obj h1.size (.cells none 2 (e_S_api_Member p1)), .obj h.size (.cells none 2 (e_S_api_Member p0))] F) ?_ ?_
                      · rcases iteB_some ho with ⟨hb, hm⟩ | ⟨hb, hm⟩
                        · replace H := H.know 80 hb (by kernel_rfl)
                          refine at_seg [(76, [])] [(2, .ptr (some (h.size, 0))), (3, .ptr (some (h1.size, 0))), (80, .bool true), (81, .ptr (some (h.size, 12)))] H (noU_all rfl) (fun fr => by kernel_rfl) ?_
                          intro fr H
                          refine at_step (v := vs e_S_api_Pair p0.Extra) (h1 := h3) [(2, .ptr (some (h.size, 0))), (3, .ptr (some (h1.size, 0))), (80, .bool true), (82, vs e_S_api_Pair p0.Extra)] H (fun fr => by kernel_rfl) (fun fr => .of (s_ld (by kernel_rfl) (A.ld1 1 rfl (o := 12) rfl))) ?_
                          intro fr t H
                          refine at_seg [(78, [])] [(2, .ptr (some (h.size, 0))), (3, .ptr (some (h1.size, 0))), (80, .bool true), (82, vs e_S_api_Pair p0.Extra), (83, .ptr (some (h1.size, 12)))] H (noU_all rfl) (fun fr => by kernel_rfl) ?_
                          intro fr H
                          refine at_step (v := vs e_S_api_Pair p1.Extra) (h1 := h3) [(2, .ptr (some (h.size, 0))), (3, .ptr (some (h1.size, 0))), (80, .bool true), (82, vs e_S_api_Pair p0.Extra), (84, vs e_S_api_Pair p1.Extra)] H (fun fr => by kernel_rfl) (fun fr => .of (s_ld (by kernel_rfl) (A.ld1 0 rfl (o := 12) rfl))) ?_
                          intro fr t H
                          have A1 := A.cut 0
                          obtain ⟨x4, hx, hm⟩ := bind_some hm
                          obtain ⟨v1, h5, hr, rfl, A1⟩ := ok_boulterref06_Same (av := [vs e_S_api_Pair p0.Extra, vs e_S_api_Pair p1.Extra]) hx (by kernel_rfl) A1
                          replace A : HH g h5 [.obj h1.size (.cells none 2 (e_S_api_Member p1)), .obj h.size (.cells none 2 (e_S_api_Member p0))] F := A.glue0 (n := 0) A1
                          refine at_step (v := .bool x4) (h1 := h5) [(2, .ptr (some (h.size, 0))), (3, .ptr (some (h1.size, 0))), (80, .bool true), (85, .bool x4)] H (fun fr => by kernel_rfl) (fun fr => Steps.call (by kernel_rfl) hr) ?_
                          intro fr t H
                          refine at_seg [(81, [])] [(2, .ptr (some (h.size, 0))), (3, .ptr (some (h1.size, 0))), (86, .bool x4)] H (noU_all rfl) (fun fr => by kernel_rfl) ?_
                          intro fr H
                          have e1 := Option.some.inj hm
                          subst e1
                          exact at_nil ⟨H.less _ (fun fr => by kernel_rfl), A⟩
                        · replace H := H.know 80 hb (by kernel_rfl)
                          refine at_seg [(76, []), (77, []), (78, []), (79, []), (80, []), (81, [])] [(2, .ptr (some (h.size, 0))), (3, .ptr (some (h1.size, 0))), (86, .bool false)] H (noU_all rfl) (fun fr => by kernel_rfl) ?_
                          intro fr H
                          have e1 := Option.some.inj hm
                          subst e1
                          exact at_nil ⟨H.less _ (fun fr => by kernel_rfl), A⟩
                      · clear A
                        intro t fr h4 hK
                        obtain ⟨H, A⟩ := hK
                        refine at_seg [(82, [])] [(2, .ptr (some (h.size, 0))), (3, .ptr (some (h1.size, 0))), (87, .bool x3)] H (noU_all rfl) (fun fr => by kernel_rfl) ?_
                        intro fr H
                        refine at_cut [(83, []), (84, []), (85, []), (86, []), (87, []), (88, [])] (fun fr' h' => h4 = h' ∧ Has fr' 94 [(93, .bool (x3 && (p0.Data == p1.Data)))]) ?_ ?_
                        · cases hb : (x3 : Bool) with
                          | true =>
                            replace H := H.know 87 hb (by kernel_rfl)
                            refine at_seg [(83, [])] [(3, .ptr (some (h1.size, 0))), (87, .bool true), (88, .ptr (some (h.size, 13)))] H (noU_all rfl) (fun fr => by kernel_rfl) ?_
                            intro fr H
                            refine at_step (v := .str p0.Data) (h1 := h4) [(3, .ptr (some (h1.size, 0))), (87, .bool true), (89, .str p0.Data)] H (fun fr => by kernel_rfl) (fun fr => .of (s_ld (by kernel_rfl) (A.ld1 1 rfl (o := 13) rfl))) ?_
                            intro fr t H
                            refine at_seg [(85, [])] [(87, .bool true), (89, .str p0.Data), (90, .ptr (some (h1.size, 13)))] H (noU_all rfl) (fun fr => by kernel_rfl) ?_
                            intro fr H
                            refine at_step (v := .str p1.Data) (h1 := h4) [(87, .bool true), (89, .str p0.Data), (91, .str p1.Data)] H (fun fr => by kernel_rfl) (fun fr => .of (s_ld (by kernel_rfl) (A.ld1 0 rfl (o := 13) rfl))) ?_
                            intro fr t H
                            refine at_seg [(87, []), (88, [])] [(93, .bool (p0.Data == p1.Data))] H (noU_all rfl) (fun fr => by kernel_rfl) ?_
                            intro fr H
                            exact at_nil ⟨rfl, by first | exact H.less _ (fun fr => by rfl) | exact H.less _ (fun fr => by rw [hb]; rfl)⟩
                          | false =>
                            replace H := H.know 87 hb (by kernel_rfl)
                            refine at_seg [(83, []), (84, []), (85, []), (86, []), (87, []), (88, [])] [(93, .bool false)] H (noU_all rfl) (fun fr => by kernel_rfl) ?_
                            intro fr H
                            exact at_nil ⟨rfl, by first | exact H.less _ (fun fr => by rfl) | exact H.less _ (fun fr => by rw [hb]; rfl)⟩
                        · intro t fr h' hK
                          obtain ⟨e, H⟩ := hK
                          subst e
                          refine at_seg [(89, [])] [(4, .bool (x3 && (p0.Data == p1.Data)))] H (noU_all rfl) (fun fr => by kernel_rfl) ?_
                          intro fr H
                          refine at_nil ?_
                          show AW cfg 43 g (right (right (bodyC cfg.P 43))) fr h4 _
                          refine aw_ret (by kernel_rfl) ?_
                          have e1 := Option.some.inj hm
                          subst e1
                          refine ⟨.inl rfl, .bool (x3 && (p0.Data == p1.Data)), resH H (fun fr => by kernel_rfl), ?_⟩
                          replace A : HH g h4 [] F := (HH.dropF A 0)
                          exact ⟨rfl, A⟩
/-! ### boulter/boulterref26.Same -/
noncomputable def M_boulterref26_Same_L0 (p0 : List (List UInt8)) (p1 : List (List UInt8)) (s : Int) : Option ((Int) ⊕ ((Unit) ⊕ (Bool))) :=
  match s with
  | x1 => iteB (decide (x1 < (p0.length : Int))) ((ixV p0 x1).bind fun x3 => (ixV p1 x1).bind fun x4 => iteB (!(x3 == x4)) (some (.inr (.inr false))) (some (.inl (IntKind.i64.wrap (x1 + (1 : Int)))))) (some (.inr (.inl ())))
noncomputable def M_boulterref26_Same (p0 : List (List UInt8)) (p1 : List (List UInt8)) : Option (Bool) :=
 iteB ((p0.length : Int) != (p1.length : Int)) (some false) ((loop (M_boulterref26_Same_L0 p0 p1) (0 : Int)).bind fun o1 => (match o1 with | .inl _ => some true | .inr x2 => some x2))
theorem ok_boulterref26_Same {g : Gd} {h : AHeap} {F : List Ck} {p0 : List (List UInt8)} {p1 : List (List UInt8)} {q0 : Bool} {av : List AVal} (hm : M_boulterref26_Same p0 p1 = some q0) (hc : canL (cfg.still 15) av = [vs eS p0, vs eS p1]) (A : HH g h [] F) : ∃ v h', Runs cfg g h 15 av v h' ∧ v = .bool q0 ∧ HH g h' [] F := by
  refine runsQ1 (n := 26) (rs := [.tmp 4]) (by kernel_rfl) hc (by kernel_rfl) ?_
  clear hc
  unfold M_boulterref26_Same at hm
  refine start (n := 26) [(0, vs eS p0), (1, vs eS p1)] (by kernel_rfl) (by kernel_rfl) ?_
  intro fr H
  refine aw_seq (by kernel_rfl) ?_
  refine aw_reg (id := 0) (n := 1) [(0, [])] (by kernel_rfl) (by kernel_rfl) ?_
  refine at_seg [(0, [])] [(0, vs eS p0), (1, vs eS p1)] H (noU_all rfl) (fun fr => by kernel_rfl) ?_
  intro fr H
  refine at_nil ?_
  show AW cfg 15 g (right (bodyC cfg.P 15)) fr h _
  refine aw_seq (by kernel_rfl) ?_
  refine aw_seq (by kernel_rfl) ?_
  refine aw_reg (id := 1) (n := 5) [(0, []), (1, []), (2, []), (3, []), (4, [])] (by kernel_rfl) (by kernel_rfl) ?_
  refine at_seg [(0, []), (1, []), (2, []), (3, []), (4, [])] [(0, vs eS p0), (1, vs eS p1), (10, .bool ((p0.length : Int) != (p1.length : Int)))] H (noU_all rfl) (fun fr => by kernel_rfl) ?_
  intro fr H
  refine at_nil ?_
  show AW cfg 15 g (right (left (right (bodyC cfg.P 15)))) fr h _
  rcases iteB_some hm with ⟨hb, hm⟩ | ⟨hb, hm⟩
  · replace H := H.know 10 hb (by kernel_rfl)
    refine aw_true (x := .tmp 10) (by kernel_rfl) H (fun fr => by kernel_rfl) ?_
    refine aw_seq (by kernel_rfl) ?_
    refine aw_reg (id := 2) (n := 1) [(0, [])] (by kernel_rfl) (by kernel_rfl) ?_
    refine at_seg [(0, [])] [(4, .bool false)] H (noU_all rfl) (fun fr => by kernel_rfl) ?_
    intro fr H
    refine at_nil ?_
    show AW cfg 15 g (right (left (right (left (right (bodyC cfg.P 15)))))) fr h _
    refine aw_ret (by kernel_rfl) ?_
    have e1 := Option.some.inj hm
    subst e1
    refine ⟨.inl rfl, .bool false, resH H (fun fr => by kernel_rfl), ?_⟩
    exact ⟨rfl, A⟩
  · replace H := H.know 10 hb (by kernel_rfl)
    refine aw_false (x := .tmp 10) (by kernel_rfl) H (fun fr => by kernel_rfl) ?_
    refine aw_skip (by kernel_rfl) ?_
    show AW cfg 15 g (right (right (bodyC cfg.P 15))) fr h _
    refine aw_seq (by kernel_rfl) ?_
    refine aw_seq (by kernel_rfl) ?_
    refine aw_reg (id := 3) (n := 1) [(0, [])] (by kernel_rfl) (by kernel_rfl) ?_
    refine at_seg [(0, [])] [(0, vs eS p0), (1, vs eS p1), (5, .int .i64 (0 : Int))] H (noU_all rfl) (fun fr => by kernel_rfl) ?_
    intro fr H
    refine at_nil ?_
    show AW cfg 15 g (right (left (right (right (bodyC cfg.P 15))))) fr h _
    refine aw_block (id := 0) (by kernel_rfl) ?_
    obtain ⟨o1, ho, hm⟩ := bind_some hm
    refine aw_mono (Q' := fun e fr' h' => (e = .exit 0 ∧ .inl () = o1 ∧ Has fr' 26 [] ∧ HH g h' [] F) ∨ (∃ (x2 : Bool), e = .ret ∧ .inr x2 = o1 ∧ Has fr' 26 [(4, .bool x2)] ∧ HH g h' [] F) ∨ False) ?_ ?_
    · refine aw_loop (by kernel_rfl) (fun (s : Int) fr' h' => ∃ (x1 : Int), x1 = s ∧ Has fr' 26 [(0, vs eS p0), (1, vs eS p1), (5, .int .i64 x1)] ∧ HH g h' [] F) ho ⟨(0 : Int), rfl, H.less _ (fun fr => by kernel_rfl), A⟩ ?_
      clear ho hm H A
      intro s q fr h1 hI hm
      obtain ⟨x1, rfl, H, A⟩ := hI
      unfold M_boulterref26_Same_L0 at hm
      refine aw_seq (by kernel_rfl) ?_
      refine aw_seq (by kernel_rfl) ?_
      refine aw_reg (id := 4) (n := 4) [(0, []), (1, []), (2, []), (3, [])] (by kernel_rfl) (by kernel_rfl) ?_
      refine at_seg [(0, []), (1, []), (2, []), (3, [])] [(0, vs eS p0), (1, vs eS p1), (5, .int .i64 x1), (14, .bool (decide (x1 < (p0.length : Int))))] H (noU_all rfl) (fun fr => by kernel_rfl) ?_
      intro fr H
      refine at_nil ?_
      show AW cfg 15 g (right (left (left (left (right (left (right (right (bodyC cfg.P 15))))))))) fr h1 _
      rcases iteB_some hm with ⟨hb, hm⟩ | ⟨hb, hm⟩
      · replace H := H.know 14 hb (by kernel_rfl)
        refine aw_true (x := .tmp 14) (by kernel_rfl) H (fun fr => by kernel_rfl) ?_
        refine aw_skip (by kernel_rfl) ?_
        show AW cfg 15 g (right (left (left (right (left (right (right (bodyC cfg.P 15)))))))) fr h1 _
        refine aw_seq (by kernel_rfl) ?_
        refine aw_block (id := 1) (by kernel_rfl) ?_
        refine aw_seq (by kernel_rfl) ?_
        refine aw_draw (id := 6) (n := 9) (by kernel_rfl) [(0, []), (1, []), (2, []), (3, []), (4, []), (5, []), (6, []), (7, []), (8, [])] (by kernel_rfl) ?_
        refine at_seg [(0, []), (1, [])] [(0, vs eS p0), (1, vs eS p1), (5, .int .i64 x1), (17, vs eS p0), (18, .int .i64 x1)] H (noU_all rfl) (fun fr => by kernel_rfl) ?_
        intro fr H
        obtain ⟨x3, hx, hm⟩ := bind_some hm
        refine at_step (v := .vptr [.str x3]) (h1 := h1) [(0, vs eS p0), (1, vs eS p1), (5, .int .i64 x1), (19, .vptr [.str x3])] H (fun fr => by kernel_rfl) (fun fr => .of (s_ixV (e := eS) (x := x3) encS (by decide) (by kernel_rfl) hx)) ?_
        intro fr t H
        refine at_step (v := .str x3) (h1 := h1) [(0, vs eS p0), (1, vs eS p1), (5, .int .i64 x1), (20, .str x3)] H (fun fr => by kernel_rfl) (fun fr => .of (s_lv (by kernel_rfl))) ?_
        intro fr t H
        refine at_seg [(4, []), (5, [])] [(0, vs eS p0), (1, vs eS p1), (5, .int .i64 x1), (20, .str x3), (21, vs eS p1), (22, .int .i64 x1)] H (noU_all rfl) (fun fr => by kernel_rfl) ?_
        intro fr H
        obtain ⟨x4, hx, hm⟩ := bind_some hm
        refine at_step (v := .vptr [.str x4]) (h1 := h1) [(0, vs eS p0), (1, vs eS p1), (5, .int .i64 x1), (20, .str x3), (23, .vptr [.str x4])] H (fun fr => by kernel_rfl) (fun fr => .of (s_ixV (e := eS) (x := x4) encS (by decide) (by kernel_rfl) hx)) ?_
        intro fr t H
        refine at_step (v := .str x4) (h1 := h1) [(0, vs eS p0), (1, vs eS p1), (5, .int .i64 x1), (20, .str x3), (24, .str x4)] H (fun fr => by kernel_rfl) (fun fr => .of (s_lv (by kernel_rfl))) ?_
        intro fr t H
        refine at_seg [(8, [])] [(0, vs eS p0), (1, vs eS p1), (5, .int .i64 x1), (25, .bool (!(x3 == x4)))] H (noU_all rfl) (fun fr => by kernel_rfl) ?_
        intro fr H
        refine at_nil ?_
        show AW cfg 15 g (right (left (left (right (left (left (right (left (right (right (bodyC cfg.P 15))))))))))) fr h1 _
        rcases iteB_some hm with ⟨hb, hm⟩ | ⟨hb, hm⟩
        · replace H := H.know 25 hb (by kernel_rfl)
          refine aw_true (x := .tmp 25) (by kernel_rfl) H (fun fr => by kernel_rfl) ?_
          refine aw_seq (by kernel_rfl) ?_
          refine aw_reg (id := 7) (n := 1) [(0, [])] (by kernel_rfl) (by kernel_rfl) ?_
          refine at_seg [(0, [])] [(4, .bool false)] H (noU_all rfl) (fun fr => by kernel_rfl) ?_
          intro fr H
          refine at_nil ?_
          show AW cfg 15 g (right (left (right (left (left (right (left (left (right (left (right (right (bodyC cfg.P 15))))))))))))) fr h1 _
          refine aw_ret (by kernel_rfl) ?_
          exact Exists.intro _ (And.intro (Option.some.inj hm).symm (fun e => Or.inr (Or.inl ⟨false, rfl, e, H.less _ (fun fr => by kernel_rfl), A⟩)))
        · replace H := H.know 25 hb (by kernel_rfl)
          refine aw_false (x := .tmp 25) (by kernel_rfl) H (fun fr => by kernel_rfl) ?_
          refine aw_skip (by kernel_rfl) ?_
          show AW cfg 15 g (right (right (left (left (right (left (right (right (bodyC cfg.P 15))))))))) fr h1 _
          refine aw_reg (id := 5) (n := 3) [(0, []), (1, []), (2, [])] (by kernel_rfl) (by kernel_rfl) ?_
          refine at_seg [(0, []), (1, []), (2, [])] [(0, vs eS p0), (1, vs eS p1), (5, .int .i64 (IntKind.i64.wrap (x1 + (1 : Int))))] H (noU_all rfl) (fun fr => by kernel_rfl) ?_
          intro fr H
          refine at_nil ?_
          exact Exists.intro (IntKind.i64.wrap (x1 + (1 : Int))) (And.intro (Option.some.inj hm).symm ⟨IntKind.i64.wrap (x1 + (1 : Int)), rfl, H.less _ (fun fr => by kernel_rfl), A⟩)
      · replace H := H.know 14 hb (by kernel_rfl)
        refine aw_false (x := .tmp 14) (by kernel_rfl) H (fun fr => by kernel_rfl) ?_
        refine aw_exit (i := 0) (by kernel_rfl) ?_
        exact Exists.intro _ (And.intro (Option.some.inj hm).symm (fun e => Or.inl ⟨rfl, e, H.less _ (fun fr => by kernel_rfl), A⟩))
    · clear ho
      clear A
      intro e fr h2 hQ
      rcases hQ with ⟨rfl, rfl, H, A⟩ | ⟨x2, rfl, rfl, H, A⟩ | hF
      · skip
        show AW cfg 15 g (right (right (right (bodyC cfg.P 15)))) fr h2 _
        refine aw_seq (by kernel_rfl) ?_
        refine aw_reg (id := 8) (n := 1) [(0, [])] (by kernel_rfl) (by kernel_rfl) ?_
        refine at_seg [(0, [])] [(4, .bool true)] H (noU_all rfl) (fun fr => by kernel_rfl) ?_
        intro fr H
        refine at_nil ?_
        show AW cfg 15 g (right (right (right (right (bodyC cfg.P 15))))) fr h2 _
        refine aw_ret (by kernel_rfl) ?_
        have e1 := Option.some.inj hm
        subst e1
        refine ⟨.inl rfl, .bool true, resH H (fun fr => by kernel_rfl), ?_⟩
        exact ⟨rfl, A⟩
      · skip
        have e1 := Option.some.inj hm
        subst e1
        refine ⟨.inl rfl, .bool x2, resH H (fun fr => by kernel_rfl), ?_⟩
        exact ⟨rfl, A⟩
      · exact hF.elim
/-! ### boulter/boulterlaw38.same -/
noncomputable def M_boulterlaw38_same (p0 : S_delta_Diff) (p1 : S_boulterref38_Diff) : Option (Bool) :=
 (M_boulterref26_Same p0.Added p1.Added).bind fun x1 => (iteB x1 ((M_boulterref26_Same p0.Removed p1.Removed).bind fun x3 => some x3) (some false) : Option (Bool)).bind fun x2 => (iteB x2 ((M_boulterref26_Same p0.Changed p1.Changed).bind fun x5 => some x5) (some false) : Option (Bool)).bind fun x4 => some x4
theorem ok_boulterlaw38_same {g : Gd} {h : AHeap} {F : List Ck} {p0 : S_delta_Diff} {p1 : S_boulterref38_Diff} {q0 : Bool} {av : List AVal} (hm : M_boulterlaw38_same p0 p1 = some q0) (hc : canL (cfg.still 27) av = [.agg [vs eS p0.Added, vs eS p0.Removed, vs eS p0.Changed], .agg [vs eS p1.Added, vs eS p1.Removed, vs eS p1.Changed]]) (A : HH g h [] F) : ∃ v h', Runs cfg g h 27 av v h' ∧ v = .bool q0 ∧ HH g h' [] F := by
  refine runsQ1 (n := 24) (rs := [.tmp 4]) (by kernel_rfl) hc (by kernel_rfl) ?_
  clear hc
  unfold M_boulterlaw38_same at hm
  refine start (n := 24) [(0, .agg [vs eS p0.Added, vs eS p0.Removed, vs eS p0.Changed]), (1, .agg [vs eS p1.Added, vs eS p1.Removed, vs eS p1.Changed])] (by kernel_rfl) (by kernel_rfl) ?_
  intro fr H
  refine aw_seq (by kernel_rfl) ?_
  refine aw_reg (id := 0) (n := 3) [(0, []), (1, []), (2, [])] (by kernel_rfl) (by kernel_rfl) ?_
  obtain ⟨h1, e1⟩ : ∃ x, x = h.push (.cells none 2 [vs eS p0.Added, vs eS p0.Removed, vs eS p0.Changed]) := ⟨_, rfl⟩
  replace A := (A.push _).to e1
  refine at_step (v := .ptr (some (h.size, 0))) (h1 := h1) [(1, .agg [vs eS p1.Added, vs eS p1.Removed, vs eS p1.Changed]), (2, .ptr (some (h.size, 0)))] H (fun fr => by kernel_rfl) (fun fr => .of (s_n' (by kernel_rfl) (congrArg some e1.symm))) ?_
  intro fr t H
  obtain ⟨h2, e2⟩ : ∃ x, x = h1.push (.cells none 2 [vs eS p1.Added, vs eS p1.Removed, vs eS p1.Changed]) := ⟨_, rfl⟩
  replace A := (A.push _).to e2
  refine at_step (v := .ptr (some (h1.size, 0))) (h1 := h2) [(2, .ptr (some (h.size, 0))), (3, .ptr (some (h1.size, 0)))] H (fun fr => by kernel_rfl) (fun fr => .of (s_n' (by kernel_rfl) (congrArg some e2.symm))) ?_
  intro fr t H
  refine at_seg [(2, [])] [(2, .ptr (some (h.size, 0))), (3, .ptr (some (h1.size, 0)))] H (noU_all rfl) (fun fr => by kernel_rfl) ?_
  intro fr H
  refine at_nil ?_
  show AW cfg 27 g (right (bodyC cfg.P 27)) fr h2 _
  refine aw_seq (by kernel_rfl) ?_
  refine aw_reg (id := 1) (n := 20) [(0, []), (1, []), (2, []), (3, []), (4, []), (5, []), (6, []), (7, []), (8, []), (9, []), (10, []), (11, []), (12, []), (13, []), (14, []), (15, []), (16, []), (17, []), (18, []), (19, [])] (by kernel_rfl) (by kernel_rfl) ?_
  refine at_seg [(0, [])] [(2, .ptr (some (h.size, 0))), (3, .ptr (some (h1.size, 0))), (5, .ptr (some (h.size, 0)))] H (noU_all rfl) (fun fr => by kernel_rfl) ?_
  intro fr H
  refine at_step (v := vs eS p0.Added) (h1 := h2) [(2, .ptr (some (h.size, 0))), (3, .ptr (some (h1.size, 0))), (6, vs eS p0.Added)] H (fun fr => by kernel_rfl) (fun fr => .of (s_ld (by kernel_rfl) (A.ld1 1 rfl (o := 0) rfl))) ?_
  intro fr t H
  refine at_seg [(2, [])] [(2, .ptr (some (h.size, 0))), (3, .ptr (some (h1.size, 0))), (6, vs eS p0.Added), (7, .ptr (some (h1.size, 0)))] H (noU_all rfl) (fun fr => by kernel_rfl) ?_
  intro fr H
  refine at_step (v := vs eS p1.Added) (h1 := h2) [(2, .ptr (some (h.size, 0))), (3, .ptr (some (h1.size, 0))), (6, vs eS p0.Added), (8, vs eS p1.Added)] H (fun fr => by kernel_rfl) (fun fr => .of (s_ld (by kernel_rfl) (A.ld1 0 rfl (o := 0) rfl))) ?_
  intro fr t H
  have A1 := A.cut 0
  obtain ⟨x1, hx, hm⟩ := bind_some hm
  obtain ⟨v1, h3, hr, rfl, A1⟩ := ok_boulterref26_Same (av := [vs eS p0.Added, vs eS p1.Added]) hx (by kernel_rfl) A1
  replace A : HH g h3 [.obj h1.size (.cells none 2 [vs eS p1.Added, vs eS p1.Removed, vs eS p1.Changed]), .obj h.size (.cells none 2 [vs eS p0.Added, vs eS p0.Removed, vs eS p0.Changed])] F := A.glue0 (n := 0) A1
  refine at_step (v := .bool x1) (h1 := h3) [(2, .ptr (some (h.size, 0))), (3, .ptr (some (h1.size, 0))), (9, .bool x1)] H (fun fr => by kernel_rfl) (fun fr => Steps.call (by kernel_rfl) hr) ?_
  intro fr t H
  refine at_seg [(5, [])] [(2, .ptr (some (h.size, 0))), (3, .ptr (some (h1.size, 0))), (10, .bool x1)] H (noU_all rfl) (fun fr => by kernel_rfl) ?_
  intro fr H
  obtain ⟨x2, ho, hm⟩ := bind_some hm
  refine at_cut [(6, []), (7, []), (8, []), (9, []), (10, []), (11, [])] (fun fr' h' => Has fr' 24 [(2, .ptr (some (h.size, 0))), (3, .ptr (some (h1.size, 0))), (16, .bool x2)] ∧ HH g h' [.obj h1.size (.cells none 2 [vs eS p1.Added, vs eS p1.Removed, vs eS p1.Changed]), .obj h.size (.cells none 2 [vs eS p0.Added, vs eS p0.Removed, vs eS p0.Changed])] F) ?_ ?_
  · rcases iteB_some ho with ⟨hb, hm⟩ | ⟨hb, hm⟩
    · replace H := H.know 10 hb (by kernel_rfl)
      refine at_seg [(6, [])] [(2, .ptr (some (h.size, 0))), (3, .ptr (some (h1.size, 0))), (10, .bool true), (11, .ptr (some (h.size, 1)))] H (noU_all rfl) (fun fr => by kernel_rfl) ?_
      intro fr H
      refine at_step (v := vs eS p0.Removed) (h1 := h3) [(2, .ptr (some (h.size, 0))), (3, .ptr (some (h1.size, 0))), (10, .bool true), (12, vs eS p0.Removed)] H (fun fr => by kernel_rfl) (fun fr => .of (s_ld (by kernel_rfl) (A.ld1 1 rfl (o := 1) rfl))) ?_
      intro fr t H
      refine at_seg [(8, [])] [(2, .ptr (some (h.size, 0))), (3, .ptr (some (h1.size, 0))), (10, .bool true), (12, vs eS p0.Removed), (13, .ptr (some (h1.size, 1)))] H (noU_all rfl) (fun fr => by kernel_rfl) ?_
      intro fr H
      refine at_step (v := vs eS p1.Removed) (h1 := h3) [(2, .ptr (some (h.size, 0))), (3, .ptr (some (h1.size, 0))), (10, .bool true), (12, vs eS p0.Removed), (14, vs eS p1.Removed)] H (fun fr => by kernel_rfl) (fun fr => .of (s_ld (by kernel_rfl) (A.ld1 0 rfl (o := 1) rfl))) ?_
      intro fr t H
      have A1 := A.cut 0
      obtain ⟨x3, hx, hm⟩ := bind_some hm
      obtain ⟨v1, h5, hr, rfl, A1⟩ := ok_boulterref26_Same (av := [vs eS p0.Removed, vs eS p1.Removed]) hx (by kernel_rfl) A1
      replace A : HH g h5 [.obj h1.size (.cells none 2 [vs eS p1.Added, vs eS p1.Removed, vs eS p1.Changed]), .obj h.size (.cells none 2 [vs eS p0.Added, vs eS p0.Removed, vs eS p0.Changed])] F := A.glue0 (n := 0) A1
      refine at_step (v := .bool x3) (h1 := h5) [(2, .ptr (some (h.size, 0))), (3, .ptr (some (h1.size, 0))), (10, .bool true), (15, .bool x3)] H (fun fr => by kernel_rfl) (fun fr => Steps.call (by kernel_rfl) hr) ?_
      intro fr t H
      refine at_seg [(11, [])] [(2, .ptr (some (h.size, 0))), (3, .ptr (some (h1.size, 0))), (16, .bool x3)] H (noU_all rfl) (fun fr => by kernel_rfl) ?_
      intro fr H
      have e1 := Option.some.inj hm
      subst e1
      exact at_nil ⟨H.less _ (fun fr => by kernel_rfl), A⟩
    · replace H := H.know 10 hb (by kernel_rfl)
      refine at_seg [(6, []), (7, []), (8, []), (9, []), (10, []), (11, [])] [(2, .ptr (some (h.size, 0))), (3, .ptr (some (h1.size, 0))), (16, .bool false)] H (noU_all rfl) (fun fr => by kernel_rfl) ?_
      intro fr H
      have e1 := Option.some.inj hm
      subst e1
      exact at_nil ⟨H.less _ (fun fr => by kernel_rfl), A⟩
  · clear A
    intro t fr h4 hK
    obtain ⟨H, A⟩ := hK
    refine at_seg [(12, [])] [(2, .ptr (some (h.size, 0))), (3, .ptr (some (h1.size, 0))), (17, .bool x2)] H (noU_all rfl) (fun fr => by kernel_rfl) ?_
    intro fr H
    obtain ⟨x4, ho, hm⟩ := bind_some hm
    refine at_cut [(13, []), (14, []), (15, []), (16, []), (17, []), (18, [])] (fun fr' h' => Has fr' 24 [(23, .bool x4)] ∧ HH g h' [.obj h1.size (.cells none 2 [vs eS p1.Added, vs eS p1.Removed, vs eS p1.Changed]), .obj h.size (.cells none 2 [vs eS p0.Added, vs eS p0.Removed, vs eS p0.Changed])] F) ?_ ?_
    · rcases iteB_some ho with ⟨hb, hm⟩ | ⟨hb, hm⟩
      · replace H := H.know 17 hb (by kernel_rfl)
        refine at_seg [(13, [])] [(3, .ptr (some (h1.size, 0))), (17, .bool true), (18, .ptr (some (h.size, 2)))] H (noU_all rfl) (fun fr => by kernel_rfl) ?_
        intro fr H
        refine at_step (v := vs eS p0.Changed) (h1 := h4) [(3, .ptr (some (h1.size, 0))), (17, .bool true), (19, vs eS p0.Changed)] H (fun fr => by kernel_rfl) (fun fr => .of (s_ld (by kernel_rfl) (A.ld1 1 rfl (o := 2) rfl))) ?_
        intro fr t H
        refine at_seg [(15, [])] [(17, .bool true), (19, vs eS p0.Changed), (20, .ptr (some (h1.size, 2)))] H (noU_all rfl) (fun fr => by kernel_rfl) ?_
        intro fr H
        refine at_step (v := vs eS p1.Changed) (h1 := h4) [(17, .bool true), (19, vs eS p0.Changed), (21, vs eS p1.Changed)] H (fun fr => by kernel_rfl) (fun fr => .of (s_ld (by kernel_rfl) (A.ld1 0 rfl (o := 2) rfl))) ?_
        intro fr t H
        have A1 := A.cut 0
        obtain ⟨x5, hx, hm⟩ := bind_some hm
        obtain ⟨v1, h7, hr, rfl, A1⟩ := ok_boulterref26_Same (av := [vs eS p0.Changed, vs eS p1.Changed]) hx (by kernel_rfl) A1
        replace A : HH g h7 [.obj h1.size (.cells none 2 [vs eS p1.Added, vs eS p1.Removed, vs eS p1.Changed]), .obj h.size (.cells none 2 [vs eS p0.Added, vs eS p0.Removed, vs eS p0.Changed])] F := A.glue0 (n := 0) A1
        refine at_step (v := .bool x5) (h1 := h7) [(17, .bool true), (22, .bool x5)] H (fun fr => by kernel_rfl) (fun fr => Steps.call (by kernel_rfl) hr) ?_
        intro fr t H
        refine at_seg [(18, [])] [(23, .bool x5)] H (noU_all rfl) (fun fr => by kernel_rfl) ?_
        intro fr H
        have e1 := Option.some.inj hm
        subst e1
        exact at_nil ⟨H.less _ (fun fr => by kernel_rfl), A⟩
      · replace H := H.know 17 hb (by kernel_rfl)
        refine at_seg [(13, []), (14, []), (15, []), (16, []), (17, []), (18, [])] [(23, .bool false)] H (noU_all rfl) (fun fr => by kernel_rfl) ?_
        intro fr H
        have e1 := Option.some.inj hm
        subst e1
        exact at_nil ⟨H.less _ (fun fr => by kernel_rfl), A⟩
    · clear A
      intro t fr h6 hK
      obtain ⟨H, A⟩ := hK
      refine at_seg [(19, [])] [(4, .bool x4)] H (noU_all rfl) (fun fr => by kernel_rfl) ?_
      intro fr H
      refine at_nil ?_
      show AW cfg 27 g (right (right (bodyC cfg.P 27))) fr h6 _
      refine aw_ret (by kernel_rfl) ?_
      have e1 := Option.some.inj hm
      subst e1
      refine ⟨.inl rfl, .bool x4, resH H (fun fr => by kernel_rfl), ?_⟩
      replace A : HH g h6 [] F := (HH.dropF A 0)
      exact ⟨rfl, A⟩
end Go.Av.L
