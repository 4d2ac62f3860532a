/-
  Models of functions of package exfile, and that the abstract run tells them. Written by lift2.py.
-/
import Derived.Test.YtcmfogjpkkodbaaKCfg
import Derived.Test.YtcmfogjpkkodbaaKstrings
namespace Go.Av.L
open Go.Av
set_option linter.unusedVariables false
set_option linter.unusedSimpArgs false
/-! ### boulter/exfile.Text -/
noncomputable def M_exfile_Text_L0 (p0 : List (List UInt8)) (s : (List UInt8) × Int) : Option (((List UInt8) × Int) ⊕ (((List UInt8)) ⊕ ((List UInt8) × Int))) :=
  match s with
  | (x1, x2) => iteB (decide (x2 < (p0.length : Int))) ((ixV p0 x2).bind fun x6 => (iteB (x6 == ([] : List UInt8)) (some true) ((M_strings_Contains_s0 x6).bind fun x8 => some x8) : Option (Bool)).bind fun x7 => (iteB x7 (some true) ((M_strings_HasPrefix x6 ([92, 35] : List UInt8)).bind fun x10 => some x10) : Option (Bool)).bind fun x9 => iteB x9 (some (.inr (.inr (([] : List UInt8), (2 : Int))))) (((M_strings_HasPrefix x6 ([35] : List UInt8)).bind fun x12 => iteB x12 (need (okN 1 (x1.length + ([(92 : UInt8)] : List UInt8).length)) <| some (x1 ++ ([(92 : UInt8)] : List UInt8))) (some x1) : Option (((List UInt8)))).bind fun x11 => need (decide (x6.length + ([10] : List UInt8).length ≤ 9223372036854775807)) <| need (okN 1 (x11.length + (x6 ++ ([10] : List UInt8)).length)) <| some (.inl ((x11 ++ (x6 ++ ([10] : List UInt8))), IntKind.i64.wrap (x2 + (1 : Int)))))) (some (.inr (.inl x1)))
noncomputable def M_exfile_Text (p0 : List (List UInt8)) : Option ((List UInt8) × Int) :=
 (loop (M_exfile_Text_L0 p0) (([] : List UInt8), (0 : Int))).bind fun o1 => (match o1 with | .inl x3 => some (x3, (0 : Int)) | .inr (x4, x5) => some (x4, x5))
theorem ok_exfile_Text {g : Gd} {h : AHeap} {F : List Ck} {p0 : List (List UInt8)} {q0 : List UInt8} {q1 : Int} {av : List AVal} (hm : M_exfile_Text p0 = some (q0, q1)) (hc : canL (cfg.still 13) av = [vs eS p0]) (A : HH g h [] F) : ∃ v h', Runs cfg g h 13 av v h' ∧ v = .tuple [.str q0, .int .i64 q1] ∧ HH g h' [] F := by
  refine runsQ1 (n := 35) (rs := [.tmp 2, .tmp 3]) (by kernel_rfl) hc (by kernel_rfl) ?_
  clear hc
  unfold M_exfile_Text at hm
  refine start (n := 35) [(0, vs eS p0)] (by kernel_rfl) (by kernel_rfl) ?_
  intro fr H
  refine aw_seq (by kernel_rfl) ?_
  refine aw_reg (id := 0) (n := 2) [(0, []), (1, [])] (by kernel_rfl) (by kernel_rfl) ?_
  refine at_seg [(0, []), (1, [])] [(0, vs eS p0)] H (noU_all rfl) (fun fr => by kernel_rfl) ?_
  intro fr H
  refine at_nil ?_
  show AW cfg 13 g (right (bodyC cfg.P 13)) fr h _
  refine aw_seq (by kernel_rfl) ?_
  refine aw_reg (id := 1) (n := 1) [(0, [])] (by kernel_rfl) (by kernel_rfl) ?_
  refine at_seg [(0, [])] [(0, vs eS p0), (4, .slice none 0)] H (noU_all rfl) (fun fr => by kernel_rfl) ?_
  intro fr H
  refine at_nil ?_
  show AW cfg 13 g (right (right (bodyC cfg.P 13))) fr h _
  refine aw_seq (by kernel_rfl) ?_
  refine aw_seq (by kernel_rfl) ?_
  refine aw_reg (id := 2) (n := 3) [(0, []), (1, []), (2, [])] (by kernel_rfl) (by kernel_rfl) ?_
  refine at_seg [(0, []), (1, []), (2, [])] [(4, .slice none 0), (7, vs eS p0), (8, .int .i64 (p0.length : Int)), (9, .int .i64 (0 : Int))] H (noU_all rfl) (fun fr => by kernel_rfl) ?_
  intro fr H
  refine at_nil ?_
  show AW cfg 13 g (right (left (right (right (bodyC cfg.P 13))))) fr h _
  refine aw_block (id := 0) (by kernel_rfl) ?_
  replace A : HH g h [.lst none 5 (lst eY ([] : List UInt8))] F := A.nilL 5
  obtain ⟨o1, ho, hm⟩ := bind_some hm
  refine aw_mono (Q' := fun e fr' h' => (∃ (x3 : List UInt8), e = .exit 0 ∧ .inl x3 = o1 ∧ ∃ (r2 : Option Nat), Has fr' 35 [(4, rowV r2 x3.length)] ∧ HH g h' [.lst r2 5 (lst eY x3)] F) ∨ (∃ (x4 : List UInt8) (x5 : Int), e = .ret ∧ .inr (x4, x5) = o1 ∧ Has fr' 35 [(2, .str x4), (3, .int .i64 x5)] ∧ HH g h' [] F) ∨ False) ?_ ?_
  · refine aw_loop (by kernel_rfl) (fun (s : (List UInt8) × Int) fr' h' => ∃ (x1 : List UInt8) (x2 : Int), (x1, x2) = s ∧ ∃ (r1 : Option Nat), Has fr' 35 [(4, rowV r1 x1.length), (7, vs eS p0), (8, .int .i64 (p0.length : Int)), (9, .int .i64 x2)] ∧ HH g h' [.lst r1 5 (lst eY x1)] F) ho ⟨([] : List UInt8), (0 : Int), rfl, none, H.less _ (fun fr => by kernel_rfl), A⟩ ?_
    clear ho hm H A
    intro s q fr h1 hI hm
    obtain ⟨x1, x2, rfl, r1, H, A⟩ := hI
    unfold M_exfile_Text_L0 at hm
    refine aw_seq (by kernel_rfl) ?_
    refine aw_reg (id := 3) (n := 1) [(0, [])] (by kernel_rfl) (by kernel_rfl) ?_
    refine at_seg [(0, [])] [(4, rowV r1 x1.length), (7, vs eS p0), (8, .int .i64 (p0.length : Int)), (9, .int .i64 x2), (10, .bool (decide (x2 < (p0.length : Int))))] H (noU_all rfl) (fun fr => by kernel_rfl) ?_
    intro fr H
    refine at_nil ?_
    show AW cfg 13 g (right (left (left (right (left (right (right (bodyC cfg.P 13)))))))) fr h1 _
    refine aw_seq (by kernel_rfl) ?_
    rcases iteB_some hm with ⟨hb, hm⟩ | ⟨hb, hm⟩
    · replace H := H.know 10 hb (by kernel_rfl)
      refine aw_true (x := .tmp 10) (by kernel_rfl) H (fun fr => by kernel_rfl) ?_
      refine aw_skip (by kernel_rfl) ?_
      show AW cfg 13 g (right (right (left (left (right (left (right (right (bodyC cfg.P 13))))))))) fr h1 _
      refine aw_seq (by kernel_rfl) ?_
      refine aw_block (id := 1) (by kernel_rfl) ?_
      refine aw_seq (by kernel_rfl) ?_
      refine aw_reg (id := 4) (n := 3) [(0, []), (1, []), (2, [])] (by kernel_rfl) (by kernel_rfl) ?_
      obtain ⟨x6, hx, hm⟩ := bind_some hm
      refine at_step (v := .vptr [.str x6]) (h1 := h1) [(4, rowV r1 x1.length), (7, vs eS p0), (8, .int .i64 (p0.length : Int)), (9, .int .i64 x2), (11, .vptr [.str x6])] H (fun fr => by kernel_rfl) (fun fr => .of (s_ixV (e := eS) (x := x6) encS (by decide) (by kernel_rfl) hx)) ?_
      intro fr t H
      refine at_step (v := .str x6) (h1 := h1) [(4, rowV r1 x1.length), (7, vs eS p0), (8, .int .i64 (p0.length : Int)), (9, .int .i64 x2), (12, .str x6)] H (fun fr => by kernel_rfl) (fun fr => .of (s_lv (by kernel_rfl))) ?_
      intro fr t H
      refine at_seg [(2, [])] [(4, rowV r1 x1.length), (6, .str x6), (7, vs eS p0), (8, .int .i64 (p0.length : Int)), (9, .int .i64 x2)] H (noU_all rfl) (fun fr => by kernel_rfl) ?_
      intro fr H
      refine at_nil ?_
      show AW cfg 13 g (right (left (left (right (right (left (left (right (left (right (right (bodyC cfg.P 13)))))))))))) fr h1 _
      refine aw_seq (by kernel_rfl) ?_
      refine aw_seq (by kernel_rfl) ?_
      refine aw_reg (id := 5) (n := 10) [(0, []), (1, []), (2, []), (3, []), (4, []), (5, []), (6, []), (7, []), (8, []), (9, [])] (by kernel_rfl) (by kernel_rfl) ?_
      refine at_seg [(0, []), (1, []), (2, [])] [(4, rowV r1 x1.length), (6, .str x6), (7, vs eS p0), (8, .int .i64 (p0.length : Int)), (9, .int .i64 x2), (15, .bool (x6 == ([] : List UInt8)))] H (noU_all rfl) (fun fr => by kernel_rfl) ?_
      intro fr H
      obtain ⟨x7, ho, hm⟩ := bind_some hm
      refine at_cut [(3, []), (4, []), (5, [])] (fun fr' h' => Has fr' 35 [(4, rowV r1 x1.length), (6, .str x6), (7, vs eS p0), (8, .int .i64 (p0.length : Int)), (9, .int .i64 x2), (18, .bool x7)] ∧ HH g h' [.lst r1 5 (lst eY x1)] F) ?_ ?_
      · rcases iteB_some ho with ⟨hb, hm⟩ | ⟨hb, hm⟩
        · replace H := H.know 15 hb (by kernel_rfl)
          refine at_seg [(3, []), (4, []), (5, [])] [(4, rowV r1 x1.length), (6, .str x6), (7, vs eS p0), (8, .int .i64 (p0.length : Int)), (9, .int .i64 x2), (18, .bool true)] H (noU_all rfl) (fun fr => by kernel_rfl) ?_
          intro fr H
          have e1 := Option.some.inj hm
          subst e1
          exact at_nil ⟨H.less _ (fun fr => by kernel_rfl), A⟩
        · replace H := H.know 15 hb (by kernel_rfl)
          refine at_seg [(3, [])] [(4, rowV r1 x1.length), (6, .str x6), (7, vs eS p0), (8, .int .i64 (p0.length : Int)), (9, .int .i64 x2), (15, .bool false), (16, .str x6)] H (noU_all rfl) (fun fr => by kernel_rfl) ?_
          intro fr H
          have A1 := A.cut 0
          obtain ⟨x8, hx, hm⟩ := bind_some hm
          obtain ⟨v1, h3, hr, rfl, A1⟩ := ok_strings_Contains_s0 (av := [.str x6, .str ([10] : List UInt8)]) hx (by kernel_rfl) A1
          replace A : HH g h3 [.lst r1 5 (lst eY x1)] F := A.glue0 (n := 0) A1
          refine at_step (v := .bool x8) (h1 := h3) [(4, rowV r1 x1.length), (6, .str x6), (7, vs eS p0), (8, .int .i64 (p0.length : Int)), (9, .int .i64 x2), (15, .bool false), (17, .bool x8)] H (fun fr => by kernel_rfl) (fun fr => Steps.call (by kernel_rfl) hr) ?_
          intro fr t H
          refine at_seg [(5, [])] [(4, rowV r1 x1.length), (6, .str x6), (7, vs eS p0), (8, .int .i64 (p0.length : Int)), (9, .int .i64 x2), (18, .bool x8)] H (noU_all rfl) (fun fr => by kernel_rfl) ?_
          intro fr H
          have e1 := Option.some.inj hm
          subst e1
          exact at_nil ⟨H.less _ (fun fr => by kernel_rfl), A⟩
      · clear A
        intro t fr h2 hK
        obtain ⟨H, A⟩ := hK
        refine at_seg [(6, [])] [(4, rowV r1 x1.length), (6, .str x6), (7, vs eS p0), (8, .int .i64 (p0.length : Int)), (9, .int .i64 x2), (19, .bool x7)] H (noU_all rfl) (fun fr => by kernel_rfl) ?_
        intro fr H
        obtain ⟨x9, ho, hm⟩ := bind_some hm
        refine at_cut [(7, []), (8, []), (9, [])] (fun fr' h' => Has fr' 35 [(4, rowV r1 x1.length), (6, .str x6), (7, vs eS p0), (8, .int .i64 (p0.length : Int)), (9, .int .i64 x2), (22, .bool x9)] ∧ HH g h' [.lst r1 5 (lst eY x1)] F) ?_ ?_
        · rcases iteB_some ho with ⟨hb, hm⟩ | ⟨hb, hm⟩
          · replace H := H.know 19 hb (by kernel_rfl)
            refine at_seg [(7, []), (8, []), (9, [])] [(4, rowV r1 x1.length), (6, .str x6), (7, vs eS p0), (8, .int .i64 (p0.length : Int)), (9, .int .i64 x2), (22, .bool true)] H (noU_all rfl) (fun fr => by kernel_rfl) ?_
            intro fr H
            have e1 := Option.some.inj hm
            subst e1
            exact at_nil ⟨H.less _ (fun fr => by kernel_rfl), A⟩
          · replace H := H.know 19 hb (by kernel_rfl)
            refine at_seg [(7, [])] [(4, rowV r1 x1.length), (6, .str x6), (7, vs eS p0), (8, .int .i64 (p0.length : Int)), (9, .int .i64 x2), (19, .bool false), (20, .str x6)] H (noU_all rfl) (fun fr => by kernel_rfl) ?_
            intro fr H
            have A1 := A.cut 0
            obtain ⟨x10, hx, hm⟩ := bind_some hm
            obtain ⟨v1, h5, hr, rfl, A1⟩ := ok_strings_HasPrefix (av := [.str x6, .str ([92, 35] : List UInt8)]) hx (by kernel_rfl) A1
            replace A : HH g h5 [.lst r1 5 (lst eY x1)] F := A.glue0 (n := 0) A1
            refine at_step (v := .bool x10) (h1 := h5) [(4, rowV r1 x1.length), (6, .str x6), (7, vs eS p0), (8, .int .i64 (p0.length : Int)), (9, .int .i64 x2), (19, .bool false), (21, .bool x10)] H (fun fr => by kernel_rfl) (fun fr => Steps.call (by kernel_rfl) hr) ?_
            intro fr t H
            refine at_seg [(9, [])] [(4, rowV r1 x1.length), (6, .str x6), (7, vs eS p0), (8, .int .i64 (p0.length : Int)), (9, .int .i64 x2), (22, .bool x10)] H (noU_all rfl) (fun fr => by kernel_rfl) ?_
            intro fr H
            have e1 := Option.some.inj hm
            subst e1
            exact at_nil ⟨H.less _ (fun fr => by kernel_rfl), A⟩
        · clear A
          intro t fr h4 hK
          obtain ⟨H, A⟩ := hK
          refine at_nil ?_
          show AW cfg 13 g (right (left (right (left (left (right (right (left (left (right (left (right (right (bodyC cfg.P 13)))))))))))))) fr h4 _
          rcases iteB_some hm with ⟨hb, hm⟩ | ⟨hb, hm⟩
          · replace H := H.know 22 hb (by kernel_rfl)
            refine aw_true (x := .tmp 22) (by kernel_rfl) H (fun fr => by kernel_rfl) ?_
            refine aw_seq (by kernel_rfl) ?_
            refine aw_reg (id := 6) (n := 2) [(0, []), (1, [])] (by kernel_rfl) (by kernel_rfl) ?_
            refine at_seg [(0, []), (1, [])] [(2, .str ([] : List UInt8)), (3, .int .i64 (2 : Int))] H (noU_all rfl) (fun fr => by kernel_rfl) ?_
            intro fr H
            refine at_nil ?_
            show AW cfg 13 g (right (left (right (left (right (left (left (right (right (left (left (right (left (right (right (bodyC cfg.P 13)))))))))))))))) fr h4 _
            refine aw_ret (by kernel_rfl) ?_
            replace A : HH g h4 [] F := (HH.dropF A 0)
            exact Exists.intro _ (And.intro (Option.some.inj hm).symm (fun e => Or.inr (Or.inl ⟨([] : List UInt8), (2 : Int), rfl, e, H.less _ (fun fr => by kernel_rfl), A⟩)))
          · replace H := H.know 22 hb (by kernel_rfl)
            refine aw_false (x := .tmp 22) (by kernel_rfl) H (fun fr => by kernel_rfl) ?_
            refine aw_skip (by kernel_rfl) ?_
            show AW cfg 13 g (right (right (left (left (right (right (left (left (right (left (right (right (bodyC cfg.P 13))))))))))))) fr h4 _
            refine aw_seq (by kernel_rfl) ?_
            obtain ⟨o2, ho, hm⟩ := bind_some hm
            refine aw_mono (Q' := fun e fr' h' => (∃ (x11 : List UInt8), e = .normal ∧ x11 = o2 ∧ ∃ (r3 : Option Nat), Has fr' 35 [(4, rowV r3 x11.length), (6, .str x6), (7, vs eS p0), (8, .int .i64 (p0.length : Int)), (9, .int .i64 x2)] ∧ HH g h' [.lst r3 5 (lst eY x11)] F) ∨ False) ?_ ?_
            · replace hm := ho
              clear ho
              refine aw_seq (by kernel_rfl) ?_
              refine aw_reg (id := 7) (n := 2) [(0, []), (1, [])] (by kernel_rfl) (by kernel_rfl) ?_
              refine at_seg [(0, [])] [(4, rowV r1 x1.length), (6, .str x6), (7, vs eS p0), (8, .int .i64 (p0.length : Int)), (9, .int .i64 x2), (23, .str x6)] H (noU_all rfl) (fun fr => by kernel_rfl) ?_
              intro fr H
              have A1 := A.cut 0
              obtain ⟨x12, hx, hm⟩ := bind_some hm
              obtain ⟨v1, h6, hr, rfl, A1⟩ := ok_strings_HasPrefix (av := [.str x6, .str ([35] : List UInt8)]) hx (by kernel_rfl) A1
              replace A : HH g h6 [.lst r1 5 (lst eY x1)] F := A.glue0 (n := 0) A1
              refine at_step (v := .bool x12) (h1 := h6) [(4, rowV r1 x1.length), (6, .str x6), (7, vs eS p0), (8, .int .i64 (p0.length : Int)), (9, .int .i64 x2), (24, .bool x12)] H (fun fr => by kernel_rfl) (fun fr => Steps.call (by kernel_rfl) hr) ?_
              intro fr t H
              refine at_nil ?_
              show AW cfg 13 g (right (left (right (right (left (left (right (right (left (left (right (left (right (right (bodyC cfg.P 13))))))))))))))) fr h6 _
              rcases iteB_some hm with ⟨hb, hm⟩ | ⟨hb, hm⟩
              · replace H := H.know 24 hb (by kernel_rfl)
                refine aw_true (x := .tmp 24) (by kernel_rfl) H (fun fr => by kernel_rfl) ?_
                refine aw_reg (id := 8) (n := 4) [(0, []), (1, []), (2, []), (3, [])] (by kernel_rfl) (by kernel_rfl) ?_
                refine at_seg [(0, [])] [(6, .str x6), (7, vs eS p0), (8, .int .i64 (p0.length : Int)), (9, .int .i64 x2), (25, rowV r1 x1.length)] H (noU_all rfl) (fun fr => by kernel_rfl) ?_
                intro fr H
                obtain ⟨h7, e1⟩ : ∃ x, x = h6.push (.cells (some 5) 2 [.int .u8 (92 : Int)]) := ⟨_, rfl⟩
                replace A := (A.pushL _ _).to e1
                refine at_step (v := rowV (some h6.size) (([(92 : UInt8)] : List UInt8).length)) (h1 := h7) [(6, .str x6), (7, vs eS p0), (8, .int .i64 (p0.length : Int)), (9, .int .i64 x2), (25, rowV r1 x1.length), (26, rowV (some h6.size) (([(92 : UInt8)] : List UInt8).length))] H (fun fr => by kernel_rfl) (fun fr => .of (s_n' (by kernel_rfl) (congrArg some e1.symm))) ?_
                intro fr t H
                obtain ⟨hb, hm⟩ := need_some hm
                obtain ⟨r4, h8, hx, A1⟩ := HH.appO encY (by decide) A 1 (xs := x1) (ys := ([(92 : UInt8)] : List UInt8)) rfl (row_first A 0 rfl (n := ([(92 : UInt8)] : List UInt8).length) (z := 1) rfl (by decide)) rfl rfl hb
                replace A : HH g h8 [.lst (some h6.size) 5 ([.int .u8 (92 : Int)]), .lst r4 5 (lst eY (x1 ++ ([(92 : UInt8)] : List UInt8)))] F := A1
                replace A : HH g h8 [.lst r4 5 (lst eY (x1 ++ ([(92 : UInt8)] : List UInt8)))] F := (HH.dropF (A.front 1 rfl) 1)
                refine at_step (v := rowV r4 ((x1 ++ ([(92 : UInt8)] : List UInt8)).length)) (h1 := h8) [(6, .str x6), (7, vs eS p0), (8, .int .i64 (p0.length : Int)), (9, .int .i64 x2), (27, rowV r4 ((x1 ++ ([(92 : UInt8)] : List UInt8)).length))] H (fun fr => by kernel_rfl) (fun fr => .of (s_app (s := rowS r1 x1.length) (by kernel_rfl) hx)) ?_
                intro fr t H
                refine at_seg [(3, [])] [(4, rowV r4 ((x1 ++ ([(92 : UInt8)] : List UInt8)).length)), (6, .str x6), (7, vs eS p0), (8, .int .i64 (p0.length : Int)), (9, .int .i64 x2)] H (noU_all rfl) (fun fr => by kernel_rfl) ?_
                intro fr H
                refine at_nil ?_
                exact Or.inl ⟨(x1 ++ ([(92 : UInt8)] : List UInt8)), rfl, Option.some.inj hm, r4, H.less _ (fun fr => by kernel_rfl), A⟩
              · replace H := H.know 24 hb (by kernel_rfl)
                refine aw_false (x := .tmp 24) (by kernel_rfl) H (fun fr => by kernel_rfl) ?_
                refine aw_skip (by kernel_rfl) ?_
                exact Or.inl ⟨x1, rfl, Option.some.inj hm, r1, H.less _ (fun fr => by kernel_rfl), A⟩
            · clear ho
              clear A
              intro e fr h9 hQ
              rcases hQ with ⟨x11, rfl, rfl, r3, H, A⟩ | hF
              · skip
                show AW cfg 13 g (right (right (right (left (left (right (right (left (left (right (left (right (right (bodyC cfg.P 13)))))))))))))) fr h9 _
                refine aw_reg (id := 9) (n := 5) [(0, []), (1, []), (2, []), (3, []), (4, [])] (by kernel_rfl) (by kernel_rfl) ?_
                refine at_seg [(0, []), (1, [])] [(7, vs eS p0), (8, .int .i64 (p0.length : Int)), (9, .int .i64 x2), (28, rowV r3 x11.length), (29, .str x6)] H (noU_all rfl) (fun fr => by kernel_rfl) ?_
                intro fr H
                obtain ⟨hb, hm⟩ := need_some hm
                refine at_step (v := .str (x6 ++ ([10] : List UInt8))) (h1 := h9) [(7, vs eS p0), (8, .int .i64 (p0.length : Int)), (9, .int .i64 x2), (28, rowV r3 x11.length), (30, .str (x6 ++ ([10] : List UInt8)))] H (fun fr => by kernel_rfl) (fun fr => .of (s_cat (by kernel_rfl) hb)) ?_
                intro fr t H
                obtain ⟨hb, hm⟩ := need_some hm
                obtain ⟨r5, h10, hx, A1⟩ := HH.appO encY (by decide) A 0 (xs := x11) (ys := x6 ++ ([10] : List UInt8)) rfl (firstS _ (x6 ++ ([10] : List UInt8))) (encY.canL _) rfl hb
                replace A : HH g h10 [.lst r5 5 (lst eY (x11 ++ (x6 ++ ([10] : List UInt8))))] F := A1
                refine at_step (v := rowV r5 ((x11 ++ (x6 ++ ([10] : List UInt8))).length)) (h1 := h10) [(7, vs eS p0), (8, .int .i64 (p0.length : Int)), (9, .int .i64 x2), (31, rowV r5 ((x11 ++ (x6 ++ ([10] : List UInt8))).length))] H (fun fr => by kernel_rfl) (fun fr => .of (s_app (s := rowS r3 x11.length) (by kernel_rfl) hx)) ?_
                intro fr t H
                refine at_seg [(4, [])] [(4, rowV r5 ((x11 ++ (x6 ++ ([10] : List UInt8))).length)), (7, vs eS p0), (8, .int .i64 (p0.length : Int)), (9, .int .i64 x2)] H (noU_all rfl) (fun fr => by kernel_rfl) ?_
                intro fr H
                refine at_nil ?_
                show AW cfg 13 g (right (right (right (left (left (right (left (right (right (bodyC cfg.P 13)))))))))) fr h10 _
                refine aw_reg (id := 10) (n := 2) [(0, []), (1, [])] (by kernel_rfl) (by kernel_rfl) ?_
                refine at_seg [(0, []), (1, [])] [(4, rowV r5 ((x11 ++ (x6 ++ ([10] : List UInt8))).length)), (7, vs eS p0), (8, .int .i64 (p0.length : Int)), (9, .int .i64 (IntKind.i64.wrap (x2 + (1 : Int))))] H (noU_all rfl) (fun fr => by kernel_rfl) ?_
                intro fr H
                refine at_nil ?_
                exact Exists.intro ((x11 ++ (x6 ++ ([10] : List UInt8))), IntKind.i64.wrap (x2 + (1 : Int))) (And.intro (Option.some.inj hm).symm ⟨(x11 ++ (x6 ++ ([10] : List UInt8))), IntKind.i64.wrap (x2 + (1 : Int)), rfl, r5, H.less _ (fun fr => by kernel_rfl), A⟩)
              · exact hF.elim
    · replace H := H.know 10 hb (by kernel_rfl)
      refine aw_false (x := .tmp 10) (by kernel_rfl) H (fun fr => by kernel_rfl) ?_
      refine aw_exit (i := 0) (by kernel_rfl) ?_
      exact Exists.intro _ (And.intro (Option.some.inj hm).symm (fun e => Or.inl ⟨x1, rfl, e, r1, H.less _ (fun fr => by kernel_rfl), A⟩))
  · clear ho
    clear A
    intro e fr h11 hQ
    rcases hQ with ⟨x3, rfl, rfl, r2, H, A⟩ | ⟨x4, x5, rfl, rfl, H, A⟩ | hF
    · skip
      show AW cfg 13 g (right (right (right (bodyC cfg.P 13)))) fr h11 _
      refine aw_seq (by kernel_rfl) ?_
      refine aw_reg (id := 11) (n := 4) [(0, []), (1, []), (2, []), (3, [])] (by kernel_rfl) (by kernel_rfl) ?_
      refine at_seg [(0, [])] [(33, rowV r2 x3.length)] H (noU_all rfl) (fun fr => by kernel_rfl) ?_
      intro fr H
      refine at_step (v := .str x3) (h1 := h11) [(34, .str x3)] H (fun fr => by kernel_rfl) (fun fr => .of (s_byO (xs := x3) A 0 rfl (by kernel_rfl))) ?_
      intro fr t H
      refine at_seg [(2, []), (3, [])] [(2, .str x3), (3, .int .i64 (0 : Int))] H (noU_all rfl) (fun fr => by kernel_rfl) ?_
      intro fr H
      refine at_nil ?_
      show AW cfg 13 g (right (right (right (right (bodyC cfg.P 13))))) fr h11 _
      refine aw_ret (by kernel_rfl) ?_
      have e0 := Option.some.inj hm
      obtain ⟨y0, z0⟩ := Prod.mk.inj e0
      subst y0
      subst z0
      refine ⟨.inl rfl, .tuple [.str x3, .int .i64 (0 : Int)], resH H (fun fr => by kernel_rfl), ?_⟩
      replace A : HH g h11 [] F := (HH.dropF A 0)
      exact ⟨rfl, A⟩
    · skip
      have e0 := Option.some.inj hm
      obtain ⟨y0, z0⟩ := Prod.mk.inj e0
      subst y0
      subst z0
      refine ⟨.inl rfl, .tuple [.str x4, .int .i64 x5], resH H (fun fr => by kernel_rfl), ?_⟩
      exact ⟨rfl, A⟩
    · exact hF.elim
/-! ### boulter/exfile.Pack -/
noncomputable def M_exfile_Pack_L0 (p0 : List (List UInt8)) (s : (List UInt8) × Int) : Option (((List UInt8) × Int) ⊕ (((List UInt8)) ⊕ ((List UInt8) × Int))) :=
  match s with
  | (x1, x2) => iteB (decide (x2 < (p0.length : Int))) ((ixV p0 x2).bind fun x6 => (iteB (x6 == ([] : List UInt8)) (some true) ((M_strings_Contains_s1 x6).bind fun x8 => some x8) : Option (Bool)).bind fun x7 => iteB x7 (some (.inr (.inr (([] : List UInt8), (2 : Int))))) (need (decide (x6.length + ([0] : List UInt8).length ≤ 9223372036854775807)) <| need (okN 1 (x1.length + (x6 ++ ([0] : List UInt8)).length)) <| some (.inl ((x1 ++ (x6 ++ ([0] : List UInt8))), IntKind.i64.wrap (x2 + (1 : Int)))))) (some (.inr (.inl x1)))
noncomputable def M_exfile_Pack (p0 : List (List UInt8)) : Option ((List UInt8) × Int) :=
 (loop (M_exfile_Pack_L0 p0) (([] : List UInt8), (0 : Int))).bind fun o1 => (match o1 with | .inl x3 => some (x3, (0 : Int)) | .inr (x4, x5) => some (x4, x5))
theorem ok_exfile_Pack {g : Gd} {h : AHeap} {F : List Ck} {p0 : List (List UInt8)} {q0 : List UInt8} {q1 : Int} {av : List AVal} (hm : M_exfile_Pack p0 = some (q0, q1)) (hc : canL (cfg.still 14) av = [vs eS p0]) (A : HH g h [] F) : ∃ v h', Runs cfg g h 14 av v h' ∧ v = .tuple [.str q0, .int .i64 q1] ∧ HH g h' [] F := by
  refine runsQ1 (n := 26) (rs := [.tmp 2, .tmp 3]) (by kernel_rfl) hc (by kernel_rfl) ?_
  clear hc
  unfold M_exfile_Pack at hm
  refine start (n := 26) [(0, vs eS p0)] (by kernel_rfl) (by kernel_rfl) ?_
  intro fr H
  refine aw_seq (by kernel_rfl) ?_
  refine aw_reg (id := 0) (n := 2) [(0, []), (1, [])] (by kernel_rfl) (by kernel_rfl) ?_
  refine at_seg [(0, []), (1, [])] [(0, vs eS p0)] H (noU_all rfl) (fun fr => by kernel_rfl) ?_
  intro fr H
  refine at_nil ?_
  show AW cfg 14 g (right (bodyC cfg.P 14)) fr h _
  refine aw_seq (by kernel_rfl) ?_
  refine aw_reg (id := 1) (n := 1) [(0, [])] (by kernel_rfl) (by kernel_rfl) ?_
  refine at_seg [(0, [])] [(0, vs eS p0), (4, .slice none 0)] H (noU_all rfl) (fun fr => by kernel_rfl) ?_
  intro fr H
  refine at_nil ?_
  show AW cfg 14 g (right (right (bodyC cfg.P 14))) fr h _
  refine aw_seq (by kernel_rfl) ?_
  refine aw_seq (by kernel_rfl) ?_
  refine aw_reg (id := 2) (n := 3) [(0, []), (1, []), (2, [])] (by kernel_rfl) (by kernel_rfl) ?_
  refine at_seg [(0, []), (1, []), (2, [])] [(4, .slice none 0), (7, vs eS p0), (8, .int .i64 (p0.length : Int)), (9, .int .i64 (0 : Int))] H (noU_all rfl) (fun fr => by kernel_rfl) ?_
  intro fr H
  refine at_nil ?_
  show AW cfg 14 g (right (left (right (right (bodyC cfg.P 14))))) fr h _
  refine aw_block (id := 0) (by kernel_rfl) ?_
  replace A : HH g h [.lst none 5 (lst eY ([] : List UInt8))] F := A.nilL 5
  obtain ⟨o1, ho, hm⟩ := bind_some hm
  refine aw_mono (Q' := fun e fr' h' => (∃ (x3 : List UInt8), e = .exit 0 ∧ .inl x3 = o1 ∧ ∃ (r2 : Option Nat), Has fr' 26 [(4, rowV r2 x3.length)] ∧ HH g h' [.lst r2 5 (lst eY x3)] F) ∨ (∃ (x4 : List UInt8) (x5 : Int), e = .ret ∧ .inr (x4, x5) = o1 ∧ Has fr' 26 [(2, .str x4), (3, .int .i64 x5)] ∧ HH g h' [] F) ∨ False) ?_ ?_
  · refine aw_loop (by kernel_rfl) (fun (s : (List UInt8) × Int) fr' h' => ∃ (x1 : List UInt8) (x2 : Int), (x1, x2) = s ∧ ∃ (r1 : Option Nat), Has fr' 26 [(4, rowV r1 x1.length), (7, vs eS p0), (8, .int .i64 (p0.length : Int)), (9, .int .i64 x2)] ∧ HH g h' [.lst r1 5 (lst eY x1)] F) ho ⟨([] : List UInt8), (0 : Int), rfl, none, H.less _ (fun fr => by kernel_rfl), A⟩ ?_
    clear ho hm H A
    intro s q fr h1 hI hm
    obtain ⟨x1, x2, rfl, r1, H, A⟩ := hI
    unfold M_exfile_Pack_L0 at hm
    refine aw_seq (by kernel_rfl) ?_
    refine aw_reg (id := 3) (n := 1) [(0, [])] (by kernel_rfl) (by kernel_rfl) ?_
    refine at_seg [(0, [])] [(4, rowV r1 x1.length), (7, vs eS p0), (8, .int .i64 (p0.length : Int)), (9, .int .i64 x2), (10, .bool (decide (x2 < (p0.length : Int))))] H (noU_all rfl) (fun fr => by kernel_rfl) ?_
    intro fr H
    refine at_nil ?_
    show AW cfg 14 g (right (left (left (right (left (right (right (bodyC cfg.P 14)))))))) fr h1 _
    refine aw_seq (by kernel_rfl) ?_
    rcases iteB_some hm with ⟨hb, hm⟩ | ⟨hb, hm⟩
    · replace H := H.know 10 hb (by kernel_rfl)
      refine aw_true (x := .tmp 10) (by kernel_rfl) H (fun fr => by kernel_rfl) ?_
      refine aw_skip (by kernel_rfl) ?_
      show AW cfg 14 g (right (right (left (left (right (left (right (right (bodyC cfg.P 14))))))))) fr h1 _
      refine aw_seq (by kernel_rfl) ?_
      refine aw_block (id := 1) (by kernel_rfl) ?_
      refine aw_seq (by kernel_rfl) ?_
      refine aw_reg (id := 4) (n := 3) [(0, []), (1, []), (2, [])] (by kernel_rfl) (by kernel_rfl) ?_
      obtain ⟨x6, hx, hm⟩ := bind_some hm
      refine at_step (v := .vptr [.str x6]) (h1 := h1) [(4, rowV r1 x1.length), (7, vs eS p0), (8, .int .i64 (p0.length : Int)), (9, .int .i64 x2), (11, .vptr [.str x6])] H (fun fr => by kernel_rfl) (fun fr => .of (s_ixV (e := eS) (x := x6) encS (by decide) (by kernel_rfl) hx)) ?_
      intro fr t H
      refine at_step (v := .str x6) (h1 := h1) [(4, rowV r1 x1.length), (7, vs eS p0), (8, .int .i64 (p0.length : Int)), (9, .int .i64 x2), (12, .str x6)] H (fun fr => by kernel_rfl) (fun fr => .of (s_lv (by kernel_rfl))) ?_
      intro fr t H
      refine at_seg [(2, [])] [(4, rowV r1 x1.length), (6, .str x6), (7, vs eS p0), (8, .int .i64 (p0.length : Int)), (9, .int .i64 x2)] H (noU_all rfl) (fun fr => by kernel_rfl) ?_
      intro fr H
      refine at_nil ?_
      show AW cfg 14 g (right (left (left (right (right (left (left (right (left (right (right (bodyC cfg.P 14)))))))))))) fr h1 _
      refine aw_seq (by kernel_rfl) ?_
      refine aw_seq (by kernel_rfl) ?_
      refine aw_reg (id := 5) (n := 6) [(0, []), (1, []), (2, []), (3, []), (4, []), (5, [])] (by kernel_rfl) (by kernel_rfl) ?_
      refine at_seg [(0, []), (1, []), (2, [])] [(4, rowV r1 x1.length), (6, .str x6), (7, vs eS p0), (8, .int .i64 (p0.length : Int)), (9, .int .i64 x2), (15, .bool (x6 == ([] : List UInt8)))] H (noU_all rfl) (fun fr => by kernel_rfl) ?_
      intro fr H
      obtain ⟨x7, ho, hm⟩ := bind_some hm
      refine at_cut [(3, []), (4, []), (5, [])] (fun fr' h' => Has fr' 26 [(4, rowV r1 x1.length), (6, .str x6), (7, vs eS p0), (8, .int .i64 (p0.length : Int)), (9, .int .i64 x2), (18, .bool x7)] ∧ HH g h' [.lst r1 5 (lst eY x1)] F) ?_ ?_
      · rcases iteB_some ho with ⟨hb, hm⟩ | ⟨hb, hm⟩
        · replace H := H.know 15 hb (by kernel_rfl)
          refine at_seg [(3, []), (4, []), (5, [])] [(4, rowV r1 x1.length), (6, .str x6), (7, vs eS p0), (8, .int .i64 (p0.length : Int)), (9, .int .i64 x2), (18, .bool true)] H (noU_all rfl) (fun fr => by kernel_rfl) ?_
          intro fr H
          have e1 := Option.some.inj hm
          subst e1
          exact at_nil ⟨H.less _ (fun fr => by kernel_rfl), A⟩
        · replace H := H.know 15 hb (by kernel_rfl)
          refine at_seg [(3, [])] [(4, rowV r1 x1.length), (6, .str x6), (7, vs eS p0), (8, .int .i64 (p0.length : Int)), (9, .int .i64 x2), (15, .bool false), (16, .str x6)] H (noU_all rfl) (fun fr => by kernel_rfl) ?_
          intro fr H
          have A1 := A.cut 0
          obtain ⟨x8, hx, hm⟩ := bind_some hm
          obtain ⟨v1, h3, hr, rfl, A1⟩ := ok_strings_Contains_s1 (av := [.str x6, .str ([0] : List UInt8)]) hx (by kernel_rfl) A1
          replace A : HH g h3 [.lst r1 5 (lst eY x1)] F := A.glue0 (n := 0) A1
          refine at_step (v := .bool x8) (h1 := h3) [(4, rowV r1 x1.length), (6, .str x6), (7, vs eS p0), (8, .int .i64 (p0.length : Int)), (9, .int .i64 x2), (15, .bool false), (17, .bool x8)] H (fun fr => by kernel_rfl) (fun fr => Steps.call (by kernel_rfl) hr) ?_
          intro fr t H
          refine at_seg [(5, [])] [(4, rowV r1 x1.length), (6, .str x6), (7, vs eS p0), (8, .int .i64 (p0.length : Int)), (9, .int .i64 x2), (18, .bool x8)] H (noU_all rfl) (fun fr => by kernel_rfl) ?_
          intro fr H
          have e1 := Option.some.inj hm
          subst e1
          exact at_nil ⟨H.less _ (fun fr => by kernel_rfl), A⟩
      · clear A
        intro t fr h2 hK
        obtain ⟨H, A⟩ := hK
        refine at_nil ?_
        show AW cfg 14 g (right (left (right (left (left (right (right (left (left (right (left (right (right (bodyC cfg.P 14)))))))))))))) fr h2 _
        rcases iteB_some hm with ⟨hb, hm⟩ | ⟨hb, hm⟩
        · replace H := H.know 18 hb (by kernel_rfl)
          refine aw_true (x := .tmp 18) (by kernel_rfl) H (fun fr => by kernel_rfl) ?_
          refine aw_seq (by kernel_rfl) ?_
          refine aw_reg (id := 6) (n := 2) [(0, []), (1, [])] (by kernel_rfl) (by kernel_rfl) ?_
          refine at_seg [(0, []), (1, [])] [(2, .str ([] : List UInt8)), (3, .int .i64 (2 : Int))] H (noU_all rfl) (fun fr => by kernel_rfl) ?_
          intro fr H
          refine at_nil ?_
          show AW cfg 14 g (right (left (right (left (right (left (left (right (right (left (left (right (left (right (right (bodyC cfg.P 14)))))))))))))))) fr h2 _
          refine aw_ret (by kernel_rfl) ?_
          replace A : HH g h2 [] F := (HH.dropF A 0)
          exact Exists.intro _ (And.intro (Option.some.inj hm).symm (fun e => Or.inr (Or.inl ⟨([] : List UInt8), (2 : Int), rfl, e, H.less _ (fun fr => by kernel_rfl), A⟩)))
        · replace H := H.know 18 hb (by kernel_rfl)
          refine aw_false (x := .tmp 18) (by kernel_rfl) H (fun fr => by kernel_rfl) ?_
          refine aw_skip (by kernel_rfl) ?_
          show AW cfg 14 g (right (right (left (left (right (right (left (left (right (left (right (right (bodyC cfg.P 14))))))))))))) fr h2 _
          refine aw_reg (id := 7) (n := 5) [(0, []), (1, []), (2, []), (3, []), (4, [])] (by kernel_rfl) (by kernel_rfl) ?_
          refine at_seg [(0, []), (1, [])] [(7, vs eS p0), (8, .int .i64 (p0.length : Int)), (9, .int .i64 x2), (19, rowV r1 x1.length), (20, .str x6)] H (noU_all rfl) (fun fr => by kernel_rfl) ?_
          intro fr H
          obtain ⟨hb, hm⟩ := need_some hm
          refine at_step (v := .str (x6 ++ ([0] : List UInt8))) (h1 := h2) [(7, vs eS p0), (8, .int .i64 (p0.length : Int)), (9, .int .i64 x2), (19, rowV r1 x1.length), (21, .str (x6 ++ ([0] : List UInt8)))] H (fun fr => by kernel_rfl) (fun fr => .of (s_cat (by kernel_rfl) hb)) ?_
          intro fr t H
          obtain ⟨hb, hm⟩ := need_some hm
          obtain ⟨r3, h4, hx, A1⟩ := HH.appO encY (by decide) A 0 (xs := x1) (ys := x6 ++ ([0] : List UInt8)) rfl (firstS _ (x6 ++ ([0] : List UInt8))) (encY.canL _) rfl hb
          replace A : HH g h4 [.lst r3 5 (lst eY (x1 ++ (x6 ++ ([0] : List UInt8))))] F := A1
          refine at_step (v := rowV r3 ((x1 ++ (x6 ++ ([0] : List UInt8))).length)) (h1 := h4) [(7, vs eS p0), (8, .int .i64 (p0.length : Int)), (9, .int .i64 x2), (22, rowV r3 ((x1 ++ (x6 ++ ([0] : List UInt8))).length))] H (fun fr => by kernel_rfl) (fun fr => .of (s_app (s := rowS r1 x1.length) (by kernel_rfl) hx)) ?_
          intro fr t H
          refine at_seg [(4, [])] [(4, rowV r3 ((x1 ++ (x6 ++ ([0] : List UInt8))).length)), (7, vs eS p0), (8, .int .i64 (p0.length : Int)), (9, .int .i64 x2)] H (noU_all rfl) (fun fr => by kernel_rfl) ?_
          intro fr H
          refine at_nil ?_
          show AW cfg 14 g (right (right (right (left (left (right (left (right (right (bodyC cfg.P 14)))))))))) fr h4 _
          refine aw_reg (id := 8) (n := 2) [(0, []), (1, [])] (by kernel_rfl) (by kernel_rfl) ?_
          refine at_seg [(0, []), (1, [])] [(4, rowV r3 ((x1 ++ (x6 ++ ([0] : List UInt8))).length)), (7, vs eS p0), (8, .int .i64 (p0.length : Int)), (9, .int .i64 (IntKind.i64.wrap (x2 + (1 : Int))))] H (noU_all rfl) (fun fr => by kernel_rfl) ?_
          intro fr H
          refine at_nil ?_
          exact Exists.intro ((x1 ++ (x6 ++ ([0] : List UInt8))), IntKind.i64.wrap (x2 + (1 : Int))) (And.intro (Option.some.inj hm).symm ⟨(x1 ++ (x6 ++ ([0] : List UInt8))), IntKind.i64.wrap (x2 + (1 : Int)), rfl, r3, H.less _ (fun fr => by kernel_rfl), A⟩)
    · replace H := H.know 10 hb (by kernel_rfl)
      refine aw_false (x := .tmp 10) (by kernel_rfl) H (fun fr => by kernel_rfl) ?_
      refine aw_exit (i := 0) (by kernel_rfl) ?_
      exact Exists.intro _ (And.intro (Option.some.inj hm).symm (fun e => Or.inl ⟨x1, rfl, e, r1, H.less _ (fun fr => by kernel_rfl), A⟩))
  · clear ho
    clear A
    intro e fr h5 hQ
    rcases hQ with ⟨x3, rfl, rfl, r2, H, A⟩ | ⟨x4, x5, rfl, rfl, H, A⟩ | hF
    · skip
      show AW cfg 14 g (right (right (right (bodyC cfg.P 14)))) fr h5 _
      refine aw_seq (by kernel_rfl) ?_
      refine aw_reg (id := 9) (n := 4) [(0, []), (1, []), (2, []), (3, [])] (by kernel_rfl) (by kernel_rfl) ?_
      refine at_seg [(0, [])] [(24, rowV r2 x3.length)] H (noU_all rfl) (fun fr => by kernel_rfl) ?_
      intro fr H
      refine at_step (v := .str x3) (h1 := h5) [(25, .str x3)] H (fun fr => by kernel_rfl) (fun fr => .of (s_byO (xs := x3) A 0 rfl (by kernel_rfl))) ?_
      intro fr t H
      refine at_seg [(2, []), (3, [])] [(2, .str x3), (3, .int .i64 (0 : Int))] H (noU_all rfl) (fun fr => by kernel_rfl) ?_
      intro fr H
      refine at_nil ?_
      show AW cfg 14 g (right (right (right (right (bodyC cfg.P 14))))) fr h5 _
      refine aw_ret (by kernel_rfl) ?_
      have e0 := Option.some.inj hm
      obtain ⟨y0, z0⟩ := Prod.mk.inj e0
      subst y0
      subst z0
      refine ⟨.inl rfl, .tuple [.str x3, .int .i64 (0 : Int)], resH H (fun fr => by kernel_rfl), ?_⟩
      replace A : HH g h5 [] F := (HH.dropF A 0)
      exact ⟨rfl, A⟩
    · skip
      have e0 := Option.some.inj hm
      obtain ⟨y0, z0⟩ := Prod.mk.inj e0
      subst y0
      subst z0
      refine ⟨.inl rfl, .tuple [.str x4, .int .i64 x5], resH H (fun fr => by kernel_rfl), ?_⟩
      exact ⟨rfl, A⟩
    · exact hF.elim
/-! ### boulter/exfile.Lines -/
noncomputable def M_exfile_Lines_Y0 (s : (List (List UInt8))) (v1 : (List UInt8)) : Option (((List (List UInt8))) ⊕ (Unit)) :=
  match s with
  | x2 => (M_strings_TrimSuffix v1 ([10] : List UInt8)).bind fun x3 => (iteB (x3 == ([] : List UInt8)) (some true) ((ixS x3 (0 : Int)).bind fun x5 => some (x5 == (35 : Int))) : Option (Bool)).bind fun x4 => iteB x4 (some (.inl x2)) (((M_strings_HasPrefix x3 ([92, 35] : List UInt8)).bind fun x7 => iteB x7 ((subS x3 (some (1 : Int)) none).bind fun x8 => some x8) (some x3) : Option (((List UInt8)))).bind fun x6 => need (okN 16 (x2.length + ([x6] : List (List UInt8)).length)) <| some (.inl (x2 ++ ([x6] : List (List UInt8)))))
noncomputable def M_exfile_Lines (p0 : List UInt8) : Option ((List (List UInt8))) :=
 (M_strings_Lines p0).bind fun x1_10 => (M_strings_Lines_1_s0 (M_exfile_Lines_Y0) (.inl ([] : List (List UInt8))) x1_10).bind fun (x9, y1) => (match y1 with | .inl x2 => some x2 | .inr _ => none)
theorem ok_exfile_Lines {g : Gd} {h : AHeap} {F : List Ck} {p0 : List UInt8} {q0 : List (List UInt8)} {av : List AVal} (hm : M_exfile_Lines p0 = some q0) (hc : canL (cfg.still 18) av = [.str p0]) (A : HH g h [] F) : ∃ v h', Runs cfg g h 18 av v h' ∧ ∃ (rq0 : Option Nat), v = rowV rq0 q0.length ∧ HH g h' [.lst rq0 9 (lst eS q0)] F := by
  refine runsQ1 (n := 26) (rs := [.tmp 2]) (by kernel_rfl) hc (by kernel_rfl) ?_
  clear hc
  unfold M_exfile_Lines at hm
  refine start (n := 26) [(0, .str p0)] (by kernel_rfl) (by kernel_rfl) ?_
  intro fr H
  refine aw_seq (by kernel_rfl) ?_
  refine aw_reg (id := 0) (n := 1) [(0, [])] (by kernel_rfl) (by kernel_rfl) ?_
  refine at_seg [(0, [])] [(0, .str p0)] H (noU_all rfl) (fun fr => by kernel_rfl) ?_
  intro fr H
  refine at_nil ?_
  show AW cfg 18 g (right (bodyC cfg.P 18)) fr h _
  refine aw_seq (by kernel_rfl) ?_
  refine aw_reg (id := 1) (n := 1) [(0, [])] (by kernel_rfl) (by kernel_rfl) ?_
  obtain ⟨h1, e1⟩ : ∃ x, x = h.push (.cells none 2 [.slice none 0]) := ⟨_, rfl⟩
  replace A := (A.push _).to e1
  refine at_step (v := .ptr (some (h.size, 0))) (h1 := h1) [(0, .str p0), (3, .ptr (some (h.size, 0)))] H (fun fr => by kernel_rfl) (fun fr => .of (s_n' (by kernel_rfl) (congrArg some e1.symm))) ?_
  intro fr t H
  refine at_nil ?_
  show AW cfg 18 g (right (right (bodyC cfg.P 18))) fr h1 _
  refine aw_seq (by kernel_rfl) ?_
  refine aw_seq (by kernel_rfl) ?_
  refine aw_reg (id := 2) (n := 2) [(0, []), (1, [])] (by kernel_rfl) (by kernel_rfl) ?_
  refine at_seg [(0, [])] [(3, .ptr (some (h.size, 0))), (5, .str p0)] H (noU_all rfl) (fun fr => by kernel_rfl) ?_
  intro fr H
  have A1 := A.cut 0
  obtain ⟨x1_10, hx, hm⟩ := bind_some hm
  obtain ⟨v1, h2, hr, bqw1_10, rfl, A1⟩ := ok_strings_Lines (av := [.str p0]) hx (by kernel_rfl) A1
  replace A : HH g h2 [.obj bqw1_10 (.cells none 2 [.str x1_10]), .obj h.size (.cells none 2 [.slice none 0])] F := A.glue0 (n := 0) A1
  refine at_step (v := .func (.func 62) [] [.ptr (some (bqw1_10, 0))]) (h1 := h2) [(3, .ptr (some (h.size, 0))), (6, .func (.func 62) [] [.ptr (some (bqw1_10, 0))])] H (fun fr => by kernel_rfl) (fun fr => Steps.call (by kernel_rfl) hr) ?_
  intro fr t H
  refine at_nil ?_
  show AW cfg 18 g (right (left (right (right (bodyC cfg.P 18))))) fr h2 _
  refine aw_block (id := 0) (by kernel_rfl) ?_
  replace A : HH g h2 [.lst none 9 (lst eS ([] : List (List UInt8))), .obj bqw1_10 (.cells none 2 [.str x1_10]), .obj h.size (.cells none 2 [.slice none 0])] F := A.nilL 9
  replace A : HH g h2 [.obj bqw1_10 (.cells none 2 [.str x1_10]), .lst none 9 (lst eS ([] : List (List UInt8))), .obj h.size (.cells none 2 [rowV none (([] : List (List UInt8)).length)])] F := (((A.front 2 rfl).front 1 rfl).front 2 rfl)
  obtain ⟨⟨x9, y1⟩, ho, hm⟩ := bind_some hm
  refine aw_range (C := cfg) (x := .tmp 6) (ps := [7]) (f' := 62) (first := []) (cap := [.ptr (some (bqw1_10, 0))]) (Lu := [.obj bqw1_10 (.cells none 2 [.str x1_10])]) (Lc := [.lst none 9 (lst eS ([] : List (List UInt8))), .obj h.size (.cells none 2 [rowV none (([] : List (List UInt8)).length)])]) (F := F) (ex := fun x => [.str x]) (Y := M_exfile_Lines_Y0) (PL := fun s Lc => ∃ (x2 : List (List UInt8)), x2 = s ∧ ∃ (r1 : Option Nat), Lc = [.lst r1 9 (lst eS x2), .obj h.size (.cells none 2 [rowV r1 x2.length])]) (PR := fun r Lc => False) (pe := fun _ => .ret) (s := ([] : List (List UInt8))) (y := y1) (PU := fun L => L = [.obj bqw1_10 (.cells none 2 [.str x9])]) (by kernel_rfl) H (fun fr => by kernel_rfl) (by kernel_rfl) (fun _ => rfl) (by kernel_rfl) A ⟨([] : List (List UInt8)), rfl, none, rfl⟩ ?_ ?_ ?_ ?_ ?_
  · refine range_body H (kn := fun v1 => [(3, .ptr (some (h.size, 0))), (7, .str v1)]) (fun v1 fr => by kernel_rfl) ?_
    clear ho hm A H
    intro g h3 F s v1 o Lc fr H hP hm A
    obtain ⟨x2, rfl, r1, rfl⟩ := hP
    unfold M_exfile_Lines_Y0 at hm
    show AW cfg 18 g (left (left (right (left (right (right (bodyC cfg.P 18))))))) fr h3 _
    refine aw_reg (id := 3) (n := 1) [(0, [])] (by kernel_rfl) (by kernel_rfl) ?_
    refine at_seg [(0, [])] [(3, .ptr (some (h.size, 0))), (4, .str v1)] H (noU_all rfl) (fun fr => by kernel_rfl) ?_
    intro fr H
    refine at_nil ?_
    refine ⟨rfl, _, A, ?_⟩
    clear A
    intro h4 F A
    show AW cfg 18 g (right (left (right (left (right (right (bodyC cfg.P 18))))))) fr h4 _
    refine aw_block (id := 1) (by kernel_rfl) ?_
    refine aw_seq (by kernel_rfl) ?_
    refine aw_reg (id := 4) (n := 3) [(0, []), (1, []), (2, [])] (by kernel_rfl) (by kernel_rfl) ?_
    refine at_seg [(0, [])] [(3, .ptr (some (h.size, 0))), (8, .str v1)] H (noU_all rfl) (fun fr => by kernel_rfl) ?_
    intro fr H
    have A1 := A.cut 0
    obtain ⟨x3, hx, hm⟩ := bind_some hm
    obtain ⟨v1, h5, hr, rfl, A1⟩ := ok_strings_TrimSuffix (av := [.str v1, .str ([10] : List UInt8)]) hx (by kernel_rfl) A1
    replace A : HH g h5 [.lst r1 9 (lst eS x2), .obj h.size (.cells none 2 [rowV r1 x2.length])] F := A.glue0 (n := 0) A1
    refine at_step (v := .str x3) (h1 := h5) [(3, .ptr (some (h.size, 0))), (9, .str x3)] H (fun fr => by kernel_rfl) (fun fr => Steps.call (by kernel_rfl) hr) ?_
    intro fr t H
    refine at_seg [(2, [])] [(3, .ptr (some (h.size, 0))), (4, .str x3)] H (noU_all rfl) (fun fr => by kernel_rfl) ?_
    intro fr H
    refine at_nil ?_
    show AW cfg 18 g (right (left (right (left (right (left (right (right (bodyC cfg.P 18))))))))) fr h5 _
    refine aw_seq (by kernel_rfl) ?_
    refine aw_seq (by kernel_rfl) ?_
    refine aw_reg (id := 5) (n := 7) [(0, []), (1, []), (2, []), (3, []), (4, []), (5, []), (6, [])] (by kernel_rfl) (by kernel_rfl) ?_
    refine at_seg [(0, []), (1, []), (2, [])] [(3, .ptr (some (h.size, 0))), (4, .str x3), (12, .bool (x3 == ([] : List UInt8)))] H (noU_all rfl) (fun fr => by kernel_rfl) ?_
    intro fr H
    obtain ⟨x4, ho, hm⟩ := bind_some hm
    refine at_cut [(3, []), (4, []), (5, []), (6, [])] (fun fr' h' => Has fr' 26 [(3, .ptr (some (h.size, 0))), (4, .str x3), (16, .bool x4)] ∧ HH g h' [.lst r1 9 (lst eS x2), .obj h.size (.cells none 2 [rowV r1 x2.length])] F) ?_ ?_
    · rcases iteB_some ho with ⟨hb, hm⟩ | ⟨hb, hm⟩
      · replace H := H.know 12 hb (by kernel_rfl)
        refine at_seg [(3, []), (4, []), (5, []), (6, [])] [(3, .ptr (some (h.size, 0))), (4, .str x3), (16, .bool true)] H (noU_all rfl) (fun fr => by kernel_rfl) ?_
        intro fr H
        have e1 := Option.some.inj hm
        subst e1
        exact at_nil ⟨H.less _ (fun fr => by kernel_rfl), A⟩
      · replace H := H.know 12 hb (by kernel_rfl)
        refine at_seg [(3, [])] [(3, .ptr (some (h.size, 0))), (4, .str x3), (12, .bool false), (13, .str x3)] H (noU_all rfl) (fun fr => by kernel_rfl) ?_
        intro fr H
        obtain ⟨x5, hx, hm⟩ := bind_some hm
        refine at_step (v := .int .u8 x5) (h1 := h5) [(3, .ptr (some (h.size, 0))), (4, .str x3), (12, .bool false), (14, .int .u8 x5)] H (fun fr => by kernel_rfl) (fun fr => .of (s_ixS (by kernel_rfl) hx)) ?_
        intro fr t H
        refine at_seg [(5, []), (6, [])] [(3, .ptr (some (h.size, 0))), (4, .str x3), (16, .bool (x5 == (35 : Int)))] H (noU_all rfl) (fun fr => by kernel_rfl) ?_
        intro fr H
        have e1 := Option.some.inj hm
        subst e1
        exact at_nil ⟨H.less _ (fun fr => by kernel_rfl), A⟩
    · clear A
      intro t fr h6 hK
      obtain ⟨H, A⟩ := hK
      refine at_nil ?_
      show AW cfg 18 g (right (left (right (left (right (left (right (left (right (right (bodyC cfg.P 18))))))))))) fr h6 _
      rcases iteB_some hm with ⟨hb, hm⟩ | ⟨hb, hm⟩
      · replace H := H.know 16 hb (by kernel_rfl)
        refine aw_true (x := .tmp 16) (by kernel_rfl) H (fun fr => by kernel_rfl) ?_
        refine aw_exit (i := 1) (by kernel_rfl) ?_
        have e1 := Option.some.inj hm
        subst e1
        exact ⟨rfl, _, ⟨x2, rfl, r1, rfl⟩, A⟩
      · replace H := H.know 16 hb (by kernel_rfl)
        refine aw_false (x := .tmp 16) (by kernel_rfl) H (fun fr => by kernel_rfl) ?_
        refine aw_skip (by kernel_rfl) ?_
        show AW cfg 18 g (right (right (left (right (left (right (left (right (right (bodyC cfg.P 18)))))))))) fr h6 _
        refine aw_seq (by kernel_rfl) ?_
        obtain ⟨o1, ho, hm⟩ := bind_some hm
        refine aw_mono (Q' := fun e fr' h' => (∃ (x6 : List UInt8), e = .normal ∧ x6 = o1 ∧ Has fr' 26 [(3, .ptr (some (h.size, 0))), (4, .str x6)] ∧ HH g h' [.lst r1 9 (lst eS x2), .obj h.size (.cells none 2 [rowV r1 x2.length])] F) ∨ False) ?_ ?_
        · replace hm := ho
          clear ho
          refine aw_seq (by kernel_rfl) ?_
          refine aw_reg (id := 6) (n := 2) [(0, []), (1, [])] (by kernel_rfl) (by kernel_rfl) ?_
          refine at_seg [(0, [])] [(3, .ptr (some (h.size, 0))), (4, .str x3), (17, .str x3)] H (noU_all rfl) (fun fr => by kernel_rfl) ?_
          intro fr H
          have A1 := A.cut 0
          obtain ⟨x7, hx, hm⟩ := bind_some hm
          obtain ⟨v1, h7, hr, rfl, A1⟩ := ok_strings_HasPrefix (av := [.str x3, .str ([92, 35] : List UInt8)]) hx (by kernel_rfl) A1
          replace A : HH g h7 [.lst r1 9 (lst eS x2), .obj h.size (.cells none 2 [rowV r1 x2.length])] F := A.glue0 (n := 0) A1
          refine at_step (v := .bool x7) (h1 := h7) [(3, .ptr (some (h.size, 0))), (4, .str x3), (18, .bool x7)] H (fun fr => by kernel_rfl) (fun fr => Steps.call (by kernel_rfl) hr) ?_
          intro fr t H
          refine at_nil ?_
          show AW cfg 18 g (right (left (right (right (left (right (left (right (left (right (right (bodyC cfg.P 18)))))))))))) fr h7 _
          rcases iteB_some hm with ⟨hb, hm⟩ | ⟨hb, hm⟩
          · replace H := H.know 18 hb (by kernel_rfl)
            refine aw_true (x := .tmp 18) (by kernel_rfl) H (fun fr => by kernel_rfl) ?_
            refine aw_reg (id := 7) (n := 3) [(0, []), (1, []), (2, [])] (by kernel_rfl) (by kernel_rfl) ?_
            refine at_seg [(0, [])] [(3, .ptr (some (h.size, 0))), (19, .str x3)] H (noU_all rfl) (fun fr => by kernel_rfl) ?_
            intro fr H
            obtain ⟨x8, hx, hm⟩ := bind_some hm
            refine at_step (v := .str x8) (h1 := h7) [(3, .ptr (some (h.size, 0))), (20, .str x8)] H (fun fr => by kernel_rfl) (fun fr => .of (s_subS (k := .i64) (k' := .i64) (lo := (some (1 : Int))) (hi := none) (by kernel_rfl) hx)) ?_
            intro fr t H
            refine at_seg [(2, [])] [(3, .ptr (some (h.size, 0))), (4, .str x8)] H (noU_all rfl) (fun fr => by kernel_rfl) ?_
            intro fr H
            refine at_nil ?_
            exact Or.inl ⟨x8, rfl, Option.some.inj hm, H.less _ (fun fr => by kernel_rfl), A⟩
          · replace H := H.know 18 hb (by kernel_rfl)
            refine aw_false (x := .tmp 18) (by kernel_rfl) H (fun fr => by kernel_rfl) ?_
            refine aw_skip (by kernel_rfl) ?_
            exact Or.inl ⟨x3, rfl, Option.some.inj hm, H.less _ (fun fr => by kernel_rfl), A⟩
        · clear ho
          clear A
          intro e fr h8 hQ
          rcases hQ with ⟨x6, rfl, rfl, H, A⟩ | hF
          · skip
            show AW cfg 18 g (right (right (right (left (right (left (right (left (right (right (bodyC cfg.P 18))))))))))) fr h8 _
            refine aw_reg (id := 8) (n := 5) [(0, []), (1, []), (2, []), (3, []), (4, [])] (by kernel_rfl) (by kernel_rfl) ?_
            refine at_step (v := rowV r1 x2.length) (h1 := h8) [(3, .ptr (some (h.size, 0))), (4, .str x6), (21, rowV r1 x2.length)] H (fun fr => by kernel_rfl) (fun fr => .of (s_ld (by kernel_rfl) (A.ld1 1 rfl (o := 0) rfl))) ?_
            intro fr t H
            refine at_seg [(1, [])] [(3, .ptr (some (h.size, 0))), (21, rowV r1 x2.length), (22, .str x6)] H (noU_all rfl) (fun fr => by kernel_rfl) ?_
            intro fr H
            obtain ⟨h9, e2⟩ : ∃ x, x = h8.push (.cells (some 9) 2 [.str x6]) := ⟨_, rfl⟩
            replace A := (A.pushL _ _).to e2
            refine at_step (v := rowV (some h8.size) (([x6] : List (List UInt8)).length)) (h1 := h9) [(3, .ptr (some (h.size, 0))), (21, rowV r1 x2.length), (23, rowV (some h8.size) (([x6] : List (List UInt8)).length))] H (fun fr => by kernel_rfl) (fun fr => .of (s_n' (by kernel_rfl) (congrArg some e2.symm))) ?_
            intro fr t H
            obtain ⟨hb, hm⟩ := need_some hm
            obtain ⟨r2, h10, hx, A1⟩ := HH.appO encS (by decide) A 1 (xs := x2) (ys := ([x6] : List (List UInt8))) rfl (row_first A 0 rfl (n := ([x6] : List (List UInt8)).length) (z := 1) rfl (by decide)) rfl rfl hb
            replace A : HH g h10 [.lst (some h8.size) 9 ([.str x6]), .lst r2 9 (lst eS (x2 ++ ([x6] : List (List UInt8)))), .obj h.size (.cells none 2 [rowV r1 x2.length])] F := A1
            replace A : HH g h10 [.lst r2 9 (lst eS (x2 ++ ([x6] : List (List UInt8)))), .obj h.size (.cells none 2 [rowV r1 x2.length])] F := (HH.dropF ((A.front 2 rfl).front 2 rfl) 2)
            refine at_step (v := rowV r2 ((x2 ++ ([x6] : List (List UInt8))).length)) (h1 := h10) [(3, .ptr (some (h.size, 0))), (24, rowV r2 ((x2 ++ ([x6] : List (List UInt8))).length))] H (fun fr => by kernel_rfl) (fun fr => .of (s_app (s := rowS r1 x2.length) (by kernel_rfl) hx)) ?_
            intro fr t H
            obtain ⟨h11, hx, A1⟩ := A.st 1 rfl (o := 0) (new := [rowV r2 ((x2 ++ ([x6] : List (List UInt8))).length)]) (ds := [rowV r2 ((x2 ++ ([x6] : List (List UInt8))).length)]) (Nat.le_of_ble_eq_true rfl) rfl rfl
            replace A : HH g h11 [.lst r2 9 (lst eS (x2 ++ ([x6] : List (List UInt8)))), .obj h.size (.cells none 2 [rowV r2 ((x2 ++ ([x6] : List (List UInt8))).length)])] F := A1
            refine at_step (v := .tuple []) (h1 := h11) [] H (fun fr => by kernel_rfl) (fun fr => .of (s_st (by kernel_rfl) rfl hx)) ?_
            intro fr t H
            refine at_nil ?_
            have e1 := Option.some.inj hm
            subst e1
            exact ⟨rfl, _, ⟨(x2 ++ ([x6] : List (List UInt8))), rfl, r2, rfl⟩, A⟩
          · exact hF.elim
  · intro h1 l F1 R hYR B A
    obtain ⟨v1, h2, hr, _, F2, B, A⟩ := ok_strings_Lines_1_s0 (av := [.yfn l, .ptr (some (bqw1_10, 0))]) ho (by kernel_rfl) hYR B A
    exact ⟨v1, h2, F2, _, hr, B, rfl, A⟩
  · clear ho A
    intro s2 h12 Lc Lu ey hP hU A
    subst ey
    obtain ⟨x2, rfl, r1, rfl⟩ := hP
    subst hU
    replace A : HH g h12 [.obj bqw1_10 (.cells none 2 [.str x9]), .lst r1 9 (lst eS x2), .obj h.size (.cells none 2 [rowV r1 x2.length])] F := A
    show AW cfg 18 g (right (right (right (bodyC cfg.P 18)))) fr h12 _
    refine aw_seq (by kernel_rfl) ?_
    refine aw_reg (id := 9) (n := 2) [(0, []), (1, [])] (by kernel_rfl) (by kernel_rfl) ?_
    refine at_step (v := rowV r1 x2.length) (h1 := h12) [(25, rowV r1 x2.length)] H (fun fr => by kernel_rfl) (fun fr => .of (s_ld (by kernel_rfl) (A.ld1 2 rfl (o := 0) rfl))) ?_
    intro fr t H
    refine at_seg [(1, [])] [(2, rowV r1 x2.length)] H (noU_all rfl) (fun fr => by kernel_rfl) ?_
    intro fr H
    refine at_nil ?_
    show AW cfg 18 g (right (right (right (right (bodyC cfg.P 18))))) fr h12 _
    refine aw_ret (by kernel_rfl) ?_
    have e1 := Option.some.inj hm
    subst e1
    refine ⟨.inl rfl, rowV r1 x2.length, resH H (fun fr => by kernel_rfl), ?_⟩
    replace A : HH g h12 [.lst r1 9 (lst eS x2)] F := (HH.dropF (A.front 1 rfl) 1)
    exact ⟨r1, rfl, A⟩
  · clear ho A
    intro r2 h12 Lc Lu e ey he hP hU A
    subst ey
    subst hU
    exact False.elim hP
  · exact fun _ => ⟨.ret, rfl⟩
end Go.Av.L
