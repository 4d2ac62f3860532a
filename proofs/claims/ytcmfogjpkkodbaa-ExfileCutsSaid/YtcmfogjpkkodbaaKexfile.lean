/-
  Models of functions of package exfile, and that the abstract run tells them. Written by lift2.py.
-/
import Derived.Test.YtcmfogjpkkodbaaKCfg
import Derived.Test.YtcmfogjpkkodbaaKstrings
namespace Go.Av.L
open Go.Av
set_option linter.unusedVariables false
set_option linter.unusedSimpArgs false
/-! ### boulter/exfile.Cut -/
noncomputable def M_exfile_Cut_L0 (p0 : List UInt8) (s : Int × Int) : Option ((Int × Int) ⊕ ((Int) ⊕ ((List UInt8) × (List UInt8) × Bool))) :=
  match s with
  | (x1, x2) => iteB (decide (x1 > (0 : Int))) ((iteB (x2 == (p0.length : Int)) (some (.inr (([] : List UInt8), ([] : List UInt8), false))) ((subS p0 (some x2) none).bind fun x11 => (M_strings_IndexByte x11 (10 : Int)).bind fun x12 => iteB (decide (x12 < (0 : Int))) (some (.inl (p0.length : Int))) (some (.inl (IntKind.i64.wrap (x2 + (IntKind.i64.wrap (x12 + (1 : Int)))))))) : Option ((Int) ⊕ ((List UInt8) × (List UInt8) × Bool))).bind fun o2 => (match o2 with | .inl x7 => some (.inl (IntKind.i64.wrap (x1 - (1 : Int)), x7)) | .inr (x8, x9, x10) => some (.inr (.inr (x8, x9, x10))))) (some (.inr (.inl x2)))
noncomputable def M_exfile_Cut (p0 : List UInt8) (p1 : Int) : Option ((List UInt8) × (List UInt8) × Bool) :=
 iteB (decide (p1 < (0 : Int))) (some (([] : List UInt8), ([] : List UInt8), false)) ((loop (M_exfile_Cut_L0 p0) (p1, (0 : Int))).bind fun o1 => (match o1 with | .inl x3 => (subS p0 none (some x3)).bind fun x13 => (subS p0 (some x3) none).bind fun x14 => some (x13, x14, true) | .inr (x4, x5, x6) => some (x4, x5, x6)))
theorem ok_exfile_Cut {g : Gd} {h : AHeap} {F : List Ck} {p0 : List UInt8} {p1 : Int} {q0 : List UInt8} {q1 : List UInt8} {q2 : Bool} {av : List AVal} (hm : M_exfile_Cut p0 p1 = some (q0, q1, q2)) (hc : canL (cfg.still 10) av = [.str p0, .int .i64 p1]) (A : HH g h [] F) : ∃ v h', Runs cfg g h 10 av v h' ∧ v = .tuple [.str q0, .str q1, .bool q2] ∧ HH g h' [] F := by
  refine runsQ1 (n := 37) (rs := [.tmp 4, .tmp 5, .tmp 6]) (by kernel_rfl) hc (by kernel_rfl) ?_
  clear hc
  unfold M_exfile_Cut at hm
  refine start (n := 37) [(0, .str p0), (1, .int .i64 p1)] (by kernel_rfl) (by kernel_rfl) ?_
  intro fr H
  refine aw_seq (by kernel_rfl) ?_
  refine aw_reg (id := 0) (n := 3) [(0, []), (1, []), (2, [])] (by kernel_rfl) (by kernel_rfl) ?_
  refine at_seg [(0, []), (1, []), (2, [])] [(0, .str p0), (1, .int .i64 p1)] H (noU_all rfl) (fun fr => by kernel_rfl) ?_
  intro fr H
  refine at_nil ?_
  show AW cfg 10 g (right (bodyC cfg.P 10)) fr h _
  refine aw_seq (by kernel_rfl) ?_
  refine aw_seq (by kernel_rfl) ?_
  refine aw_reg (id := 1) (n := 2) [(0, []), (1, [])] (by kernel_rfl) (by kernel_rfl) ?_
  refine at_seg [(0, []), (1, [])] [(0, .str p0), (1, .int .i64 p1), (10, .bool (decide (p1 < (0 : Int))))] H (noU_all rfl) (fun fr => by kernel_rfl) ?_
  intro fr H
  refine at_nil ?_
  show AW cfg 10 g (right (left (right (bodyC cfg.P 10)))) fr h _
  rcases iteB_some hm with ⟨hb, hm⟩ | ⟨hb, hm⟩
  · replace H := H.know 10 hb (by kernel_rfl)
    refine aw_true (x := .tmp 10) (by kernel_rfl) H (fun fr => by kernel_rfl) ?_
    refine aw_seq (by kernel_rfl) ?_
    refine aw_reg (id := 2) (n := 3) [(0, []), (1, []), (2, [])] (by kernel_rfl) (by kernel_rfl) ?_
    refine at_seg [(0, []), (1, []), (2, [])] [(4, .str ([] : List UInt8)), (5, .str ([] : List UInt8)), (6, .bool false)] H (noU_all rfl) (fun fr => by kernel_rfl) ?_
    intro fr H
    refine at_nil ?_
    show AW cfg 10 g (right (left (right (left (right (bodyC cfg.P 10)))))) fr h _
    refine aw_ret (by kernel_rfl) ?_
    have e0 := Option.some.inj hm
    obtain ⟨y0, z0⟩ := Prod.mk.inj e0
    obtain ⟨y1, z1⟩ := Prod.mk.inj z0
    subst y0
    subst y1
    subst z1
    refine ⟨.inl rfl, .tuple [.str ([] : List UInt8), .str ([] : List UInt8), .bool false], resH H (fun fr => by kernel_rfl), ?_⟩
    exact ⟨rfl, A⟩
  · replace H := H.know 10 hb (by kernel_rfl)
    refine aw_false (x := .tmp 10) (by kernel_rfl) H (fun fr => by kernel_rfl) ?_
    refine aw_skip (by kernel_rfl) ?_
    show AW cfg 10 g (right (right (bodyC cfg.P 10))) fr h _
    refine aw_seq (by kernel_rfl) ?_
    refine aw_reg (id := 3) (n := 1) [(0, [])] (by kernel_rfl) (by kernel_rfl) ?_
    refine at_seg [(0, [])] [(0, .str p0), (1, .int .i64 p1), (7, .int .i64 (0 : Int))] H (noU_all rfl) (fun fr => by kernel_rfl) ?_
    intro fr H
    refine at_nil ?_
    show AW cfg 10 g (right (right (right (bodyC cfg.P 10)))) fr h _
    refine aw_seq (by kernel_rfl) ?_
    refine aw_block (id := 0) (by kernel_rfl) ?_
    obtain ⟨o1, ho, hm⟩ := bind_some hm
    refine aw_mono (Q' := fun e fr' h' => (∃ (x3 : Int), e = .exit 0 ∧ .inl x3 = o1 ∧ Has fr' 37 [(0, .str p0), (7, .int .i64 x3)] ∧ HH g h' [] F) ∨ (∃ (x4 : List UInt8) (x5 : List UInt8) (x6 : Bool), e = .ret ∧ .inr (x4, x5, x6) = o1 ∧ Has fr' 37 [(4, .str x4), (5, .str x5), (6, .bool x6)] ∧ HH g h' [] F) ∨ False) ?_ ?_
    · refine aw_loop (by kernel_rfl) (fun (s : Int × Int) fr' h' => ∃ (x1 : Int) (x2 : Int), (x1, x2) = s ∧ Has fr' 37 [(0, .str p0), (1, .int .i64 x1), (7, .int .i64 x2)] ∧ HH g h' [] F) ho ⟨p1, (0 : Int), rfl, H.less _ (fun fr => by kernel_rfl), A⟩ ?_
      clear ho hm H A
      intro s q fr h1 hI hm
      obtain ⟨x1, x2, rfl, H, A⟩ := hI
      unfold M_exfile_Cut_L0 at hm
      refine aw_seq (by kernel_rfl) ?_
      refine aw_seq (by kernel_rfl) ?_
      refine aw_reg (id := 4) (n := 2) [(0, []), (1, [])] (by kernel_rfl) (by kernel_rfl) ?_
      refine at_seg [(0, []), (1, [])] [(0, .str p0), (1, .int .i64 x1), (7, .int .i64 x2), (12, .bool (decide (x1 > (0 : Int))))] H (noU_all rfl) (fun fr => by kernel_rfl) ?_
      intro fr H
      refine at_nil ?_
      show AW cfg 10 g (right (left (left (left (left (right (right (right (bodyC cfg.P 10))))))))) fr h1 _
      rcases iteB_some hm with ⟨hb, hm⟩ | ⟨hb, hm⟩
      · replace H := H.know 12 hb (by kernel_rfl)
        refine aw_true (x := .tmp 12) (by kernel_rfl) H (fun fr => by kernel_rfl) ?_
        refine aw_skip (by kernel_rfl) ?_
        show AW cfg 10 g (right (left (left (left (right (right (right (bodyC cfg.P 10)))))))) fr h1 _
        refine aw_seq (by kernel_rfl) ?_
        obtain ⟨o2, ho, hm⟩ := bind_some hm
        refine aw_mono (Q' := fun e fr' h' => (∃ (x7 : Int), e = .normal ∧ .inl x7 = o2 ∧ Has fr' 37 [(0, .str p0), (1, .int .i64 x1), (7, .int .i64 x7)] ∧ HH g h' [] F) ∨ (∃ (x8 : List UInt8) (x9 : List UInt8) (x10 : Bool), e = .ret ∧ .inr (x8, x9, x10) = o2 ∧ Has fr' 37 [(4, .str x8), (5, .str x9), (6, .bool x10)] ∧ HH g h' [] F) ∨ False) ?_ ?_
        · replace hm := ho
          clear ho
          refine aw_block (id := 1) (by kernel_rfl) ?_
          refine aw_seq (by kernel_rfl) ?_
          refine aw_seq (by kernel_rfl) ?_
          refine aw_reg (id := 6) (n := 4) [(0, []), (1, []), (2, []), (3, [])] (by kernel_rfl) (by kernel_rfl) ?_
          refine at_seg [(0, []), (1, []), (2, []), (3, [])] [(0, .str p0), (1, .int .i64 x1), (7, .int .i64 x2), (18, .bool (x2 == (p0.length : Int)))] H (noU_all rfl) (fun fr => by kernel_rfl) ?_
          intro fr H
          refine at_nil ?_
          show AW cfg 10 g (right (left (left (left (right (left (left (left (right (right (right (bodyC cfg.P 10)))))))))))) fr h1 _
          rcases iteB_some hm with ⟨hb, hm⟩ | ⟨hb, hm⟩
          · replace H := H.know 18 hb (by kernel_rfl)
            refine aw_true (x := .tmp 18) (by kernel_rfl) H (fun fr => by kernel_rfl) ?_
            refine aw_seq (by kernel_rfl) ?_
            refine aw_reg (id := 7) (n := 3) [(0, []), (1, []), (2, [])] (by kernel_rfl) (by kernel_rfl) ?_
            refine at_seg [(0, []), (1, []), (2, [])] [(4, .str ([] : List UInt8)), (5, .str ([] : List UInt8)), (6, .bool false)] H (noU_all rfl) (fun fr => by kernel_rfl) ?_
            intro fr H
            refine at_nil ?_
            show AW cfg 10 g (right (left (right (left (left (left (right (left (left (left (right (right (right (bodyC cfg.P 10)))))))))))))) fr h1 _
            refine aw_ret (by kernel_rfl) ?_
            exact Or.inr (Or.inl ⟨([] : List UInt8), ([] : List UInt8), false, rfl, Option.some.inj hm, H.less _ (fun fr => by kernel_rfl), A⟩)
          · replace H := H.know 18 hb (by kernel_rfl)
            refine aw_false (x := .tmp 18) (by kernel_rfl) H (fun fr => by kernel_rfl) ?_
            refine aw_skip (by kernel_rfl) ?_
            show AW cfg 10 g (right (left (left (right (left (left (left (right (right (right (bodyC cfg.P 10))))))))))) fr h1 _
            refine aw_seq (by kernel_rfl) ?_
            refine aw_reg (id := 8) (n := 5) [(0, []), (1, []), (2, []), (3, []), (4, [])] (by kernel_rfl) (by kernel_rfl) ?_
            refine at_seg [(0, []), (1, [])] [(0, .str p0), (1, .int .i64 x1), (7, .int .i64 x2), (19, .str p0), (20, .int .i64 x2)] H (noU_all rfl) (fun fr => by kernel_rfl) ?_
            intro fr H
            obtain ⟨x11, hx, hm⟩ := bind_some hm
            refine at_step (v := .str x11) (h1 := h1) [(0, .str p0), (1, .int .i64 x1), (7, .int .i64 x2), (21, .str x11)] H (fun fr => by kernel_rfl) (fun fr => .of (s_subS (k := .i64) (k' := .i64) (lo := (some x2)) (hi := none) (by kernel_rfl) hx)) ?_
            intro fr t H
            have A1 := A.cut 0
            obtain ⟨x12, hx, hm⟩ := bind_some hm
            obtain ⟨v1, h2, hr, rfl, A1⟩ := ok_strings_IndexByte (av := [.str x11, .int .u8 (10 : Int)]) hx (by kernel_rfl) A1
            replace A : HH g h2 [] F := A.glue0 (n := 0) A1
            refine at_step (v := .int .i64 x12) (h1 := h2) [(0, .str p0), (1, .int .i64 x1), (7, .int .i64 x2), (22, .int .i64 x12)] H (fun fr => by kernel_rfl) (fun fr => Steps.call (by kernel_rfl) hr) ?_
            intro fr t H
            refine at_seg [(4, [])] [(0, .str p0), (1, .int .i64 x1), (7, .int .i64 x2), (8, .int .i64 x12)] H (noU_all rfl) (fun fr => by kernel_rfl) ?_
            intro fr H
            refine at_nil ?_
            show AW cfg 10 g (right (right (left (left (right (left (left (left (right (right (right (bodyC cfg.P 10)))))))))))) fr h2 _
            refine aw_seq (by kernel_rfl) ?_
            refine aw_seq (by kernel_rfl) ?_
            refine aw_reg (id := 9) (n := 2) [(0, []), (1, [])] (by kernel_rfl) (by kernel_rfl) ?_
            refine at_seg [(0, []), (1, [])] [(0, .str p0), (1, .int .i64 x1), (7, .int .i64 x2), (8, .int .i64 x12), (24, .bool (decide (x12 < (0 : Int))))] H (noU_all rfl) (fun fr => by kernel_rfl) ?_
            intro fr H
            refine at_nil ?_
            show AW cfg 10 g (right (left (right (right (left (left (right (left (left (left (right (right (right (bodyC cfg.P 10)))))))))))))) fr h2 _
            rcases iteB_some hm with ⟨hb, hm⟩ | ⟨hb, hm⟩
            · replace H := H.know 24 hb (by kernel_rfl)
              refine aw_true (x := .tmp 24) (by kernel_rfl) H (fun fr => by kernel_rfl) ?_
              refine aw_seq (by kernel_rfl) ?_
              refine aw_reg (id := 10) (n := 3) [(0, []), (1, []), (2, [])] (by kernel_rfl) (by kernel_rfl) ?_
              refine at_seg [(0, []), (1, []), (2, [])] [(0, .str p0), (1, .int .i64 x1), (7, .int .i64 (p0.length : Int))] H (noU_all rfl) (fun fr => by kernel_rfl) ?_
              intro fr H
              refine at_nil ?_
              show AW cfg 10 g (right (left (right (left (right (right (left (left (right (left (left (left (right (right (right (bodyC cfg.P 10)))))))))))))))) fr h2 _
              refine aw_exit (i := 1) (by kernel_rfl) ?_
              exact Or.inl ⟨(p0.length : Int), rfl, Option.some.inj hm, H.less _ (fun fr => by kernel_rfl), A⟩
            · replace H := H.know 24 hb (by kernel_rfl)
              refine aw_false (x := .tmp 24) (by kernel_rfl) H (fun fr => by kernel_rfl) ?_
              refine aw_skip (by kernel_rfl) ?_
              show AW cfg 10 g (right (right (right (left (left (right (left (left (left (right (right (right (bodyC cfg.P 10))))))))))))) fr h2 _
              refine aw_reg (id := 11) (n := 5) [(0, []), (1, []), (2, []), (3, []), (4, [])] (by kernel_rfl) (by kernel_rfl) ?_
              refine at_seg [(0, []), (1, []), (2, []), (3, []), (4, [])] [(0, .str p0), (1, .int .i64 x1), (7, .int .i64 (IntKind.i64.wrap (x2 + (IntKind.i64.wrap (x12 + (1 : Int))))))] H (noU_all rfl) (fun fr => by kernel_rfl) ?_
              intro fr H
              refine at_nil ?_
              exact Or.inl ⟨IntKind.i64.wrap (x2 + (IntKind.i64.wrap (x12 + (1 : Int)))), rfl, Option.some.inj hm, H.less _ (fun fr => by kernel_rfl), A⟩
        · clear ho
          clear A
          intro e fr h3 hQ
          rcases hQ with ⟨x7, rfl, rfl, H, A⟩ | ⟨x8, x9, x10, rfl, rfl, H, A⟩ | hF
          · skip
            show AW cfg 10 g (right (right (left (left (left (right (right (right (bodyC cfg.P 10))))))))) fr h3 _
            refine aw_reg (id := 5) (n := 3) [(0, []), (1, []), (2, [])] (by kernel_rfl) (by kernel_rfl) ?_
            refine at_seg [(0, []), (1, []), (2, [])] [(0, .str p0), (1, .int .i64 (IntKind.i64.wrap (x1 - (1 : Int)))), (7, .int .i64 x7)] H (noU_all rfl) (fun fr => by kernel_rfl) ?_
            intro fr H
            refine at_nil ?_
            exact Exists.intro (IntKind.i64.wrap (x1 - (1 : Int)), x7) (And.intro (Option.some.inj hm).symm ⟨IntKind.i64.wrap (x1 - (1 : Int)), x7, rfl, H.less _ (fun fr => by kernel_rfl), A⟩)
          · skip
            exact Exists.intro _ (And.intro (Option.some.inj hm).symm (fun e => Or.inr (Or.inl ⟨x8, x9, x10, rfl, e, H.less _ (fun fr => by kernel_rfl), A⟩)))
          · exact hF.elim
      · replace H := H.know 12 hb (by kernel_rfl)
        refine aw_false (x := .tmp 12) (by kernel_rfl) H (fun fr => by kernel_rfl) ?_
        refine aw_exit (i := 0) (by kernel_rfl) ?_
        exact Exists.intro _ (And.intro (Option.some.inj hm).symm (fun e => Or.inl ⟨x2, rfl, e, H.less _ (fun fr => by kernel_rfl), A⟩))
    · clear ho
      clear A
      intro e fr h4 hQ
      rcases hQ with ⟨x3, rfl, rfl, H, A⟩ | ⟨x4, x5, x6, rfl, rfl, H, A⟩ | hF
      · skip
        show AW cfg 10 g (right (right (right (right (bodyC cfg.P 10))))) fr h4 _
        refine aw_seq (by kernel_rfl) ?_
        refine aw_draw (id := 12) (n := 9) (by kernel_rfl) [(0, []), (1, []), (2, []), (3, []), (4, []), (5, []), (6, []), (7, []), (8, [])] (by kernel_rfl) ?_
        refine at_seg [(0, []), (1, [])] [(0, .str p0), (7, .int .i64 x3), (31, .str p0), (32, .int .i64 x3)] H (noU_all rfl) (fun fr => by kernel_rfl) ?_
        intro fr H
        obtain ⟨x13, hx, hm⟩ := bind_some hm
        refine at_step (v := .str x13) (h1 := h4) [(0, .str p0), (7, .int .i64 x3), (33, .str x13)] H (fun fr => by kernel_rfl) (fun fr => .of (s_subS (k := .i64) (k' := .i64) (lo := none) (hi := (some x3)) (by kernel_rfl) hx)) ?_
        intro fr t H
        refine at_seg [(3, []), (4, [])] [(33, .str x13), (34, .str p0), (35, .int .i64 x3)] H (noU_all rfl) (fun fr => by kernel_rfl) ?_
        intro fr H
        obtain ⟨x14, hx, hm⟩ := bind_some hm
        refine at_step (v := .str x14) (h1 := h4) [(33, .str x13), (36, .str x14)] H (fun fr => by kernel_rfl) (fun fr => .of (s_subS (k := .i64) (k' := .i64) (lo := (some x3)) (hi := none) (by kernel_rfl) hx)) ?_
        intro fr t H
        refine at_seg [(6, []), (7, []), (8, [])] [(4, .str x13), (5, .str x14), (6, .bool true)] H (noU_all rfl) (fun fr => by kernel_rfl) ?_
        intro fr H
        refine at_nil ?_
        show AW cfg 10 g (right (right (right (right (right (bodyC cfg.P 10)))))) fr h4 _
        refine aw_ret (by kernel_rfl) ?_
        have e0 := Option.some.inj hm
        obtain ⟨y0, z0⟩ := Prod.mk.inj e0
        obtain ⟨y1, z1⟩ := Prod.mk.inj z0
        subst y0
        subst y1
        subst z1
        refine ⟨.inl rfl, .tuple [.str x13, .str x14, .bool true], resH H (fun fr => by kernel_rfl), ?_⟩
        exact ⟨rfl, A⟩
      · skip
        have e0 := Option.some.inj hm
        obtain ⟨y0, z0⟩ := Prod.mk.inj e0
        obtain ⟨y1, z1⟩ := Prod.mk.inj z0
        subst y0
        subst y1
        subst z1
        refine ⟨.inl rfl, .tuple [.str x4, .str x5, .bool x6], resH H (fun fr => by kernel_rfl), ?_⟩
        exact ⟨rfl, A⟩
      · exact hF.elim
end Go.Av.L
