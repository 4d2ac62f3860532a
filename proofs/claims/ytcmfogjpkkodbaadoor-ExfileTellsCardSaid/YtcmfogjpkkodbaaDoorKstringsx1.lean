/-
  Models of functions of package strings, and that the abstract run tells them. Written by lift2.py.
-/
import Derived.Test.YtcmfogjpkkodbaaDoorKCfg
import Derived.Test.YtcmfogjpkkodbaaDoorKstringslite
namespace Go.Av.L
open Go.Av
set_option linter.unusedVariables false
set_option linter.unusedSimpArgs false
/-! ### strings.IndexByte -/
noncomputable def M_strings_IndexByte (p0 : List UInt8) (p1 : Int) : Option (Int) :=
 (M_stringslite_IndexByte p0 p1).bind fun x1 => some x1
theorem ok_strings_IndexByte {g : Gd} {h : AHeap} {F : List Ck} {p0 : List UInt8} {p1 : Int} {q0 : Int} {av : List AVal} (hm : M_strings_IndexByte p0 p1 = some q0) (hc : canL (cfg.still 48) av = [.str p0, .int .u8 p1]) (A : HH g h [] F) : ∃ v h', Runs cfg g h 48 av v h' ∧ v = .int .i64 q0 ∧ HH g h' [] F := by
  refine runsQ1 (n := 8) (rs := [.tmp 4]) (by kernel_rfl) hc (by kernel_rfl) ?_
  clear hc
  unfold M_strings_IndexByte at hm
  refine start (n := 8) [(0, .str p0), (1, .int .u8 p1)] (by kernel_rfl) (by kernel_rfl) ?_
  intro fr H
  refine aw_seq (by kernel_rfl) ?_
  refine aw_reg (id := 0) (n := 1) [(0, [])] (by kernel_rfl) (by kernel_rfl) ?_
  refine at_seg [(0, [])] [(0, .str p0), (1, .int .u8 p1)] H (noU_all rfl) (fun fr => by kernel_rfl) ?_
  intro fr H
  refine at_nil ?_
  show AW cfg 48 g (right (bodyC cfg.P 48)) fr h _
  refine aw_seq (by kernel_rfl) ?_
  refine aw_reg (id := 1) (n := 4) [(0, []), (1, []), (2, []), (3, [])] (by kernel_rfl) (by kernel_rfl) ?_
  refine at_seg [(0, []), (1, [])] [(5, .str p0), (6, .int .u8 p1)] H (noU_all rfl) (fun fr => by kernel_rfl) ?_
  intro fr H
  have A1 := A.cut 0
  obtain ⟨x1, hx, hm⟩ := bind_some hm
  obtain ⟨v1, h1, hr, rfl, A1⟩ := ok_stringslite_IndexByte (av := [.str p0, .int .u8 p1]) hx (by kernel_rfl) A1
  replace A : HH g h1 [] F := A.glue0 (n := 0) A1
  refine at_step (v := .int .i64 x1) (h1 := h1) [(7, .int .i64 x1)] H (fun fr => by kernel_rfl) (fun fr => Steps.call (by kernel_rfl) hr) ?_
  intro fr t H
  refine at_seg [(3, [])] [(4, .int .i64 x1)] H (noU_all rfl) (fun fr => by kernel_rfl) ?_
  intro fr H
  refine at_nil ?_
  show AW cfg 48 g (right (right (bodyC cfg.P 48))) fr h1 _
  refine aw_ret (by kernel_rfl) ?_
  have e1 := Option.some.inj hm
  subst e1
  refine ⟨.inl rfl, .int .i64 x1, resH H (fun fr => by kernel_rfl), ?_⟩
  exact ⟨rfl, A⟩
/-! ### strings.Lines$1 -/
noncomputable def M_strings_Lines_1_s0_L0 {SY RY : Type} (Y : SY → (List UInt8) → Option (SY ⊕ RY)) (s : (List UInt8) × (SY ⊕ RY)) : Option (((List UInt8) × (SY ⊕ RY)) ⊕ (((List UInt8) × (SY ⊕ RY)) ⊕ ((List UInt8) × (SY ⊕ RY)))) :=
  match s with
  | (x1, y1) => iteB (decide ((x1.length : Int) > (0 : Int))) (((M_strings_IndexByte x1 (10 : Int)).bind fun x6 => iteB (decide (x6 ≥ (0 : Int))) ((subS x1 none (some (IntKind.i64.wrap (x6 + (1 : Int))))).bind fun x7 => (subS x1 (some (IntKind.i64.wrap (x6 + (1 : Int)))) none).bind fun x8 => some (x8, x7)) (some (([] : List UInt8), x1)) : Option (((List UInt8) × (List UInt8)))).bind fun (x4, x5) => (yld Y y1 x5).bind fun (x9, y4) => iteB (!x9) (some (.inr (.inr (x4, y4)))) (some (.inl (x4, y4)))) (some (.inr (.inl (x1, y1))))
noncomputable def M_strings_Lines_1_s0 {SY RY : Type} (Y : SY → (List UInt8) → Option (SY ⊕ RY)) (y : SY ⊕ RY) (p1 : List UInt8) : Option ((List UInt8) × (SY ⊕ RY)) :=
 (loop (M_strings_Lines_1_s0_L0 Y) (p1, y)).bind fun o1 => (match o1 with | .inl (x2, y2) => some (x2, y2) | .inr (x3, y3) => some (x3, y3))
theorem ok_strings_Lines_1_s0 {g : Gd} {h : AHeap} {F : List Ck} {SY RY : Type} {R : SY ⊕ RY → List Ck → Prop} {Y : SY → (List UInt8) → Option (SY ⊕ RY)} {y : SY ⊕ RY} {p1 : List UInt8} {l : Nat} {bp1 : Nat} {u0 : List UInt8} {yq : SY ⊕ RY} {av : List AVal} (hm : M_strings_Lines_1_s0 Y y p1 = some (u0, yq)) (hc : canL (cfg.still 47) av = [.yfn l, .ptr (some (bp1, 0))]) (hYR : YR cfg g l (fun x => [.str x]) Y R) (B : R y F) (A : HH g h [.obj bp1 (.cells none 2 [.str p1])] F) : ∃ v h', Runs cfg g h 47 av v h' ∧ v = .tuple [] ∧ ∃ F, R yq F ∧ HH g h' [.obj bp1 (.cells none 2 [.str u0])] F := by
  refine runsQ1 (n := 25) (rs := []) (by kernel_rfl) hc (by kernel_rfl) ?_
  clear hc
  unfold M_strings_Lines_1_s0 at hm
  refine start (n := 25) [(0, .yfn l), (1, .ptr (some (bp1, 0)))] (by kernel_rfl) (by kernel_rfl) ?_
  intro fr H
  refine aw_block (id := 0) (by kernel_rfl) ?_
  obtain ⟨o1, ho, hm⟩ := bind_some hm
  refine aw_mono (Q' := fun e fr' h' => (∃ (x2 : List UInt8) (y2 : SY ⊕ RY), e = .exit 0 ∧ .inl (x2, y2) = o1 ∧ Has fr' 25 [] ∧ ∃ F, R y2 F ∧ HH g h' [.obj bp1 (.cells none 2 [.str x2])] F) ∨ (∃ (x3 : List UInt8) (y3 : SY ⊕ RY), e = .ret ∧ .inr (x3, y3) = o1 ∧ Has fr' 25 [] ∧ ∃ F, R y3 F ∧ HH g h' [.obj bp1 (.cells none 2 [.str x3])] F) ∨ False) ?_ ?_
  · refine aw_loop (by kernel_rfl) (fun (s : (List UInt8) × (SY ⊕ RY)) fr' h' => ∃ (x1 : List UInt8) (y1 : SY ⊕ RY), (x1, y1) = s ∧ Has fr' 25 [(0, .yfn l), (1, .ptr (some (bp1, 0)))] ∧ ∃ F, R y1 F ∧ HH g h' [.obj bp1 (.cells none 2 [.str x1])] F) ho ⟨p1, y, rfl, H.less _ (fun fr => by kernel_rfl), ⟨F, B, A⟩⟩ ?_
    clear ho hm H A
    intro s q fr h1 hI hm
    obtain ⟨x1, y1, rfl, H, ⟨F, B, A⟩⟩ := hI
    unfold M_strings_Lines_1_s0_L0 at hm
    refine aw_seq (by kernel_rfl) ?_
    refine aw_seq (by kernel_rfl) ?_
    refine aw_reg (id := 0) (n := 3) [(0, []), (1, []), (2, [])] (by kernel_rfl) (by kernel_rfl) ?_
    refine at_step (v := .str x1) (h1 := h1) [(0, .yfn l), (1, .ptr (some (bp1, 0))), (5, .str x1)] H (fun fr => by kernel_rfl) (fun fr => .of (s_ld (by kernel_rfl) (A.ld1 0 rfl (o := 0) rfl))) ?_
    intro fr t H
    refine at_seg [(1, []), (2, [])] [(0, .yfn l), (1, .ptr (some (bp1, 0))), (7, .bool (decide ((x1.length : Int) > (0 : Int))))] H (noU_all rfl) (fun fr => by kernel_rfl) ?_
    intro fr H
    refine at_nil ?_
    show AW cfg 47 g (right (left (left (left (bodyC cfg.P 47))))) fr h1 _
    rcases iteB_some hm with ⟨hb, hm⟩ | ⟨hb, hm⟩
    · replace H := H.know 7 hb (by kernel_rfl)
      refine aw_true (x := .tmp 7) (by kernel_rfl) H (fun fr => by kernel_rfl) ?_
      refine aw_skip (by kernel_rfl) ?_
      show AW cfg 47 g (right (left (left (bodyC cfg.P 47)))) fr h1 _
      refine aw_block (id := 1) (by kernel_rfl) ?_
      refine aw_seq (by kernel_rfl) ?_
      refine aw_reg (id := 1) (n := 1) [(0, [])] (by kernel_rfl) (by kernel_rfl) ?_
      refine at_seg [(0, [])] [(0, .yfn l), (1, .ptr (some (bp1, 0)))] H (noU_all rfl) (fun fr => by kernel_rfl) ?_
      intro fr H
      refine at_nil ?_
      show AW cfg 47 g (right (left (right (left (left (bodyC cfg.P 47)))))) fr h1 _
      refine aw_seq (by kernel_rfl) ?_
      obtain ⟨o2, ho, hm⟩ := bind_some hm
      refine aw_mono (Q' := fun e fr' h' => (∃ (x4 : List UInt8) (x5 : List UInt8), e = .normal ∧ (x4, x5) = o2 ∧ Has fr' 25 [(0, .yfn l), (1, .ptr (some (bp1, 0))), (3, .str x5)] ∧ ∃ F, R y1 F ∧ HH g h' [.obj bp1 (.cells none 2 [.str x4])] F) ∨ False) ?_ ?_
      · replace hm := ho
        clear ho
        refine aw_seq (by kernel_rfl) ?_
        refine aw_reg (id := 2) (n := 3) [(0, []), (1, []), (2, [])] (by kernel_rfl) (by kernel_rfl) ?_
        refine at_step (v := .str x1) (h1 := h1) [(0, .yfn l), (1, .ptr (some (bp1, 0))), (8, .str x1)] H (fun fr => by kernel_rfl) (fun fr => .of (s_ld (by kernel_rfl) (A.ld1 0 rfl (o := 0) rfl))) ?_
        intro fr t H
        have A1 := A.cut 0
        obtain ⟨x6, hx, hm⟩ := bind_some hm
        obtain ⟨v1, h2, hr, rfl, A1⟩ := ok_strings_IndexByte (av := [.str x1, .int .u8 (10 : Int)]) hx (by kernel_rfl) A1
        replace A : HH g h2 [.obj bp1 (.cells none 2 [.str x1])] F := A.glue0 (n := 0) A1
        refine at_step (v := .int .i64 x6) (h1 := h2) [(0, .yfn l), (1, .ptr (some (bp1, 0))), (9, .int .i64 x6)] H (fun fr => by kernel_rfl) (fun fr => Steps.call (by kernel_rfl) hr) ?_
        intro fr t H
        refine at_seg [(2, [])] [(0, .yfn l), (1, .ptr (some (bp1, 0))), (4, .int .i64 x6)] H (noU_all rfl) (fun fr => by kernel_rfl) ?_
        intro fr H
        refine at_nil ?_
        show AW cfg 47 g (right (left (right (left (right (left (left (bodyC cfg.P 47)))))))) fr h2 _
        refine aw_seq (by kernel_rfl) ?_
        refine aw_reg (id := 3) (n := 2) [(0, []), (1, [])] (by kernel_rfl) (by kernel_rfl) ?_
        refine at_seg [(0, []), (1, [])] [(0, .yfn l), (1, .ptr (some (bp1, 0))), (4, .int .i64 x6), (11, .bool (decide (x6 ≥ (0 : Int))))] H (noU_all rfl) (fun fr => by kernel_rfl) ?_
        intro fr H
        refine at_nil ?_
        show AW cfg 47 g (right (right (left (right (left (right (left (left (bodyC cfg.P 47))))))))) fr h2 _
        rcases iteB_some hm with ⟨hb, hm⟩ | ⟨hb, hm⟩
        · replace H := H.know 11 hb (by kernel_rfl)
          refine aw_true (x := .tmp 11) (by kernel_rfl) H (fun fr => by kernel_rfl) ?_
          refine aw_draw (id := 4) (n := 10) (by kernel_rfl) [(0, []), (1, []), (2, []), (3, []), (4, []), (5, []), (6, []), (7, []), (8, []), (9, [])] (by kernel_rfl) ?_
          refine at_step (v := .str x1) (h1 := h2) [(0, .yfn l), (1, .ptr (some (bp1, 0))), (4, .int .i64 x6), (12, .str x1)] H (fun fr => by kernel_rfl) (fun fr => .of (s_ld (by kernel_rfl) (A.ld1 0 rfl (o := 0) rfl))) ?_
          intro fr t H
          refine at_seg [(1, []), (2, [])] [(0, .yfn l), (1, .ptr (some (bp1, 0))), (4, .int .i64 x6), (12, .str x1), (14, .int .i64 (IntKind.i64.wrap (x6 + (1 : Int))))] H (noU_all rfl) (fun fr => by kernel_rfl) ?_
          intro fr H
          obtain ⟨x7, hx, hm⟩ := bind_some hm
          refine at_step (v := .str x7) (h1 := h2) [(0, .yfn l), (1, .ptr (some (bp1, 0))), (4, .int .i64 x6), (15, .str x7)] H (fun fr => by kernel_rfl) (fun fr => .of (s_subS (k := .i64) (k' := .i64) (lo := none) (hi := (some (IntKind.i64.wrap (x6 + (1 : Int))))) (by kernel_rfl) hx)) ?_
          intro fr t H
          refine at_step (v := .str x1) (h1 := h2) [(0, .yfn l), (1, .ptr (some (bp1, 0))), (4, .int .i64 x6), (15, .str x7), (16, .str x1)] H (fun fr => by kernel_rfl) (fun fr => .of (s_ld (by kernel_rfl) (A.ld1 0 rfl (o := 0) rfl))) ?_
          intro fr t H
          refine at_seg [(5, []), (6, [])] [(0, .yfn l), (1, .ptr (some (bp1, 0))), (15, .str x7), (16, .str x1), (18, .int .i64 (IntKind.i64.wrap (x6 + (1 : Int))))] H (noU_all rfl) (fun fr => by kernel_rfl) ?_
          intro fr H
          obtain ⟨x8, hx, hm⟩ := bind_some hm
          refine at_step (v := .str x8) (h1 := h2) [(0, .yfn l), (1, .ptr (some (bp1, 0))), (15, .str x7), (19, .str x8)] H (fun fr => by kernel_rfl) (fun fr => .of (s_subS (k := .i64) (k' := .i64) (lo := (some (IntKind.i64.wrap (x6 + (1 : Int))))) (hi := none) (by kernel_rfl) hx)) ?_
          intro fr t H
          refine at_seg [(8, [])] [(0, .yfn l), (1, .ptr (some (bp1, 0))), (3, .str x7), (19, .str x8)] H (noU_all rfl) (fun fr => by kernel_rfl) ?_
          intro fr H
          obtain ⟨h3, hx, A1⟩ := A.st 0 rfl (o := 0) (new := [.str x8]) (ds := [.str x8]) (Nat.le_of_ble_eq_true rfl) rfl rfl
          replace A : HH g h3 [.obj bp1 (.cells none 2 [.str x8])] F := A1
          refine at_step (v := .tuple []) (h1 := h3) [(0, .yfn l), (1, .ptr (some (bp1, 0))), (3, .str x7)] H (fun fr => by kernel_rfl) (fun fr => .of (s_st (by kernel_rfl) rfl hx)) ?_
          intro fr t H
          refine at_nil ?_
          exact Or.inl ⟨x8, x7, rfl, Option.some.inj hm, H.less _ (fun fr => by kernel_rfl), ⟨F, B, A⟩⟩
        · replace H := H.know 11 hb (by kernel_rfl)
          refine aw_false (x := .tmp 11) (by kernel_rfl) H (fun fr => by kernel_rfl) ?_
          refine aw_reg (id := 5) (n := 3) [(0, []), (1, []), (2, [])] (by kernel_rfl) (by kernel_rfl) ?_
          refine at_step (v := .str x1) (h1 := h2) [(0, .yfn l), (1, .ptr (some (bp1, 0))), (20, .str x1)] H (fun fr => by kernel_rfl) (fun fr => .of (s_ld (by kernel_rfl) (A.ld1 0 rfl (o := 0) rfl))) ?_
          intro fr t H
          refine at_seg [(1, [])] [(0, .yfn l), (1, .ptr (some (bp1, 0))), (3, .str x1)] H (noU_all rfl) (fun fr => by kernel_rfl) ?_
          intro fr H
          obtain ⟨h4, hx, A1⟩ := A.st 0 rfl (o := 0) (new := [.str ([] : List UInt8)]) (ds := [.str ([] : List UInt8)]) (Nat.le_of_ble_eq_true rfl) rfl rfl
          replace A : HH g h4 [.obj bp1 (.cells none 2 [.str ([] : List UInt8)])] F := A1
          refine at_step (v := .tuple []) (h1 := h4) [(0, .yfn l), (1, .ptr (some (bp1, 0))), (3, .str x1)] H (fun fr => by kernel_rfl) (fun fr => .of (s_st (by kernel_rfl) rfl hx)) ?_
          intro fr t H
          refine at_nil ?_
          exact Or.inl ⟨([] : List UInt8), x1, rfl, Option.some.inj hm, H.less _ (fun fr => by kernel_rfl), ⟨F, B, A⟩⟩
      · clear ho
        clear A
        intro e fr h5 hQ
        rcases hQ with ⟨x4, x5, rfl, rfl, H, ⟨F, B, A⟩⟩ | hF
        · skip
          show AW cfg 47 g (right (right (left (right (left (left (bodyC cfg.P 47))))))) fr h5 _
          refine aw_seq (by kernel_rfl) ?_
          refine aw_reg (id := 6) (n := 4) [(0, []), (1, []), (2, []), (3, [])] (by kernel_rfl) (by kernel_rfl) ?_
          refine at_seg [(0, []), (1, [])] [(0, .yfn l), (1, .ptr (some (bp1, 0))), (21, .yfn l), (22, .str x5)] H (noU_all rfl) (fun fr => by kernel_rfl) ?_
          intro fr H
          obtain ⟨⟨x9, y4⟩, hx, hm⟩ := bind_some hm
          obtain ⟨h6, F, hr, B, A⟩ := hYR.yld (pr := []) .nil A B hx
          refine at_step (v := .bool x9) (h1 := h6) [(0, .yfn l), (1, .ptr (some (bp1, 0))), (23, .bool x9)] H (fun fr => by kernel_rfl) (fun fr => Steps.round (by kernel_rfl) hr) ?_
          intro fr t H
          refine at_seg [(3, [])] [(0, .yfn l), (1, .ptr (some (bp1, 0))), (24, .bool (!x9))] H (noU_all rfl) (fun fr => by kernel_rfl) ?_
          intro fr H
          refine at_nil ?_
          show AW cfg 47 g (right (right (right (left (right (left (left (bodyC cfg.P 47)))))))) fr h6 _
          rcases iteB_some hm with ⟨hb, hm⟩ | ⟨hb, hm⟩
          · replace H := H.know 24 hb (by kernel_rfl)
            refine aw_true (x := .tmp 24) (by kernel_rfl) H (fun fr => by kernel_rfl) ?_
            refine aw_ret (by kernel_rfl) ?_
            exact Exists.intro _ (And.intro (Option.some.inj hm).symm (fun e => Or.inr (Or.inl ⟨x4, y4, rfl, e, H.less _ (fun fr => by kernel_rfl), ⟨F, B, A⟩⟩)))
          · replace H := H.know 24 hb (by kernel_rfl)
            refine aw_false (x := .tmp 24) (by kernel_rfl) H (fun fr => by kernel_rfl) ?_
            refine aw_skip (by kernel_rfl) ?_
            exact Exists.intro (x4, y4) (And.intro (Option.some.inj hm).symm ⟨x4, y4, rfl, H.less _ (fun fr => by kernel_rfl), ⟨F, B, A⟩⟩)
        · exact hF.elim
    · replace H := H.know 7 hb (by kernel_rfl)
      refine aw_false (x := .tmp 7) (by kernel_rfl) H (fun fr => by kernel_rfl) ?_
      refine aw_exit (i := 0) (by kernel_rfl) ?_
      exact Exists.intro _ (And.intro (Option.some.inj hm).symm (fun e => Or.inl ⟨x1, y1, rfl, e, H.less _ (fun fr => by kernel_rfl), ⟨F, B, A⟩⟩))
  · clear ho
    clear A
    intro e fr h7 hQ
    rcases hQ with ⟨x2, y2, rfl, rfl, H, ⟨F, B, A⟩⟩ | ⟨x3, y3, rfl, rfl, H, ⟨F, B, A⟩⟩ | hF
    · skip
      have e0 := Option.some.inj hm
      obtain ⟨y0, z0⟩ := Prod.mk.inj e0
      subst y0
      subst z0
      refine ⟨.inr rfl, .tuple [], resH H (fun fr => by kernel_rfl), ?_⟩
      exact ⟨rfl, ⟨F, B, A⟩⟩
    · skip
      have e0 := Option.some.inj hm
      obtain ⟨y0, z0⟩ := Prod.mk.inj e0
      subst y0
      subst z0
      refine ⟨.inl rfl, .tuple [], resH H (fun fr => by kernel_rfl), ?_⟩
      exact ⟨rfl, ⟨F, B, A⟩⟩
    · exact hF.elim
/-! ### strings.TrimSuffix -/
noncomputable def M_strings_TrimSuffix (p0 : List UInt8) (p1 : List UInt8) : Option ((List UInt8)) :=
 (M_stringslite_TrimSuffix p0 p1).bind fun x1 => some x1
theorem ok_strings_TrimSuffix {g : Gd} {h : AHeap} {F : List Ck} {p0 : List UInt8} {p1 : List UInt8} {q0 : List UInt8} {av : List AVal} (hm : M_strings_TrimSuffix p0 p1 = some q0) (hc : canL (cfg.still 29) av = [.str p0, .str p1]) (A : HH g h [] F) : ∃ v h', Runs cfg g h 29 av v h' ∧ v = .str q0 ∧ HH g h' [] F := by
  refine runsQ1 (n := 8) (rs := [.tmp 4]) (by kernel_rfl) hc (by kernel_rfl) ?_
  clear hc
  unfold M_strings_TrimSuffix at hm
  refine start (n := 8) [(0, .str p0), (1, .str p1)] (by kernel_rfl) (by kernel_rfl) ?_
  intro fr H
  refine aw_seq (by kernel_rfl) ?_
  refine aw_reg (id := 0) (n := 1) [(0, [])] (by kernel_rfl) (by kernel_rfl) ?_
  refine at_seg [(0, [])] [(0, .str p0), (1, .str p1)] H (noU_all rfl) (fun fr => by kernel_rfl) ?_
  intro fr H
  refine at_nil ?_
  show AW cfg 29 g (right (bodyC cfg.P 29)) fr h _
  refine aw_seq (by kernel_rfl) ?_
  refine aw_reg (id := 1) (n := 4) [(0, []), (1, []), (2, []), (3, [])] (by kernel_rfl) (by kernel_rfl) ?_
  refine at_seg [(0, []), (1, [])] [(5, .str p0), (6, .str p1)] H (noU_all rfl) (fun fr => by kernel_rfl) ?_
  intro fr H
  have A1 := A.cut 0
  obtain ⟨x1, hx, hm⟩ := bind_some hm
  obtain ⟨v1, h1, hr, rfl, A1⟩ := ok_stringslite_TrimSuffix (av := [.str p0, .str p1]) hx (by kernel_rfl) A1
  replace A : HH g h1 [] F := A.glue0 (n := 0) A1
  refine at_step (v := .str x1) (h1 := h1) [(7, .str x1)] H (fun fr => by kernel_rfl) (fun fr => Steps.call (by kernel_rfl) hr) ?_
  intro fr t H
  refine at_seg [(3, [])] [(4, .str x1)] H (noU_all rfl) (fun fr => by kernel_rfl) ?_
  intro fr H
  refine at_nil ?_
  show AW cfg 29 g (right (right (bodyC cfg.P 29))) fr h1 _
  refine aw_ret (by kernel_rfl) ?_
  have e1 := Option.some.inj hm
  subst e1
  refine ⟨.inl rfl, .str x1, resH H (fun fr => by kernel_rfl), ?_⟩
  exact ⟨rfl, A⟩
/-! ### strings.HasPrefix -/
noncomputable def M_strings_HasPrefix (p0 : List UInt8) (p1 : List UInt8) : Option (Bool) :=
 (M_stringslite_HasPrefix p0 p1).bind fun x1 => some x1
theorem ok_strings_HasPrefix {g : Gd} {h : AHeap} {F : List Ck} {p0 : List UInt8} {p1 : List UInt8} {q0 : Bool} {av : List AVal} (hm : M_strings_HasPrefix p0 p1 = some q0) (hc : canL (cfg.still 30) av = [.str p0, .str p1]) (A : HH g h [] F) : ∃ v h', Runs cfg g h 30 av v h' ∧ v = .bool q0 ∧ HH g h' [] F := by
  refine runsQ1 (n := 8) (rs := [.tmp 4]) (by kernel_rfl) hc (by kernel_rfl) ?_
  clear hc
  unfold M_strings_HasPrefix at hm
  refine start (n := 8) [(0, .str p0), (1, .str p1)] (by kernel_rfl) (by kernel_rfl) ?_
  intro fr H
  refine aw_seq (by kernel_rfl) ?_
  refine aw_reg (id := 0) (n := 1) [(0, [])] (by kernel_rfl) (by kernel_rfl) ?_
  refine at_seg [(0, [])] [(0, .str p0), (1, .str p1)] H (noU_all rfl) (fun fr => by kernel_rfl) ?_
  intro fr H
  refine at_nil ?_
  show AW cfg 30 g (right (bodyC cfg.P 30)) fr h _
  refine aw_seq (by kernel_rfl) ?_
  refine aw_reg (id := 1) (n := 4) [(0, []), (1, []), (2, []), (3, [])] (by kernel_rfl) (by kernel_rfl) ?_
  refine at_seg [(0, []), (1, [])] [(5, .str p0), (6, .str p1)] H (noU_all rfl) (fun fr => by kernel_rfl) ?_
  intro fr H
  have A1 := A.cut 0
  obtain ⟨x1, hx, hm⟩ := bind_some hm
  obtain ⟨v1, h1, hr, rfl, A1⟩ := ok_stringslite_HasPrefix (av := [.str p0, .str p1]) hx (by kernel_rfl) A1
  replace A : HH g h1 [] F := A.glue0 (n := 0) A1
  refine at_step (v := .bool x1) (h1 := h1) [(7, .bool x1)] H (fun fr => by kernel_rfl) (fun fr => Steps.call (by kernel_rfl) hr) ?_
  intro fr t H
  refine at_seg [(3, [])] [(4, .bool x1)] H (noU_all rfl) (fun fr => by kernel_rfl) ?_
  intro fr H
  refine at_nil ?_
  show AW cfg 30 g (right (right (bodyC cfg.P 30))) fr h1 _
  refine aw_ret (by kernel_rfl) ?_
  have e1 := Option.some.inj hm
  subst e1
  refine ⟨.inl rfl, .bool x1, resH H (fun fr => by kernel_rfl), ?_⟩
  exact ⟨rfl, A⟩
/-! ### strings.Index -/
noncomputable def M_strings_Index_s0 (p0 : List UInt8) : Option (Int) :=
 (M_stringslite_Index_s0 p0).bind fun x1 => some x1
theorem ok_strings_Index_s0 {g : Gd} {h : AHeap} {F : List Ck} {p0 : List UInt8} {q0 : Int} {av : List AVal} (hm : M_strings_Index_s0 p0 = some q0) (hc : canL (cfg.still 65) av = [.str p0, .str ([0] : List UInt8)]) (A : HH g h [] F) : ∃ v h', Runs cfg g h 65 av v h' ∧ v = .int .i64 q0 ∧ HH g h' [] F := by
  refine runsQ1 (n := 8) (rs := [.tmp 4]) (by kernel_rfl) hc (by kernel_rfl) ?_
  clear hc
  unfold M_strings_Index_s0 at hm
  refine start (n := 8) [(0, .str p0), (1, .str ([0] : List UInt8))] (by kernel_rfl) (by kernel_rfl) ?_
  intro fr H
  refine aw_seq (by kernel_rfl) ?_
  refine aw_reg (id := 0) (n := 1) [(0, [])] (by kernel_rfl) (by kernel_rfl) ?_
  refine at_seg [(0, [])] [(0, .str p0), (1, .str ([0] : List UInt8))] H (noU_all rfl) (fun fr => by kernel_rfl) ?_
  intro fr H
  refine at_nil ?_
  show AW cfg 65 g (right (bodyC cfg.P 65)) fr h _
  refine aw_seq (by kernel_rfl) ?_
  refine aw_reg (id := 1) (n := 4) [(0, []), (1, []), (2, []), (3, [])] (by kernel_rfl) (by kernel_rfl) ?_
  refine at_seg [(0, []), (1, [])] [(5, .str p0), (6, .str ([0] : List UInt8))] H (noU_all rfl) (fun fr => by kernel_rfl) ?_
  intro fr H
  have A1 := A.cut 0
  obtain ⟨x1, hx, hm⟩ := bind_some hm
  obtain ⟨v1, h1, hr, rfl, A1⟩ := ok_stringslite_Index_s0 (av := [.str p0, .str ([0] : List UInt8)]) hx (by kernel_rfl) A1
  replace A : HH g h1 [] F := A.glue0 (n := 0) A1
  refine at_step (v := .int .i64 x1) (h1 := h1) [(7, .int .i64 x1)] H (fun fr => by kernel_rfl) (fun fr => Steps.call (by kernel_rfl) hr) ?_
  intro fr t H
  refine at_seg [(3, [])] [(4, .int .i64 x1)] H (noU_all rfl) (fun fr => by kernel_rfl) ?_
  intro fr H
  refine at_nil ?_
  show AW cfg 65 g (right (right (bodyC cfg.P 65))) fr h1 _
  refine aw_ret (by kernel_rfl) ?_
  have e1 := Option.some.inj hm
  subst e1
  refine ⟨.inl rfl, .int .i64 x1, resH H (fun fr => by kernel_rfl), ?_⟩
  exact ⟨rfl, A⟩
/-! ### strings.splitSeq$1 -/
noncomputable def M_strings_splitSeq_1_s0_L0 {SY RY : Type} (Y : SY → (List UInt8) → Option (SY ⊕ RY)) (s : (List UInt8) × (SY ⊕ RY)) : Option (((List UInt8) × (SY ⊕ RY)) ⊕ (((List UInt8) × (SY ⊕ RY)) ⊕ ((List UInt8) × (SY ⊕ RY)))) :=
  match s with
  | (x1, y1) => (M_strings_Index_s0 x1).bind fun x4 => iteB (decide (x4 < (0 : Int))) (some (.inr (.inl (x1, y1)))) ((subS x1 none (some (IntKind.i64.wrap (x4 + (0 : Int))))).bind fun x5 => (yld Y y1 x5).bind fun (x6, y4) => iteB (!x6) (some (.inr (.inr (x1, y4)))) ((subS x1 (some (IntKind.i64.wrap (x4 + (1 : Int)))) none).bind fun x7 => some (.inl (x7, y4))))
noncomputable def M_strings_splitSeq_1_s0 {SY RY : Type} (Y : SY → (List UInt8) → Option (SY ⊕ RY)) (y : SY ⊕ RY) (p2 : List UInt8) : Option ((List UInt8) × (SY ⊕ RY)) :=
 (loop (M_strings_splitSeq_1_s0_L0 Y) (p2, y)).bind fun o1 => (match o1 with | .inl (x2, y2) => (yld Y y2 x2).bind fun (x8, y5) => some (x2, y5) | .inr (x3, y3) => some (x3, y3))
theorem ok_strings_splitSeq_1_s0 {g : Gd} {h : AHeap} {F : List Ck} {SY RY : Type} {R : SY ⊕ RY → List Ck → Prop} {Y : SY → (List UInt8) → Option (SY ⊕ RY)} {y : SY ⊕ RY} {p2 : List UInt8} {l : Nat} {bp1 : Nat} {bp2 : Nat} {bp3 : Nat} {u1 : List UInt8} {yq : SY ⊕ RY} {av : List AVal} (hm : M_strings_splitSeq_1_s0 Y y p2 = some (u1, yq)) (hc : canL (cfg.still 63) av = [.yfn l, .ptr (some (bp1, 0)), .ptr (some (bp2, 0)), .ptr (some (bp3, 0))]) (hYR : YR cfg g l (fun x => [.str x]) Y R) (B : R y F) (A : HH g h [.obj bp1 (.cells none 2 [.str ([0] : List UInt8)]), .obj bp2 (.cells none 2 [.str p2]), .obj bp3 (.cells none 2 [.int .i64 (0 : Int)])] F) : ∃ v h', Runs cfg g h 63 av v h' ∧ v = .tuple [] ∧ ∃ F, R yq F ∧ HH g h' [.obj bp1 (.cells none 2 [.str ([0] : List UInt8)]), .obj bp2 (.cells none 2 [.str u1]), .obj bp3 (.cells none 2 [.int .i64 (0 : Int)])] F := by
  refine runsQ1 (n := 52) (rs := []) (by kernel_rfl) hc (by kernel_rfl) ?_
  clear hc
  unfold M_strings_splitSeq_1_s0 at hm
  refine start (n := 52) [(0, .yfn l), (1, .ptr (some (bp1, 0))), (2, .ptr (some (bp2, 0))), (3, .ptr (some (bp3, 0)))] (by kernel_rfl) (by kernel_rfl) ?_
  intro fr H
  refine aw_seq (by kernel_rfl) ?_
  refine aw_seq (by kernel_rfl) ?_
  refine aw_reg (id := 0) (n := 3) [(0, []), (1, []), (2, [])] (by kernel_rfl) (by kernel_rfl) ?_
  refine at_step (v := .str ([0] : List UInt8)) (h1 := h) [(0, .yfn l), (1, .ptr (some (bp1, 0))), (2, .ptr (some (bp2, 0))), (3, .ptr (some (bp3, 0))), (9, .str ([0] : List UInt8))] H (fun fr => by kernel_rfl) (fun fr => .of (s_ld (by kernel_rfl) (A.ld1 0 rfl (o := 0) rfl))) ?_
  intro fr t H
  refine at_seg [(1, []), (2, [])] [(0, .yfn l), (1, .ptr (some (bp1, 0))), (2, .ptr (some (bp2, 0))), (3, .ptr (some (bp3, 0))), (11, .bool false)] H (noU_all rfl) (fun fr => by kernel_rfl) ?_
  intro fr H
  refine at_nil ?_
  show AW cfg 63 g (right (left (bodyC cfg.P 63))) fr h _
  refine aw_false (x := .tmp 11) (by kernel_rfl) H (fun fr => by kernel_rfl) ?_
  refine aw_skip (by kernel_rfl) ?_
  show AW cfg 63 g (right (bodyC cfg.P 63)) fr h _
  refine aw_seq (by kernel_rfl) ?_
  refine aw_block (id := 2) (by kernel_rfl) ?_
  obtain ⟨o1, ho, hm⟩ := bind_some hm
  refine aw_mono (Q' := fun e fr' h' => (∃ (x2 : List UInt8) (y2 : SY ⊕ RY), e = .exit 2 ∧ .inl (x2, y2) = o1 ∧ Has fr' 52 [(0, .yfn l), (2, .ptr (some (bp2, 0)))] ∧ ∃ F, R y2 F ∧ HH g h' [.obj bp1 (.cells none 2 [.str ([0] : List UInt8)]), .obj bp2 (.cells none 2 [.str x2]), .obj bp3 (.cells none 2 [.int .i64 (0 : Int)])] F) ∨ (∃ (x3 : List UInt8) (y3 : SY ⊕ RY), e = .ret ∧ .inr (x3, y3) = o1 ∧ Has fr' 52 [] ∧ ∃ F, R y3 F ∧ HH g h' [.obj bp1 (.cells none 2 [.str ([0] : List UInt8)]), .obj bp2 (.cells none 2 [.str x3]), .obj bp3 (.cells none 2 [.int .i64 (0 : Int)])] F) ∨ False) ?_ ?_
  · refine aw_loop (by kernel_rfl) (fun (s : (List UInt8) × (SY ⊕ RY)) fr' h' => ∃ (x1 : List UInt8) (y1 : SY ⊕ RY), (x1, y1) = s ∧ Has fr' 52 [(0, .yfn l), (1, .ptr (some (bp1, 0))), (2, .ptr (some (bp2, 0))), (3, .ptr (some (bp3, 0)))] ∧ ∃ F, R y1 F ∧ HH g h' [.obj bp1 (.cells none 2 [.str ([0] : List UInt8)]), .obj bp2 (.cells none 2 [.str x1]), .obj bp3 (.cells none 2 [.int .i64 (0 : Int)])] F) ho ⟨p2, y, rfl, H.less _ (fun fr => by kernel_rfl), ⟨F, B, A⟩⟩ ?_
    clear ho hm H A
    intro s q fr h1 hI hm
    obtain ⟨x1, y1, rfl, H, ⟨F, B, A⟩⟩ := hI
    unfold M_strings_splitSeq_1_s0_L0 at hm
    refine aw_block (id := 3) (by kernel_rfl) ?_
    refine aw_seq (by kernel_rfl) ?_
    refine aw_reg (id := 5) (n := 4) [(0, []), (1, []), (2, []), (3, [])] (by kernel_rfl) (by kernel_rfl) ?_
    refine at_step (v := .str x1) (h1 := h1) [(0, .yfn l), (1, .ptr (some (bp1, 0))), (2, .ptr (some (bp2, 0))), (3, .ptr (some (bp3, 0))), (29, .str x1)] H (fun fr => by kernel_rfl) (fun fr => .of (s_ld (by kernel_rfl) (A.ld1 1 rfl (o := 0) rfl))) ?_
    intro fr t H
    refine at_step (v := .str ([0] : List UInt8)) (h1 := h1) [(0, .yfn l), (1, .ptr (some (bp1, 0))), (2, .ptr (some (bp2, 0))), (3, .ptr (some (bp3, 0))), (29, .str x1), (30, .str ([0] : List UInt8))] H (fun fr => by kernel_rfl) (fun fr => .of (s_ld (by kernel_rfl) (A.ld1 0 rfl (o := 0) rfl))) ?_
    intro fr t H
    have A1 := A.cut 0
    obtain ⟨x4, hx, hm⟩ := bind_some hm
    obtain ⟨v1, h2, hr, rfl, A1⟩ := ok_strings_Index_s0 (av := [.str x1, .str ([0] : List UInt8)]) hx (by kernel_rfl) A1
    replace A : HH g h2 [.obj bp1 (.cells none 2 [.str ([0] : List UInt8)]), .obj bp2 (.cells none 2 [.str x1]), .obj bp3 (.cells none 2 [.int .i64 (0 : Int)])] F := A.glue0 (n := 0) A1
    refine at_step (v := .int .i64 x4) (h1 := h2) [(0, .yfn l), (1, .ptr (some (bp1, 0))), (2, .ptr (some (bp2, 0))), (3, .ptr (some (bp3, 0))), (31, .int .i64 x4)] H (fun fr => by kernel_rfl) (fun fr => Steps.call (by kernel_rfl) hr) ?_
    intro fr t H
    refine at_seg [(3, [])] [(0, .yfn l), (1, .ptr (some (bp1, 0))), (2, .ptr (some (bp2, 0))), (3, .ptr (some (bp3, 0))), (7, .int .i64 x4)] H (noU_all rfl) (fun fr => by kernel_rfl) ?_
    intro fr H
    refine at_nil ?_
    show AW cfg 63 g (right (left (left (left (left (right (bodyC cfg.P 63))))))) fr h2 _
    refine aw_seq (by kernel_rfl) ?_
    refine aw_seq (by kernel_rfl) ?_
    refine aw_reg (id := 6) (n := 2) [(0, []), (1, [])] (by kernel_rfl) (by kernel_rfl) ?_
    refine at_seg [(0, []), (1, [])] [(0, .yfn l), (1, .ptr (some (bp1, 0))), (2, .ptr (some (bp2, 0))), (3, .ptr (some (bp3, 0))), (7, .int .i64 x4), (33, .bool (decide (x4 < (0 : Int))))] H (noU_all rfl) (fun fr => by kernel_rfl) ?_
    intro fr H
    refine at_nil ?_
    show AW cfg 63 g (right (left (right (left (left (left (left (right (bodyC cfg.P 63))))))))) fr h2 _
    rcases iteB_some hm with ⟨hb, hm⟩ | ⟨hb, hm⟩
    · replace H := H.know 33 hb (by kernel_rfl)
      refine aw_true (x := .tmp 33) (by kernel_rfl) H (fun fr => by kernel_rfl) ?_
      refine aw_exit (i := 2) (by kernel_rfl) ?_
      exact Exists.intro _ (And.intro (Option.some.inj hm).symm (fun e => Or.inl ⟨x1, y1, rfl, e, H.less _ (fun fr => by kernel_rfl), ⟨F, B, A⟩⟩))
    · replace H := H.know 33 hb (by kernel_rfl)
      refine aw_false (x := .tmp 33) (by kernel_rfl) H (fun fr => by kernel_rfl) ?_
      refine aw_skip (by kernel_rfl) ?_
      show AW cfg 63 g (right (right (left (left (left (left (right (bodyC cfg.P 63)))))))) fr h2 _
      refine aw_seq (by kernel_rfl) ?_
      refine aw_reg (id := 7) (n := 6) [(0, []), (1, []), (2, []), (3, []), (4, []), (5, [])] (by kernel_rfl) (by kernel_rfl) ?_
      refine at_step (v := .str x1) (h1 := h2) [(0, .yfn l), (1, .ptr (some (bp1, 0))), (2, .ptr (some (bp2, 0))), (3, .ptr (some (bp3, 0))), (7, .int .i64 x4), (34, .str x1)] H (fun fr => by kernel_rfl) (fun fr => .of (s_ld (by kernel_rfl) (A.ld1 1 rfl (o := 0) rfl))) ?_
      intro fr t H
      refine at_seg [(1, [])] [(0, .yfn l), (1, .ptr (some (bp1, 0))), (2, .ptr (some (bp2, 0))), (3, .ptr (some (bp3, 0))), (7, .int .i64 x4), (34, .str x1), (35, .int .i64 x4)] H (noU_all rfl) (fun fr => by kernel_rfl) ?_
      intro fr H
      refine at_step (v := .int .i64 (0 : Int)) (h1 := h2) [(0, .yfn l), (1, .ptr (some (bp1, 0))), (2, .ptr (some (bp2, 0))), (3, .ptr (some (bp3, 0))), (7, .int .i64 x4), (34, .str x1), (35, .int .i64 x4), (36, .int .i64 (0 : Int))] H (fun fr => by kernel_rfl) (fun fr => .of (s_ld (by kernel_rfl) (A.ld1 2 rfl (o := 0) rfl))) ?_
      intro fr t H
      refine at_seg [(3, [])] [(0, .yfn l), (1, .ptr (some (bp1, 0))), (2, .ptr (some (bp2, 0))), (3, .ptr (some (bp3, 0))), (7, .int .i64 x4), (34, .str x1), (37, .int .i64 (IntKind.i64.wrap (x4 + (0 : Int))))] H (noU_all rfl) (fun fr => by kernel_rfl) ?_
      intro fr H
      obtain ⟨x5, hx, hm⟩ := bind_some hm
      refine at_step (v := .str x5) (h1 := h2) [(0, .yfn l), (1, .ptr (some (bp1, 0))), (2, .ptr (some (bp2, 0))), (3, .ptr (some (bp3, 0))), (7, .int .i64 x4), (38, .str x5)] H (fun fr => by kernel_rfl) (fun fr => .of (s_subS (k := .i64) (k' := .i64) (lo := none) (hi := (some (IntKind.i64.wrap (x4 + (0 : Int))))) (by kernel_rfl) hx)) ?_
      intro fr t H
      refine at_seg [(5, [])] [(0, .yfn l), (1, .ptr (some (bp1, 0))), (2, .ptr (some (bp2, 0))), (3, .ptr (some (bp3, 0))), (7, .int .i64 x4), (8, .str x5)] H (noU_all rfl) (fun fr => by kernel_rfl) ?_
      intro fr H
      refine at_nil ?_
      show AW cfg 63 g (right (right (right (left (left (left (left (right (bodyC cfg.P 63))))))))) fr h2 _
      refine aw_seq (by kernel_rfl) ?_
      refine aw_seq (by kernel_rfl) ?_
      refine aw_reg (id := 8) (n := 4) [(0, []), (1, []), (2, []), (3, [])] (by kernel_rfl) (by kernel_rfl) ?_
      refine at_seg [(0, []), (1, [])] [(0, .yfn l), (1, .ptr (some (bp1, 0))), (2, .ptr (some (bp2, 0))), (3, .ptr (some (bp3, 0))), (7, .int .i64 x4), (39, .yfn l), (40, .str x5)] H (noU_all rfl) (fun fr => by kernel_rfl) ?_
      intro fr H
      obtain ⟨⟨x6, y4⟩, hx, hm⟩ := bind_some hm
      obtain ⟨h3, F, hr, B, A⟩ := hYR.yld (pr := []) .nil A B hx
      refine at_step (v := .bool x6) (h1 := h3) [(0, .yfn l), (1, .ptr (some (bp1, 0))), (2, .ptr (some (bp2, 0))), (3, .ptr (some (bp3, 0))), (7, .int .i64 x4), (41, .bool x6)] H (fun fr => by kernel_rfl) (fun fr => Steps.round (by kernel_rfl) hr) ?_
      intro fr t H
      refine at_seg [(3, [])] [(0, .yfn l), (1, .ptr (some (bp1, 0))), (2, .ptr (some (bp2, 0))), (3, .ptr (some (bp3, 0))), (7, .int .i64 x4), (42, .bool (!x6))] H (noU_all rfl) (fun fr => by kernel_rfl) ?_
      intro fr H
      refine at_nil ?_
      show AW cfg 63 g (right (left (right (right (right (left (left (left (left (right (bodyC cfg.P 63))))))))))) fr h3 _
      rcases iteB_some hm with ⟨hb, hm⟩ | ⟨hb, hm⟩
      · replace H := H.know 42 hb (by kernel_rfl)
        refine aw_true (x := .tmp 42) (by kernel_rfl) H (fun fr => by kernel_rfl) ?_
        refine aw_ret (by kernel_rfl) ?_
        exact Exists.intro _ (And.intro (Option.some.inj hm).symm (fun e => Or.inr (Or.inl ⟨x1, y4, rfl, e, H.less _ (fun fr => by kernel_rfl), ⟨F, B, A⟩⟩)))
      · replace H := H.know 42 hb (by kernel_rfl)
        refine aw_false (x := .tmp 42) (by kernel_rfl) H (fun fr => by kernel_rfl) ?_
        refine aw_skip (by kernel_rfl) ?_
        show AW cfg 63 g (right (right (right (right (left (left (left (left (right (bodyC cfg.P 63)))))))))) fr h3 _
        refine aw_reg (id := 9) (n := 7) [(0, []), (1, []), (2, []), (3, []), (4, []), (5, []), (6, [])] (by kernel_rfl) (by kernel_rfl) ?_
        refine at_step (v := .str x1) (h1 := h3) [(0, .yfn l), (1, .ptr (some (bp1, 0))), (2, .ptr (some (bp2, 0))), (3, .ptr (some (bp3, 0))), (7, .int .i64 x4), (43, .str x1)] H (fun fr => by kernel_rfl) (fun fr => .of (s_ld (by kernel_rfl) (A.ld1 1 rfl (o := 0) rfl))) ?_
        intro fr t H
        refine at_seg [(1, [])] [(0, .yfn l), (1, .ptr (some (bp1, 0))), (2, .ptr (some (bp2, 0))), (3, .ptr (some (bp3, 0))), (43, .str x1), (44, .int .i64 x4)] H (noU_all rfl) (fun fr => by kernel_rfl) ?_
        intro fr H
        refine at_step (v := .str ([0] : List UInt8)) (h1 := h3) [(0, .yfn l), (1, .ptr (some (bp1, 0))), (2, .ptr (some (bp2, 0))), (3, .ptr (some (bp3, 0))), (43, .str x1), (44, .int .i64 x4), (45, .str ([0] : List UInt8))] H (fun fr => by kernel_rfl) (fun fr => .of (s_ld (by kernel_rfl) (A.ld1 0 rfl (o := 0) rfl))) ?_
        intro fr t H
        refine at_seg [(3, []), (4, [])] [(0, .yfn l), (1, .ptr (some (bp1, 0))), (2, .ptr (some (bp2, 0))), (3, .ptr (some (bp3, 0))), (43, .str x1), (47, .int .i64 (IntKind.i64.wrap (x4 + (1 : Int))))] H (noU_all rfl) (fun fr => by kernel_rfl) ?_
        intro fr H
        obtain ⟨x7, hx, hm⟩ := bind_some hm
        refine at_step (v := .str x7) (h1 := h3) [(0, .yfn l), (1, .ptr (some (bp1, 0))), (2, .ptr (some (bp2, 0))), (3, .ptr (some (bp3, 0))), (48, .str x7)] H (fun fr => by kernel_rfl) (fun fr => .of (s_subS (k := .i64) (k' := .i64) (lo := (some (IntKind.i64.wrap (x4 + (1 : Int))))) (hi := none) (by kernel_rfl) hx)) ?_
        intro fr t H
        obtain ⟨h4, hx, A1⟩ := A.st 1 rfl (o := 0) (new := [.str x7]) (ds := [.str x7]) (Nat.le_of_ble_eq_true rfl) rfl rfl
        replace A : HH g h4 [.obj bp1 (.cells none 2 [.str ([0] : List UInt8)]), .obj bp2 (.cells none 2 [.str x7]), .obj bp3 (.cells none 2 [.int .i64 (0 : Int)])] F := A1
        refine at_step (v := .tuple []) (h1 := h4) [(0, .yfn l), (1, .ptr (some (bp1, 0))), (2, .ptr (some (bp2, 0))), (3, .ptr (some (bp3, 0)))] H (fun fr => by kernel_rfl) (fun fr => .of (s_st (by kernel_rfl) rfl hx)) ?_
        intro fr t H
        refine at_nil ?_
        exact Exists.intro (x7, y4) (And.intro (Option.some.inj hm).symm ⟨x7, y4, rfl, H.less _ (fun fr => by kernel_rfl), ⟨F, B, A⟩⟩)
  · clear ho
    clear A
    intro e fr h5 hQ
    rcases hQ with ⟨x2, y2, rfl, rfl, H, ⟨F, B, A⟩⟩ | ⟨x3, y3, rfl, rfl, H, ⟨F, B, A⟩⟩ | hF
    · skip
      show AW cfg 63 g (right (right (bodyC cfg.P 63))) fr h5 _
      refine aw_reg (id := 10) (n := 3) [(0, []), (1, []), (2, [])] (by kernel_rfl) (by kernel_rfl) ?_
      refine at_seg [(0, [])] [(2, .ptr (some (bp2, 0))), (49, .yfn l)] H (noU_all rfl) (fun fr => by kernel_rfl) ?_
      intro fr H
      refine at_step (v := .str x2) (h1 := h5) [(49, .yfn l), (50, .str x2)] H (fun fr => by kernel_rfl) (fun fr => .of (s_ld (by kernel_rfl) (A.ld1 1 rfl (o := 0) rfl))) ?_
      intro fr t H
      obtain ⟨⟨x8, y5⟩, hx, hm⟩ := bind_some hm
      obtain ⟨h6, F, hr, B, A⟩ := hYR.yld (pr := []) .nil A B hx
      refine at_step (v := .bool x8) (h1 := h6) [] H (fun fr => by kernel_rfl) (fun fr => Steps.round (by kernel_rfl) hr) ?_
      intro fr t H
      refine at_nil ?_
      have e0 := Option.some.inj hm
      obtain ⟨y0, z0⟩ := Prod.mk.inj e0
      subst y0
      subst z0
      refine ⟨.inr rfl, .tuple [], resH H (fun fr => by kernel_rfl), ?_⟩
      exact ⟨rfl, ⟨F, B, A⟩⟩
    · skip
      have e0 := Option.some.inj hm
      obtain ⟨y0, z0⟩ := Prod.mk.inj e0
      subst y0
      subst z0
      refine ⟨.inl rfl, .tuple [], resH H (fun fr => by kernel_rfl), ?_⟩
      exact ⟨rfl, ⟨F, B, A⟩⟩
    · exact hF.elim
end Go.Av.L
