/-
  Models of functions, and that the abstract run tells them. Written by lift2.py.
-/
import Derived.Test.YtiodcbipjnmpgaaKCfg
namespace Go.Av.L
open Go.Av Go.Lib
set_option maxRecDepth 10000
set_option linter.unusedVariables false
set_option linter.unusedSimpArgs false
/-! ### (boulter/class.Set).Has -/
noncomputable def M_class_Set_Has (p0 : A4_uint64) (p1 : Int) : Option (Bool) :=
 (ixV ([p0.w0, p0.w1, p0.w2, p0.w3] : List Int) (bShr .u8 p1 (6 : Int))).bind fun x1 => need (decide (0 ≤ (bAnd .u8 p1 (63 : Int)))) <| some ((bAnd .u64 (bShr .u64 x1 (bAnd .u8 p1 (63 : Int))) (1 : Int)) == (1 : Int))
theorem ok_class_Set_Has {g : Gd} {h : AHeap} {F : List Ck} {p0 : A4_uint64} {p1 : Int} {q0 : Bool} {av : List AVal} (hm : M_class_Set_Has p0 p1 = some q0) (hc : canL (cfg.still 31) av = [.agg [.int .u64 p0.w0, .int .u64 p0.w1, .int .u64 p0.w2, .int .u64 p0.w3], .int .u8 p1]) (A : HH g h [] F) : ∃ v h', Runs cfg g h 31 av v h' ∧ v = .bool q0 ∧ HH g h' [] F := by
  refine runsQ1 (n := 14) (rs := [.tmp 4]) (by kernel_rfl) hc (by kernel_rfl) ?_
  clear hc
  unfold M_class_Set_Has at hm
  refine start (n := 14) [(0, .agg [.int .u64 p0.w0, .int .u64 p0.w1, .int .u64 p0.w2, .int .u64 p0.w3]), (1, .int .u8 p1)] (by kernel_rfl) (by kernel_rfl) ?_
  intro fr H
  refine aw_seq (by kernel_rfl) ?_
  refine aw_reg (id := 0) (n := 2) [(0, []), (1, [])] (by kernel_rfl) (by kernel_rfl) ?_
  obtain ⟨h1, e1⟩ : ∃ x, x = h.push (.cells none 2 [.int .u64 p0.w0, .int .u64 p0.w1, .int .u64 p0.w2, .int .u64 p0.w3]) := ⟨_, rfl⟩
  replace A := (A.push _).to e1
  refine at_step (v := .ptr (some (h.size, 0))) (h1 := h1) [(1, .int .u8 p1), (2, .ptr (some (h.size, 0)))] H (fun fr => by kernel_rfl) (fun fr => .of (s_n' (by kernel_rfl) (congrArg some e1.symm))) ?_
  intro fr t H
  refine at_seg [(1, [])] [(1, .int .u8 p1), (2, .ptr (some (h.size, 0)))] H (noU_all rfl) (fun fr => by kernel_rfl) ?_
  intro fr H
  refine at_nil ?_
  show AW cfg 31 g (right (bodyC cfg.P 31)) fr h1 _
  refine aw_seq (by kernel_rfl) ?_
  refine aw_reg (id := 1) (n := 10) [(0, []), (1, []), (2, []), (3, []), (4, []), (5, []), (6, []), (7, []), (8, []), (9, [])] (by kernel_rfl) (by kernel_rfl) ?_
  refine at_seg [(0, []), (1, [])] [(1, .int .u8 p1), (2, .ptr (some (h.size, 0))), (6, .int .u8 (bShr .u8 p1 (6 : Int)))] H (noU_all rfl) (fun fr => by kernel_rfl) ?_
  intro fr H
  obtain ⟨x1, hq1, hm⟩ := bind_some hm
  refine at_step (v := .ptr (some (h.size, 0 + (bShr .u8 p1 (6 : Int)).toNat * 1))) (h1 := h1) [(1, .int .u8 p1), (7, .ptr (some (h.size, 0 + (bShr .u8 p1 (6 : Int)).toNat * 1)))] H (fun fr => by kernel_rfl) (fun fr => .of (s_ixA (by kernel_rfl) (ixA_of hq1 (h.size, 0) 1 rfl))) ?_
  intro fr t H
  refine at_step (v := .int .u64 x1) (h1 := h1) [(1, .int .u8 p1), (8, .int .u64 x1)] H (fun fr => by kernel_rfl) (fun fr => .of (s_ld (by kernel_rfl) (HH.ldW A 0 rfl 0 (fun w : Int => .int .u64 w) [p0.w0, p0.w1, p0.w2, p0.w3] rfl hq1))) ?_
  intro fr t H
  refine at_seg [(4, []), (5, [])] [(8, .int .u64 x1), (10, .int .u8 (bAnd .u8 p1 (63 : Int)))] H (noU_all rfl) (fun fr => by kernel_rfl) ?_
  intro fr H
  obtain ⟨hb, hm⟩ := need_some hm
  refine at_step (v := .int .u64 (bShr .u64 x1 (bAnd .u8 p1 (63 : Int)))) (h1 := h1) [(11, .int .u64 (bShr .u64 x1 (bAnd .u8 p1 (63 : Int))))] H (fun fr => by kernel_rfl) (fun fr => .of (s_shr (by kernel_rfl) hb)) ?_
  intro fr t H
  refine at_seg [(7, []), (8, []), (9, [])] [(4, .bool ((bAnd .u64 (bShr .u64 x1 (bAnd .u8 p1 (63 : Int))) (1 : Int)) == (1 : Int)))] H (noU_all rfl) (fun fr => by kernel_rfl) ?_
  intro fr H
  refine at_nil ?_
  show AW cfg 31 g (right (right (bodyC cfg.P 31))) fr h1 _
  refine aw_ret (by kernel_rfl) ?_
  have e1 := Option.some.inj hm
  subst e1
  refine ⟨.inl rfl, .bool ((bAnd .u64 (bShr .u64 x1 (bAnd .u8 p1 (63 : Int))) (1 : Int)) == (1 : Int)), resH H (fun fr => by kernel_rfl), ?_⟩
  replace A : HH g h1 [] F := (HH.dropF A 0)
  exact ⟨rfl, A⟩
/-! ### (boulter/class.Set).Bytes -/
noncomputable def M_class_Set_Bytes_L0 (p0 : A4_uint64) (s : (List UInt8) × Int) : Option (((List UInt8) × Int) ⊕ (((List UInt8)))) :=
  match s with
  | (x1, x2) => iteB (decide (x2 < (256 : Int))) (((M_class_Set_Has p0 (IntKind.u8.wrap x2)).bind fun x5 => iteB x5 ((toY (IntKind.u8.wrap x2)).bind fun x6 => need (okN 1 (x1.length + ([x6] : List UInt8).length)) <| some (x1 ++ ([x6] : List UInt8))) (some x1) : Option (((List UInt8)))).bind fun x4 => some (.inl (x4, IntKind.i64.wrap (x2 + (1 : Int))))) (some (.inr x1))
noncomputable def M_class_Set_Bytes (p0 : A4_uint64) : Option ((List UInt8)) :=
 (loop (M_class_Set_Bytes_L0 p0) (([] : List UInt8), (0 : Int))).bind fun x3 => some x3
theorem ok_class_Set_Bytes {g : Gd} {h : AHeap} {F : List Ck} {p0 : A4_uint64} {q0 : List UInt8} {av : List AVal} (hm : M_class_Set_Bytes p0 = some q0) (hc : canL (cfg.still 45) av = [.agg [.int .u64 p0.w0, .int .u64 p0.w1, .int .u64 p0.w2, .int .u64 p0.w3]]) (A : HH g h [] F) : ∃ v h', Runs cfg g h 45 av v h' ∧ v = .str q0 ∧ HH g h' [] F := by
  refine runsQ1 (n := 20) (rs := [.tmp 2]) (by kernel_rfl) hc (by kernel_rfl) ?_
  clear hc
  unfold M_class_Set_Bytes at hm
  refine start (n := 20) [(0, .agg [.int .u64 p0.w0, .int .u64 p0.w1, .int .u64 p0.w2, .int .u64 p0.w3])] (by kernel_rfl) (by kernel_rfl) ?_
  intro fr H
  refine aw_seq (by kernel_rfl) ?_
  refine aw_reg (id := 0) (n := 2) [(0, []), (1, [])] (by kernel_rfl) (by kernel_rfl) ?_
  obtain ⟨h1, e1⟩ : ∃ x, x = h.push (.cells none 2 [.int .u64 p0.w0, .int .u64 p0.w1, .int .u64 p0.w2, .int .u64 p0.w3]) := ⟨_, rfl⟩
  replace A := (A.push _).to e1
  refine at_step (v := .ptr (some (h.size, 0))) (h1 := h1) [(1, .ptr (some (h.size, 0)))] H (fun fr => by kernel_rfl) (fun fr => .of (s_n' (by kernel_rfl) (congrArg some e1.symm))) ?_
  intro fr t H
  refine at_seg [(1, [])] [(1, .ptr (some (h.size, 0)))] H (noU_all rfl) (fun fr => by kernel_rfl) ?_
  intro fr H
  refine at_nil ?_
  show AW cfg 45 g (right (bodyC cfg.P 45)) fr h1 _
  refine aw_seq (by kernel_rfl) ?_
  refine aw_reg (id := 1) (n := 1) [(0, [])] (by kernel_rfl) (by kernel_rfl) ?_
  refine at_seg [(0, [])] [(1, .ptr (some (h.size, 0))), (3, .slice none 0)] H (noU_all rfl) (fun fr => by kernel_rfl) ?_
  intro fr H
  refine at_nil ?_
  show AW cfg 45 g (right (right (bodyC cfg.P 45))) fr h1 _
  refine aw_seq (by kernel_rfl) ?_
  refine aw_seq (by kernel_rfl) ?_
  refine aw_reg (id := 2) (n := 1) [(0, [])] (by kernel_rfl) (by kernel_rfl) ?_
  refine at_seg [(0, [])] [(1, .ptr (some (h.size, 0))), (3, .slice none 0), (5, .int .i64 (0 : Int))] H (noU_all rfl) (fun fr => by kernel_rfl) ?_
  intro fr H
  refine at_nil ?_
  show AW cfg 45 g (right (left (right (right (bodyC cfg.P 45))))) fr h1 _
  refine aw_block (id := 0) (by kernel_rfl) ?_
  replace A : HH g h1 [.lst none 5 (lst eY ([] : List UInt8)), .obj h.size (.cells none 2 [.int .u64 p0.w0, .int .u64 p0.w1, .int .u64 p0.w2, .int .u64 p0.w3])] F := A.nilL 5
  obtain ⟨o1, ho, hm⟩ := bind_some hm
  refine aw_mono (Q' := fun e fr' h' => (∃ (x3 : List UInt8), e = .exit 0 ∧ x3 = o1 ∧ ∃ (r2 : Option Nat), Has fr' 20 [(3, rowV r2 x3.length)] ∧ HH g h' [.lst r2 5 (lst eY x3), .obj h.size (.cells none 2 [.int .u64 p0.w0, .int .u64 p0.w1, .int .u64 p0.w2, .int .u64 p0.w3])] F) ∨ False) ?_ ?_
  · refine aw_loop (by kernel_rfl) (fun (s : (List UInt8) × Int) fr' h' => ∃ (x1 : List UInt8) (x2 : Int), (x1, x2) = s ∧ ∃ (r1 : Option Nat), Has fr' 20 [(1, .ptr (some (h.size, 0))), (3, rowV r1 x1.length), (5, .int .i64 x2)] ∧ HH g h' [.lst r1 5 (lst eY x1), .obj h.size (.cells none 2 [.int .u64 p0.w0, .int .u64 p0.w1, .int .u64 p0.w2, .int .u64 p0.w3])] F) ho ⟨([] : List UInt8), (0 : Int), rfl, none, H.less _ (fun fr => by kernel_rfl), A⟩ ?_
    clear ho hm H A
    intro s q fr h2 hI hm
    obtain ⟨x1, x2, rfl, r1, H, A⟩ := hI
    unfold M_class_Set_Bytes_L0 at hm
    refine aw_seq (by kernel_rfl) ?_
    refine aw_reg (id := 3) (n := 1) [(0, [])] (by kernel_rfl) (by kernel_rfl) ?_
    refine at_seg [(0, [])] [(1, .ptr (some (h.size, 0))), (3, rowV r1 x1.length), (5, .int .i64 x2), (6, .bool (decide (x2 < (256 : Int))))] H (noU_all rfl) (fun fr => by kernel_rfl) ?_
    intro fr H
    refine at_nil ?_
    show AW cfg 45 g (right (left (left (right (left (right (right (bodyC cfg.P 45)))))))) fr h2 _
    refine aw_seq (by kernel_rfl) ?_
    rcases iteB_some hm with ⟨hb, hm⟩ | ⟨hb, hm⟩
    · replace H := H.know 6 hb (by kernel_rfl)
      refine aw_true (x := .tmp 6) (by kernel_rfl) H (fun fr => by kernel_rfl) ?_
      refine aw_skip (by kernel_rfl) ?_
      show AW cfg 45 g (right (right (left (left (right (left (right (right (bodyC cfg.P 45))))))))) fr h2 _
      refine aw_seq (by kernel_rfl) ?_
      obtain ⟨o2, ho, hm⟩ := bind_some hm
      refine aw_mono (Q' := fun e fr' h' => (∃ (x4 : List UInt8), e = .normal ∧ x4 = o2 ∧ ∃ (r3 : Option Nat), Has fr' 20 [(1, .ptr (some (h.size, 0))), (3, rowV r3 x4.length), (5, .int .i64 x2)] ∧ HH g h' [.lst r3 5 (lst eY x4), .obj h.size (.cells none 2 [.int .u64 p0.w0, .int .u64 p0.w1, .int .u64 p0.w2, .int .u64 p0.w3])] F) ∨ False) ?_ ?_
      · replace hm := ho
        clear ho
        refine aw_block (id := 1) (by kernel_rfl) ?_
        refine aw_seq (by kernel_rfl) ?_
        refine aw_reg (id := 4) (n := 2) [(0, []), (1, [])] (by kernel_rfl) (by kernel_rfl) ?_
        refine at_seg [(0, []), (1, [])] [(1, .ptr (some (h.size, 0))), (3, rowV r1 x1.length), (4, .int .i64 x2), (5, .int .i64 x2)] H (noU_all rfl) (fun fr => by kernel_rfl) ?_
        intro fr H
        refine at_nil ?_
        show AW cfg 45 g (right (left (left (right (right (left (left (right (left (right (right (bodyC cfg.P 45)))))))))))) fr h2 _
        refine aw_seq (by kernel_rfl) ?_
        refine aw_reg (id := 5) (n := 4) [(0, []), (1, []), (2, []), (3, [])] (by kernel_rfl) (by kernel_rfl) ?_
        refine at_step (v := .agg [.int .u64 p0.w0, .int .u64 p0.w1, .int .u64 p0.w2, .int .u64 p0.w3]) (h1 := h2) [(1, .ptr (some (h.size, 0))), (3, rowV r1 x1.length), (4, .int .i64 x2), (5, .int .i64 x2), (8, .agg [.int .u64 p0.w0, .int .u64 p0.w1, .int .u64 p0.w2, .int .u64 p0.w3])] H (fun fr => by kernel_rfl) (fun fr => .of (s_ldA (by kernel_rfl) (A.ldA 1 rfl (o := 0) (n := 4) ⟨Nat.le_of_ble_eq_true rfl, rfl⟩))) ?_
        intro fr t H
        refine at_seg [(1, []), (2, [])] [(1, .ptr (some (h.size, 0))), (3, rowV r1 x1.length), (4, .int .i64 x2), (5, .int .i64 x2), (8, .agg [.int .u64 p0.w0, .int .u64 p0.w1, .int .u64 p0.w2, .int .u64 p0.w3]), (10, .int .u8 (IntKind.u8.wrap x2))] H (noU_all rfl) (fun fr => by kernel_rfl) ?_
        intro fr H
        have A1 := A.cut 0
        obtain ⟨x5, hx, hm⟩ := bind_some hm
        obtain ⟨v1, h3, hr, rfl, A1⟩ := ok_class_Set_Has (av := [.agg [.int .u64 p0.w0, .int .u64 p0.w1, .int .u64 p0.w2, .int .u64 p0.w3], .int .u8 (IntKind.u8.wrap x2)]) hx (by kernel_rfl) A1
        replace A : HH g h3 [.lst r1 5 (lst eY x1), .obj h.size (.cells none 2 [.int .u64 p0.w0, .int .u64 p0.w1, .int .u64 p0.w2, .int .u64 p0.w3])] F := A.glue0 (n := 0) A1
        refine at_step (v := .bool x5) (h1 := h3) [(1, .ptr (some (h.size, 0))), (3, rowV r1 x1.length), (4, .int .i64 x2), (5, .int .i64 x2), (11, .bool x5)] H (fun fr => by kernel_rfl) (fun fr => Steps.call (by kernel_rfl) hr) ?_
        intro fr t H
        refine at_nil ?_
        show AW cfg 45 g (right (right (left (left (right (right (left (left (right (left (right (right (bodyC cfg.P 45))))))))))))) fr h3 _
        rcases iteB_some hm with ⟨hb, hm⟩ | ⟨hb, hm⟩
        · replace H := H.know 11 hb (by kernel_rfl)
          refine aw_true (x := .tmp 11) (by kernel_rfl) H (fun fr => by kernel_rfl) ?_
          refine aw_reg (id := 6) (n := 6) [(0, []), (1, []), (2, []), (3, []), (4, []), (5, [])] (by kernel_rfl) (by kernel_rfl) ?_
          refine at_seg [(0, []), (1, []), (2, [])] [(1, .ptr (some (h.size, 0))), (5, .int .i64 x2), (12, rowV r1 x1.length), (14, .int .u8 (IntKind.u8.wrap x2))] H (noU_all rfl) (fun fr => by kernel_rfl) ?_
          intro fr H
          obtain ⟨x6, hx, hm⟩ := bind_some hm
          have hx := toY_eq hx
          rw [hx] at H
          obtain ⟨h4, e2⟩ : ∃ x, x = h3.push (.cells (some 5) 2 [.int .u8 (x6.toNat : Int)]) := ⟨_, rfl⟩
          replace A := (A.pushL _ _).to e2
          refine at_step (v := rowV (some h3.size) (([x6] : List UInt8).length)) (h1 := h4) [(1, .ptr (some (h.size, 0))), (5, .int .i64 x2), (12, rowV r1 x1.length), (15, rowV (some h3.size) (([x6] : List UInt8).length))] H (fun fr => by kernel_rfl) (fun fr => .of (s_n' (by kernel_rfl) (congrArg some e2.symm))) ?_
          intro fr t H
          obtain ⟨hb, hm⟩ := need_some hm
          obtain ⟨r4, h5, hx, A1⟩ := HH.appO encY (by decide) A 1 (xs := x1) (ys := ([x6] : List UInt8)) rfl (row_first A 0 rfl (n := ([x6] : List UInt8).length) (z := 1) rfl (by decide)) rfl rfl hb
          replace A : HH g h5 [.lst (some h3.size) 5 ([.int .u8 (x6.toNat : Int)]), .lst r4 5 (lst eY (x1 ++ ([x6] : List UInt8))), .obj h.size (.cells none 2 [.int .u64 p0.w0, .int .u64 p0.w1, .int .u64 p0.w2, .int .u64 p0.w3])] F := A1
          replace A : HH g h5 [.lst r4 5 (lst eY (x1 ++ ([x6] : List UInt8))), .obj h.size (.cells none 2 [.int .u64 p0.w0, .int .u64 p0.w1, .int .u64 p0.w2, .int .u64 p0.w3])] F := (HH.dropF ((A.front 2 rfl).front 2 rfl) 2)
          refine at_step (v := rowV r4 ((x1 ++ ([x6] : List UInt8)).length)) (h1 := h5) [(1, .ptr (some (h.size, 0))), (5, .int .i64 x2), (16, rowV r4 ((x1 ++ ([x6] : List UInt8)).length))] H (fun fr => by kernel_rfl) (fun fr => .of (s_app (s := rowS r1 x1.length) (by kernel_rfl) hx)) ?_
          intro fr t H
          refine at_seg [(5, [])] [(1, .ptr (some (h.size, 0))), (3, rowV r4 ((x1 ++ ([x6] : List UInt8)).length)), (5, .int .i64 x2)] H (noU_all rfl) (fun fr => by kernel_rfl) ?_
          intro fr H
          refine at_nil ?_
          exact Or.inl ⟨(x1 ++ ([x6] : List UInt8)), rfl, Option.some.inj hm, r4, H.less _ (fun fr => by kernel_rfl), A⟩
        · replace H := H.know 11 hb (by kernel_rfl)
          refine aw_false (x := .tmp 11) (by kernel_rfl) H (fun fr => by kernel_rfl) ?_
          refine aw_skip (by kernel_rfl) ?_
          exact Or.inl ⟨x1, rfl, Option.some.inj hm, r1, H.less _ (fun fr => by kernel_rfl), A⟩
      · clear ho
        clear A
        intro e fr h6 hQ
        rcases hQ with ⟨x4, rfl, rfl, r3, H, A⟩ | hF
        · skip
          show AW cfg 45 g (right (right (right (left (left (right (left (right (right (bodyC cfg.P 45)))))))))) fr h6 _
          refine aw_reg (id := 7) (n := 2) [(0, []), (1, [])] (by kernel_rfl) (by kernel_rfl) ?_
          refine at_seg [(0, []), (1, [])] [(1, .ptr (some (h.size, 0))), (3, rowV r3 x4.length), (5, .int .i64 (IntKind.i64.wrap (x2 + (1 : Int))))] H (noU_all rfl) (fun fr => by kernel_rfl) ?_
          intro fr H
          refine at_nil ?_
          exact Exists.intro (x4, IntKind.i64.wrap (x2 + (1 : Int))) (And.intro (Option.some.inj hm).symm ⟨x4, IntKind.i64.wrap (x2 + (1 : Int)), rfl, r3, H.less _ (fun fr => by kernel_rfl), A⟩)
        · exact hF.elim
    · replace H := H.know 6 hb (by kernel_rfl)
      refine aw_false (x := .tmp 6) (by kernel_rfl) H (fun fr => by kernel_rfl) ?_
      refine aw_exit (i := 0) (by kernel_rfl) ?_
      exact Exists.intro _ (And.intro (Option.some.inj hm).symm (fun e => Or.inl ⟨x1, rfl, e, r1, H.less _ (fun fr => by kernel_rfl), A⟩))
  · clear ho
    clear A
    intro e fr h7 hQ
    rcases hQ with ⟨x3, rfl, rfl, r2, H, A⟩ | hF
    · skip
      show AW cfg 45 g (right (right (right (bodyC cfg.P 45)))) fr h7 _
      refine aw_seq (by kernel_rfl) ?_
      refine aw_reg (id := 8) (n := 3) [(0, []), (1, []), (2, [])] (by kernel_rfl) (by kernel_rfl) ?_
      refine at_seg [(0, [])] [(18, rowV r2 x3.length)] H (noU_all rfl) (fun fr => by kernel_rfl) ?_
      intro fr H
      refine at_step (v := .str x3) (h1 := h7) [(19, .str x3)] H (fun fr => by kernel_rfl) (fun fr => .of (s_byO (xs := x3) A 0 rfl (by kernel_rfl))) ?_
      intro fr t H
      refine at_seg [(2, [])] [(2, .str x3)] H (noU_all rfl) (fun fr => by kernel_rfl) ?_
      intro fr H
      refine at_nil ?_
      show AW cfg 45 g (right (right (right (right (bodyC cfg.P 45))))) fr h7 _
      refine aw_ret (by kernel_rfl) ?_
      have e1 := Option.some.inj hm
      subst e1
      refine ⟨.inl rfl, .str x3, resH H (fun fr => by kernel_rfl), ?_⟩
      replace A : HH g h7 [] F := (HH.dropF A 0)
      exact ⟨rfl, A⟩
    · exact hF.elim
/-! ### boulter/boulterlaw18.Plain -/
noncomputable def M_boulterlaw18_Plain_L0 (p0 : S_tree_Tree) (s : (List S_boulterref18_Node) × Int) : Option (((List S_boulterref18_Node) × Int) ⊕ (((List S_boulterref18_Node)))) :=
  match s with
  | (x1, x2) => iteB (decide (x2 < (p0.Nodes.length : Int))) ((ixV p0.Nodes x2).bind fun x4 => (M_class_Set_Bytes x4.Set).bind fun x5 => need (okN 64 (x1.length + ([(⟨x4.Kind, x4.A, x4.B, x4.Min, x4.Max, x4.Group, x5⟩ : S_boulterref18_Node)] : List S_boulterref18_Node).length)) <| some (.inl ((x1 ++ ([(⟨x4.Kind, x4.A, x4.B, x4.Min, x4.Max, x4.Group, x5⟩ : S_boulterref18_Node)] : List S_boulterref18_Node)), IntKind.i64.wrap (x2 + (1 : Int))))) (some (.inr x1))
noncomputable def M_boulterlaw18_Plain (p0 : S_tree_Tree) : Option (S_boulterref18_Tree) :=
 (loop (M_boulterlaw18_Plain_L0 p0) (([] : List S_boulterref18_Node), (0 : Int))).bind fun x3 => some (⟨x3, p0.Root⟩ : S_boulterref18_Tree)
theorem ok_boulterlaw18_Plain {g : Gd} {h : AHeap} {F : List Ck} {p0 : S_tree_Tree} {q0 : S_boulterref18_Tree} {av : List AVal} (hm : M_boulterlaw18_Plain p0 = some q0) (hc : canL (cfg.still 14) av = [.agg [vs e_S_tree_Node p0.Nodes, .int .i64 p0.Root]]) (A : HH g h [] F) : ∃ v h', Runs cfg g h 14 av v h' ∧ v = .agg [vs e_S_boulterref18_Node q0.L, .int .i64 q0.Root] ∧ HH g h' [] F := by
  refine runsQ7 (n := 39) (rs := [.cell 2 39]) (by kernel_rfl) hc (by kernel_rfl) ?_
  clear hc
  unfold M_boulterlaw18_Plain at hm
  refine start (n := 39) [(0, .agg [vs e_S_tree_Node p0.Nodes, .int .i64 p0.Root])] (by kernel_rfl) (by kernel_rfl) ?_
  intro fr H
  refine aw_seq (by kernel_rfl) ?_
  refine aw_reg (id := 0) (n := 2) [(0, []), (1, [])] (by kernel_rfl) (by kernel_rfl) ?_
  obtain ⟨h1, e1⟩ : ∃ x, x = h.push (.cells none 2 [vs e_S_tree_Node p0.Nodes, .int .i64 p0.Root]) := ⟨_, rfl⟩
  replace A := (A.push _).to e1
  refine at_step (v := .ptr (some (h.size, 0))) (h1 := h1) [(1, .ptr (some (h.size, 0)))] H (fun fr => by kernel_rfl) (fun fr => .of (s_n' (by kernel_rfl) (congrArg some e1.symm))) ?_
  intro fr t H
  obtain ⟨h2, e2⟩ : ∃ x, x = h1.push (.cells none 2 [.slice none 0, .int .i64 (0 : Int)]) := ⟨_, rfl⟩
  replace A := (A.push _).to e2
  refine at_step (v := .ptr (some (h1.size, 0))) (h1 := h2) [(1, .ptr (some (h.size, 0))), (2, .ptr (some (h1.size, 0)))] H (fun fr => by kernel_rfl) (fun fr => .of (s_n' (by kernel_rfl) (congrArg some e2.symm))) ?_
  intro fr t H
  refine at_nil ?_
  show AW cfg 14 g (right (bodyC cfg.P 14)) fr h2 _
  refine aw_seq (by kernel_rfl) ?_
  refine aw_reg (id := 1) (n := 5) [(0, []), (1, []), (2, []), (3, []), (4, [])] (by kernel_rfl) (by kernel_rfl) ?_
  refine at_seg [(0, [])] [(1, .ptr (some (h.size, 0))), (2, .ptr (some (h1.size, 0))), (6, .ptr (some (h.size, 1)))] H (noU_all rfl) (fun fr => by kernel_rfl) ?_
  intro fr H
  refine at_step (v := .int .i64 p0.Root) (h1 := h2) [(1, .ptr (some (h.size, 0))), (2, .ptr (some (h1.size, 0))), (7, .int .i64 p0.Root)] H (fun fr => by kernel_rfl) (fun fr => .of (s_ld (by kernel_rfl) (A.ld1 1 rfl (o := 1) rfl))) ?_
  intro fr t H
  refine at_seg [(2, [])] [(1, .ptr (some (h.size, 0))), (2, .ptr (some (h1.size, 0))), (8, .agg [.slice none 0, .int .i64 p0.Root])] H (noU_all rfl) (fun fr => by kernel_rfl) ?_
  intro fr H
  obtain ⟨h3, e3⟩ : ∃ x, x = h2.push (.cells none 2 [.slice none 0, .int .i64 (0 : Int)]) := ⟨_, rfl⟩
  replace A := (A.push _).to e3
  refine at_step (v := .ptr (some (h2.size, 0))) (h1 := h3) [(1, .ptr (some (h.size, 0))), (2, .ptr (some (h1.size, 0))), (3, .ptr (some (h2.size, 0))), (8, .agg [.slice none 0, .int .i64 p0.Root])] H (fun fr => by kernel_rfl) (fun fr => .of (s_n' (by kernel_rfl) (congrArg some e3.symm))) ?_
  intro fr t H
  obtain ⟨h4, hx, A1⟩ := A.st 0 rfl (o := 0) (new := [.slice none 0, .int .i64 p0.Root]) (ds := [.slice none 0, .int .i64 p0.Root]) (Nat.le_of_ble_eq_true rfl) rfl rfl
  replace A : HH g h4 [.obj h2.size (.cells none 2 [.slice none 0, .int .i64 p0.Root]), .obj h1.size (.cells none 2 [.slice none 0, .int .i64 (0 : Int)]), .obj h.size (.cells none 2 [vs e_S_tree_Node p0.Nodes, .int .i64 p0.Root])] F := A1
  refine at_step (v := .tuple []) (h1 := h4) [(1, .ptr (some (h.size, 0))), (2, .ptr (some (h1.size, 0))), (3, .ptr (some (h2.size, 0)))] H (fun fr => by kernel_rfl) (fun fr => .of (s_stG (by kernel_rfl) (stG_st hx rfl))) ?_
  intro fr t H
  refine at_nil ?_
  show AW cfg 14 g (right (right (bodyC cfg.P 14))) fr h4 _
  refine aw_seq (by kernel_rfl) ?_
  refine aw_seq (by kernel_rfl) ?_
  refine aw_reg (id := 2) (n := 4) [(0, []), (1, []), (2, []), (3, [])] (by kernel_rfl) (by kernel_rfl) ?_
  refine at_seg [(0, [])] [(2, .ptr (some (h1.size, 0))), (3, .ptr (some (h2.size, 0))), (9, .ptr (some (h.size, 0)))] H (noU_all rfl) (fun fr => by kernel_rfl) ?_
  intro fr H
  refine at_step (v := vs e_S_tree_Node p0.Nodes) (h1 := h4) [(2, .ptr (some (h1.size, 0))), (3, .ptr (some (h2.size, 0))), (10, vs e_S_tree_Node p0.Nodes)] H (fun fr => by kernel_rfl) (fun fr => .of (s_ld (by kernel_rfl) (A.ld1 2 rfl (o := 0) rfl))) ?_
  intro fr t H
  refine at_seg [(2, []), (3, [])] [(2, .ptr (some (h1.size, 0))), (3, .ptr (some (h2.size, 0))), (10, vs e_S_tree_Node p0.Nodes), (11, .int .i64 (p0.Nodes.length : Int)), (12, .int .i64 (0 : Int))] H (noU_all rfl) (fun fr => by kernel_rfl) ?_
  intro fr H
  refine at_nil ?_
  show AW cfg 14 g (right (left (right (right (bodyC cfg.P 14))))) fr h4 _
  refine aw_block (id := 0) (by kernel_rfl) ?_
  replace A : HH g h4 [.lst none 96 (lst e_S_boulterref18_Node ([] : List S_boulterref18_Node)), .obj h2.size (.cells none 2 [.slice none 0, .int .i64 p0.Root]), .obj h1.size (.cells none 2 [.slice none 0, .int .i64 (0 : Int)]), .obj h.size (.cells none 2 [vs e_S_tree_Node p0.Nodes, .int .i64 p0.Root])] F := A.nilL 96
  obtain ⟨o1, ho, hm⟩ := bind_some hm
  refine aw_mono (Q' := fun e fr' h' => (∃ (x3 : List S_boulterref18_Node), e = .exit 0 ∧ x3 = o1 ∧ ∃ (r2 : Option Nat), Has fr' 39 [(2, .ptr (some (h1.size, 0))), (3, .ptr (some (h2.size, 0)))] ∧ HH g h' [.lst r2 96 (lst e_S_boulterref18_Node x3), .obj h2.size (.cells none 2 [rowV r2 x3.length, .int .i64 p0.Root]), .obj h1.size (.cells none 2 [.slice none 0, .int .i64 (0 : Int)]), .obj h.size (.cells none 2 [vs e_S_tree_Node p0.Nodes, .int .i64 p0.Root])] F) ∨ False) ?_ ?_
  · refine aw_loop (by kernel_rfl) (fun (s : (List S_boulterref18_Node) × Int) fr' h' => ∃ (x1 : List S_boulterref18_Node) (x2 : Int), (x1, x2) = s ∧ ∃ (r1 : Option Nat), Has fr' 39 [(2, .ptr (some (h1.size, 0))), (3, .ptr (some (h2.size, 0))), (10, vs e_S_tree_Node p0.Nodes), (11, .int .i64 (p0.Nodes.length : Int)), (12, .int .i64 x2)] ∧ HH g h' [.lst r1 96 (lst e_S_boulterref18_Node x1), .obj h2.size (.cells none 2 [rowV r1 x1.length, .int .i64 p0.Root]), .obj h1.size (.cells none 2 [.slice none 0, .int .i64 (0 : Int)]), .obj h.size (.cells none 2 [vs e_S_tree_Node p0.Nodes, .int .i64 p0.Root])] F) ho ⟨([] : List S_boulterref18_Node), (0 : Int), rfl, none, H.less _ (fun fr => by kernel_rfl), A⟩ ?_
    clear ho hm H A
    intro s q fr h5 hI hm
    obtain ⟨x1, x2, rfl, r1, H, A⟩ := hI
    unfold M_boulterlaw18_Plain_L0 at hm
    refine aw_seq (by kernel_rfl) ?_
    refine aw_reg (id := 3) (n := 1) [(0, [])] (by kernel_rfl) (by kernel_rfl) ?_
    refine at_seg [(0, [])] [(2, .ptr (some (h1.size, 0))), (3, .ptr (some (h2.size, 0))), (10, vs e_S_tree_Node p0.Nodes), (11, .int .i64 (p0.Nodes.length : Int)), (12, .int .i64 x2), (13, .bool (decide (x2 < (p0.Nodes.length : Int))))] H (noU_all rfl) (fun fr => by kernel_rfl) ?_
    intro fr H
    refine at_nil ?_
    show AW cfg 14 g (right (left (left (right (left (right (right (bodyC cfg.P 14)))))))) fr h5 _
    refine aw_seq (by kernel_rfl) ?_
    rcases iteB_some hm with ⟨hb, hm⟩ | ⟨hb, hm⟩
    · replace H := H.know 13 hb (by kernel_rfl)
      refine aw_true (x := .tmp 13) (by kernel_rfl) H (fun fr => by kernel_rfl) ?_
      refine aw_skip (by kernel_rfl) ?_
      show AW cfg 14 g (right (right (left (left (right (left (right (right (bodyC cfg.P 14))))))))) fr h5 _
      refine aw_seq (by kernel_rfl) ?_
      refine aw_block (id := 1) (by kernel_rfl) ?_
      refine aw_seq (by kernel_rfl) ?_
      refine aw_reg (id := 4) (n := 4) [(0, []), (1, []), (2, []), (3, [])] (by kernel_rfl) (by kernel_rfl) ?_
      obtain ⟨x4, hx, hm⟩ := bind_some hm
      refine at_step (v := .vptr (e_S_tree_Node x4)) (h1 := h5) [(2, .ptr (some (h1.size, 0))), (3, .ptr (some (h2.size, 0))), (10, vs e_S_tree_Node p0.Nodes), (11, .int .i64 (p0.Nodes.length : Int)), (12, .int .i64 x2), (14, .vptr (e_S_tree_Node x4))] H (fun fr => by kernel_rfl) (fun fr => .of (s_ixV (e := e_S_tree_Node) (x := x4) enc_S_tree_Node (by decide) (by kernel_rfl) hx)) ?_
      intro fr t H
      refine at_step (v := .agg (e_S_tree_Node x4)) (h1 := h5) [(2, .ptr (some (h1.size, 0))), (3, .ptr (some (h2.size, 0))), (10, vs e_S_tree_Node p0.Nodes), (11, .int .i64 (p0.Nodes.length : Int)), (12, .int .i64 x2), (15, .agg (e_S_tree_Node x4))] H (fun fr => by kernel_rfl) (fun fr => .of (s_lv (by kernel_rfl))) ?_
      intro fr t H
      obtain ⟨h6, e4⟩ : ∃ x, x = h5.push (.cells none 2 [.int .i64 (0 : Int), .int .i64 (0 : Int), .int .i64 (0 : Int), .int .i64 (0 : Int), .int .i64 (0 : Int), .int .i64 (0 : Int), .int .u64 (0 : Int), .int .u64 (0 : Int), .int .u64 (0 : Int), .int .u64 (0 : Int)]) := ⟨_, rfl⟩
      replace A := (A.push _).to e4
      refine at_step (v := .ptr (some (h5.size, 0))) (h1 := h6) [(2, .ptr (some (h1.size, 0))), (3, .ptr (some (h2.size, 0))), (5, .ptr (some (h5.size, 0))), (10, vs e_S_tree_Node p0.Nodes), (11, .int .i64 (p0.Nodes.length : Int)), (12, .int .i64 x2), (15, .agg (e_S_tree_Node x4))] H (fun fr => by kernel_rfl) (fun fr => .of (s_n' (by kernel_rfl) (congrArg some e4.symm))) ?_
      intro fr t H
      obtain ⟨h7, hx, A1⟩ := A.st 0 rfl (o := 0) (new := [.int .i64 x4.Kind, .int .i64 x4.A, .int .i64 x4.B, .int .i64 x4.Min, .int .i64 x4.Max, .int .i64 x4.Group, .int .u64 x4.Set.w0, .int .u64 x4.Set.w1, .int .u64 x4.Set.w2, .int .u64 x4.Set.w3]) (ds := [.int .i64 x4.Kind, .int .i64 x4.A, .int .i64 x4.B, .int .i64 x4.Min, .int .i64 x4.Max, .int .i64 x4.Group, .int .u64 x4.Set.w0, .int .u64 x4.Set.w1, .int .u64 x4.Set.w2, .int .u64 x4.Set.w3]) (Nat.le_of_ble_eq_true rfl) rfl rfl
      replace A : HH g h7 [.obj h5.size (.cells none 2 (e_S_tree_Node x4)), .lst r1 96 (lst e_S_boulterref18_Node x1), .obj h2.size (.cells none 2 [rowV r1 x1.length, .int .i64 p0.Root]), .obj h1.size (.cells none 2 [.slice none 0, .int .i64 (0 : Int)]), .obj h.size (.cells none 2 [vs e_S_tree_Node p0.Nodes, .int .i64 p0.Root])] F := A1
      refine at_step (v := .tuple []) (h1 := h7) [(2, .ptr (some (h1.size, 0))), (3, .ptr (some (h2.size, 0))), (5, .ptr (some (h5.size, 0))), (10, vs e_S_tree_Node p0.Nodes), (11, .int .i64 (p0.Nodes.length : Int)), (12, .int .i64 x2)] H (fun fr => by kernel_rfl) (fun fr => .of (s_stG (by kernel_rfl) (stG_st hx rfl))) ?_
      intro fr t H
      refine at_nil ?_
      show AW cfg 14 g (right (left (left (right (right (left (left (right (left (right (right (bodyC cfg.P 14)))))))))))) fr h7 _
      refine aw_draw (id := 5) (n := 22) (by kernel_rfl) [(0, []), (1, []), (2, []), (3, []), (4, []), (5, []), (6, []), (7, []), (8, []), (9, []), (10, []), (11, []), (12, []), (13, []), (14, []), (15, []), (16, [1, 3, 5, 7, 9, 11, 13]), (17, []), (18, []), (19, []), (20, []), (21, [])] (by kernel_rfl) ?_
      refine at_seg [(0, [])] [(2, .ptr (some (h1.size, 0))), (3, .ptr (some (h2.size, 0))), (5, .ptr (some (h5.size, 0))), (10, vs e_S_tree_Node p0.Nodes), (11, .int .i64 (p0.Nodes.length : Int)), (12, .int .i64 x2), (16, .ptr (some (h2.size, 0)))] H (noU_all rfl) (fun fr => by kernel_rfl) ?_
      intro fr H
      refine at_stepT (v := rowV r1 x1.length) (h1 := h7) (tch' := [(1, h2.size)]) (g.prot) [(2, .ptr (some (h1.size, 0))), (3, .ptr (some (h2.size, 0))), (5, .ptr (some (h5.size, 0))), (10, vs e_S_tree_Node p0.Nodes), (11, .int .i64 (p0.Nodes.length : Int)), (12, .int .i64 x2), (17, rowV r1 x1.length)] H (fun fr => by kernel_rfl) (by kernel_rfl) (fun fr => by kernel_rfl) (fun fr => .of (s_ld (by kernel_rfl) (A.ld1 2 rfl (o := 0) rfl))) (fun fr => by kernel_rfl) ?_
      intro fr H
      refine at_seg [(2, [])] [(2, .ptr (some (h1.size, 0))), (3, .ptr (some (h2.size, 0))), (5, .ptr (some (h5.size, 0))), (10, vs e_S_tree_Node p0.Nodes), (11, .int .i64 (p0.Nodes.length : Int)), (12, .int .i64 x2), (17, rowV r1 x1.length), (18, .ptr (some (h5.size, 0)))] H (noU_all rfl) (fun fr => by kernel_rfl) ?_
      intro fr H
      refine at_stepT (v := .int .i64 x4.Kind) (h1 := h7) (tch' := [(3, h5.size), (1, h2.size)]) (g.prot) [(2, .ptr (some (h1.size, 0))), (3, .ptr (some (h2.size, 0))), (5, .ptr (some (h5.size, 0))), (10, vs e_S_tree_Node p0.Nodes), (11, .int .i64 (p0.Nodes.length : Int)), (12, .int .i64 x2), (17, rowV r1 x1.length), (19, .int .i64 x4.Kind)] H (fun fr => by kernel_rfl) (by kernel_rfl) (fun fr => by kernel_rfl) (fun fr => .of (s_ld (by kernel_rfl) (A.ld1 0 rfl (o := 0) rfl))) (fun fr => by kernel_rfl) ?_
      intro fr H
      refine at_seg [(4, [])] [(2, .ptr (some (h1.size, 0))), (3, .ptr (some (h2.size, 0))), (5, .ptr (some (h5.size, 0))), (10, vs e_S_tree_Node p0.Nodes), (11, .int .i64 (p0.Nodes.length : Int)), (12, .int .i64 x2), (17, rowV r1 x1.length), (19, .int .i64 x4.Kind), (20, .ptr (some (h5.size, 1)))] H (noU_all rfl) (fun fr => by kernel_rfl) ?_
      intro fr H
      refine at_stepT (v := .int .i64 x4.A) (h1 := h7) (tch' := [(5, h5.size), (3, h5.size), (1, h2.size)]) (g.prot) [(2, .ptr (some (h1.size, 0))), (3, .ptr (some (h2.size, 0))), (5, .ptr (some (h5.size, 0))), (10, vs e_S_tree_Node p0.Nodes), (11, .int .i64 (p0.Nodes.length : Int)), (12, .int .i64 x2), (17, rowV r1 x1.length), (19, .int .i64 x4.Kind), (21, .int .i64 x4.A)] H (fun fr => by kernel_rfl) (by kernel_rfl) (fun fr => by kernel_rfl) (fun fr => .of (s_ld (by kernel_rfl) (A.ld1 0 rfl (o := 1) rfl))) (fun fr => by kernel_rfl) ?_
      intro fr H
      refine at_seg [(6, [])] [(2, .ptr (some (h1.size, 0))), (3, .ptr (some (h2.size, 0))), (5, .ptr (some (h5.size, 0))), (10, vs e_S_tree_Node p0.Nodes), (11, .int .i64 (p0.Nodes.length : Int)), (12, .int .i64 x2), (17, rowV r1 x1.length), (19, .int .i64 x4.Kind), (21, .int .i64 x4.A), (22, .ptr (some (h5.size, 2)))] H (noU_all rfl) (fun fr => by kernel_rfl) ?_
      intro fr H
      refine at_stepT (v := .int .i64 x4.B) (h1 := h7) (tch' := [(7, h5.size), (5, h5.size), (3, h5.size), (1, h2.size)]) (g.prot) [(2, .ptr (some (h1.size, 0))), (3, .ptr (some (h2.size, 0))), (5, .ptr (some (h5.size, 0))), (10, vs e_S_tree_Node p0.Nodes), (11, .int .i64 (p0.Nodes.length : Int)), (12, .int .i64 x2), (17, rowV r1 x1.length), (19, .int .i64 x4.Kind), (21, .int .i64 x4.A), (23, .int .i64 x4.B)] H (fun fr => by kernel_rfl) (by kernel_rfl) (fun fr => by kernel_rfl) (fun fr => .of (s_ld (by kernel_rfl) (A.ld1 0 rfl (o := 2) rfl))) (fun fr => by kernel_rfl) ?_
      intro fr H
      refine at_seg [(8, [])] [(2, .ptr (some (h1.size, 0))), (3, .ptr (some (h2.size, 0))), (5, .ptr (some (h5.size, 0))), (10, vs e_S_tree_Node p0.Nodes), (11, .int .i64 (p0.Nodes.length : Int)), (12, .int .i64 x2), (17, rowV r1 x1.length), (19, .int .i64 x4.Kind), (21, .int .i64 x4.A), (23, .int .i64 x4.B), (24, .ptr (some (h5.size, 3)))] H (noU_all rfl) (fun fr => by kernel_rfl) ?_
      intro fr H
      refine at_stepT (v := .int .i64 x4.Min) (h1 := h7) (tch' := [(9, h5.size), (7, h5.size), (5, h5.size), (3, h5.size), (1, h2.size)]) (g.prot) [(2, .ptr (some (h1.size, 0))), (3, .ptr (some (h2.size, 0))), (5, .ptr (some (h5.size, 0))), (10, vs e_S_tree_Node p0.Nodes), (11, .int .i64 (p0.Nodes.length : Int)), (12, .int .i64 x2), (17, rowV r1 x1.length), (19, .int .i64 x4.Kind), (21, .int .i64 x4.A), (23, .int .i64 x4.B), (25, .int .i64 x4.Min)] H (fun fr => by kernel_rfl) (by kernel_rfl) (fun fr => by kernel_rfl) (fun fr => .of (s_ld (by kernel_rfl) (A.ld1 0 rfl (o := 3) rfl))) (fun fr => by kernel_rfl) ?_
      intro fr H
      refine at_seg [(10, [])] [(2, .ptr (some (h1.size, 0))), (3, .ptr (some (h2.size, 0))), (5, .ptr (some (h5.size, 0))), (10, vs e_S_tree_Node p0.Nodes), (11, .int .i64 (p0.Nodes.length : Int)), (12, .int .i64 x2), (17, rowV r1 x1.length), (19, .int .i64 x4.Kind), (21, .int .i64 x4.A), (23, .int .i64 x4.B), (25, .int .i64 x4.Min), (26, .ptr (some (h5.size, 4)))] H (noU_all rfl) (fun fr => by kernel_rfl) ?_
      intro fr H
      refine at_stepT (v := .int .i64 x4.Max) (h1 := h7) (tch' := [(11, h5.size), (9, h5.size), (7, h5.size), (5, h5.size), (3, h5.size), (1, h2.size)]) (g.prot) [(2, .ptr (some (h1.size, 0))), (3, .ptr (some (h2.size, 0))), (5, .ptr (some (h5.size, 0))), (10, vs e_S_tree_Node p0.Nodes), (11, .int .i64 (p0.Nodes.length : Int)), (12, .int .i64 x2), (17, rowV r1 x1.length), (19, .int .i64 x4.Kind), (21, .int .i64 x4.A), (23, .int .i64 x4.B), (25, .int .i64 x4.Min), (27, .int .i64 x4.Max)] H (fun fr => by kernel_rfl) (by kernel_rfl) (fun fr => by kernel_rfl) (fun fr => .of (s_ld (by kernel_rfl) (A.ld1 0 rfl (o := 4) rfl))) (fun fr => by kernel_rfl) ?_
      intro fr H
      refine at_seg [(12, [])] [(2, .ptr (some (h1.size, 0))), (3, .ptr (some (h2.size, 0))), (5, .ptr (some (h5.size, 0))), (10, vs e_S_tree_Node p0.Nodes), (11, .int .i64 (p0.Nodes.length : Int)), (12, .int .i64 x2), (17, rowV r1 x1.length), (19, .int .i64 x4.Kind), (21, .int .i64 x4.A), (23, .int .i64 x4.B), (25, .int .i64 x4.Min), (27, .int .i64 x4.Max), (28, .ptr (some (h5.size, 5)))] H (noU_all rfl) (fun fr => by kernel_rfl) ?_
      intro fr H
      refine at_stepT (v := .int .i64 x4.Group) (h1 := h7) (tch' := [(13, h5.size), (11, h5.size), (9, h5.size), (7, h5.size), (5, h5.size), (3, h5.size), (1, h2.size)]) (g.prot) [(2, .ptr (some (h1.size, 0))), (3, .ptr (some (h2.size, 0))), (5, .ptr (some (h5.size, 0))), (10, vs e_S_tree_Node p0.Nodes), (11, .int .i64 (p0.Nodes.length : Int)), (12, .int .i64 x2), (17, rowV r1 x1.length), (19, .int .i64 x4.Kind), (21, .int .i64 x4.A), (23, .int .i64 x4.B), (25, .int .i64 x4.Min), (27, .int .i64 x4.Max), (29, .int .i64 x4.Group)] H (fun fr => by kernel_rfl) (by kernel_rfl) (fun fr => by kernel_rfl) (fun fr => .of (s_ld (by kernel_rfl) (A.ld1 0 rfl (o := 5) rfl))) (fun fr => by kernel_rfl) ?_
      intro fr H
      refine at_seg [(14, [])] [(2, .ptr (some (h1.size, 0))), (3, .ptr (some (h2.size, 0))), (10, vs e_S_tree_Node p0.Nodes), (11, .int .i64 (p0.Nodes.length : Int)), (12, .int .i64 x2), (17, rowV r1 x1.length), (19, .int .i64 x4.Kind), (21, .int .i64 x4.A), (23, .int .i64 x4.B), (25, .int .i64 x4.Min), (27, .int .i64 x4.Max), (29, .int .i64 x4.Group), (30, .ptr (some (h5.size, 6)))] H (noU_all rfl) (fun fr => by kernel_rfl) ?_
      intro fr H
      refine at_stepT (v := .agg [.int .u64 x4.Set.w0, .int .u64 x4.Set.w1, .int .u64 x4.Set.w2, .int .u64 x4.Set.w3]) (h1 := h7) (tch' := [(15, h5.size), (13, h5.size), (11, h5.size), (9, h5.size), (7, h5.size), (5, h5.size), (3, h5.size), (1, h2.size)]) (g.prot) [(2, .ptr (some (h1.size, 0))), (3, .ptr (some (h2.size, 0))), (10, vs e_S_tree_Node p0.Nodes), (11, .int .i64 (p0.Nodes.length : Int)), (12, .int .i64 x2), (17, rowV r1 x1.length), (19, .int .i64 x4.Kind), (21, .int .i64 x4.A), (23, .int .i64 x4.B), (25, .int .i64 x4.Min), (27, .int .i64 x4.Max), (29, .int .i64 x4.Group), (31, .agg [.int .u64 x4.Set.w0, .int .u64 x4.Set.w1, .int .u64 x4.Set.w2, .int .u64 x4.Set.w3])] H (fun fr => by kernel_rfl) (by kernel_rfl) (fun fr => by kernel_rfl) (fun fr => .of (s_ldA (by kernel_rfl) (A.ldA 0 rfl (o := 6) (n := 4) ⟨Nat.le_of_ble_eq_true rfl, rfl⟩))) (fun fr => by kernel_rfl) ?_
      intro fr H
      have A1 := A.prot2 0 (pr := [h5.size, h5.size, h5.size, h5.size, h5.size, h5.size, h2.size]) (.cons 0 rfl (by simp [Ck.ids]) (.cons 0 rfl (by simp [Ck.ids]) (.cons 0 rfl (by simp [Ck.ids]) (.cons 0 rfl (by simp [Ck.ids]) (.cons 0 rfl (by simp [Ck.ids]) (.cons 0 rfl (by simp [Ck.ids]) (.cons 2 rfl (by simp [Ck.ids]) .nil)))))))
      obtain ⟨x5, hx, hm⟩ := bind_some hm
      obtain ⟨v1, h8, hr, rfl, A1⟩ := ok_class_Set_Bytes (av := [.agg [.int .u64 x4.Set.w0, .int .u64 x4.Set.w1, .int .u64 x4.Set.w2, .int .u64 x4.Set.w3]]) hx (by kernel_rfl) A1
      replace A : HH g h8 [.obj h5.size (.cells none 2 (e_S_tree_Node x4)), .lst r1 96 (lst e_S_boulterref18_Node x1), .obj h2.size (.cells none 2 [rowV r1 x1.length, .int .i64 p0.Root]), .obj h1.size (.cells none 2 [.slice none 0, .int .i64 (0 : Int)]), .obj h.size (.cells none 2 [vs e_S_tree_Node p0.Nodes, .int .i64 p0.Root])] F := A.glueP (n := 0) A1
      refine at_stepT (v := .str x5) (h1 := h8) (tch' := [(15, h5.size), (13, h5.size), (11, h5.size), (9, h5.size), (7, h5.size), (5, h5.size), (3, h5.size), (1, h2.size)]) (h5.size :: h5.size :: h5.size :: h5.size :: h5.size :: h5.size :: h2.size :: g.prot) [(2, .ptr (some (h1.size, 0))), (3, .ptr (some (h2.size, 0))), (10, vs e_S_tree_Node p0.Nodes), (11, .int .i64 (p0.Nodes.length : Int)), (12, .int .i64 x2), (17, rowV r1 x1.length), (19, .int .i64 x4.Kind), (21, .int .i64 x4.A), (23, .int .i64 x4.B), (25, .int .i64 x4.Min), (27, .int .i64 x4.Max), (29, .int .i64 x4.Group), (32, .str x5)] H (fun fr => by kernel_rfl) (by kernel_rfl) (fun fr => by kernel_rfl) (fun fr => Steps.call (by kernel_rfl) hr) (fun fr => by kernel_rfl) ?_
      intro fr H
      refine at_seg [(17, [])] [(2, .ptr (some (h1.size, 0))), (3, .ptr (some (h2.size, 0))), (10, vs e_S_tree_Node p0.Nodes), (11, .int .i64 (p0.Nodes.length : Int)), (12, .int .i64 x2), (17, rowV r1 x1.length), (33, .agg [.int .i64 x4.Kind, .int .i64 x4.A, .int .i64 x4.B, .int .i64 x4.Min, .int .i64 x4.Max, .int .i64 x4.Group, .str x5])] H (noU_all rfl) (fun fr => by kernel_rfl) ?_
      intro fr H
      obtain ⟨h9, e5⟩ : ∃ x, x = h8.push (.cells (some 96) 2 [.int .i64 x4.Kind, .int .i64 x4.A, .int .i64 x4.B, .int .i64 x4.Min, .int .i64 x4.Max, .int .i64 x4.Group, .str x5]) := ⟨_, rfl⟩
      replace A := (A.pushL _ _).to e5
      refine at_stepT (v := rowV (some h8.size) (([(⟨x4.Kind, x4.A, x4.B, x4.Min, x4.Max, x4.Group, x5⟩ : S_boulterref18_Node)] : List S_boulterref18_Node).length)) (h1 := h9) (tch' := [(18, h8.size), (15, h5.size), (13, h5.size), (11, h5.size), (9, h5.size), (7, h5.size), (5, h5.size), (3, h5.size), (1, h2.size)]) (g.prot) [(2, .ptr (some (h1.size, 0))), (3, .ptr (some (h2.size, 0))), (10, vs e_S_tree_Node p0.Nodes), (11, .int .i64 (p0.Nodes.length : Int)), (12, .int .i64 x2), (17, rowV r1 x1.length), (34, rowV (some h8.size) (([(⟨x4.Kind, x4.A, x4.B, x4.Min, x4.Max, x4.Group, x5⟩ : S_boulterref18_Node)] : List S_boulterref18_Node).length))] H (fun fr => by kernel_rfl) (by kernel_rfl) (fun fr => by kernel_rfl) (fun fr => .of (s_n' (by kernel_rfl) (congrArg some e5.symm))) (fun fr => by kernel_rfl) ?_
      intro fr H
      obtain ⟨hb, hm⟩ := need_some hm
      obtain ⟨r3, h10, hx, A1⟩ := HH.appO enc_S_boulterref18_Node (by decide) A 2 (xs := x1) (ys := ([(⟨x4.Kind, x4.A, x4.B, x4.Min, x4.Max, x4.Group, x5⟩ : S_boulterref18_Node)] : List S_boulterref18_Node)) rfl (row_first A 0 rfl (n := ([(⟨x4.Kind, x4.A, x4.B, x4.Min, x4.Max, x4.Group, x5⟩ : S_boulterref18_Node)] : List S_boulterref18_Node).length) (z := 7) rfl (by decide)) rfl rfl hb
      replace A : HH g h10 [.lst (some h8.size) 96 ([.int .i64 x4.Kind, .int .i64 x4.A, .int .i64 x4.B, .int .i64 x4.Min, .int .i64 x4.Max, .int .i64 x4.Group, .str x5]), .obj h5.size (.cells none 2 (e_S_tree_Node x4)), .lst r3 96 (lst e_S_boulterref18_Node (x1 ++ ([(⟨x4.Kind, x4.A, x4.B, x4.Min, x4.Max, x4.Group, x5⟩ : S_boulterref18_Node)] : List S_boulterref18_Node))), .obj h2.size (.cells none 2 [rowV r1 x1.length, .int .i64 p0.Root]), .obj h1.size (.cells none 2 [.slice none 0, .int .i64 (0 : Int)]), .obj h.size (.cells none 2 [vs e_S_tree_Node p0.Nodes, .int .i64 p0.Root])] F := A1
      replace A : HH g h10 [.obj h5.size (.cells none 2 (e_S_tree_Node x4)), .lst r3 96 (lst e_S_boulterref18_Node (x1 ++ ([(⟨x4.Kind, x4.A, x4.B, x4.Min, x4.Max, x4.Group, x5⟩ : S_boulterref18_Node)] : List S_boulterref18_Node))), .obj h2.size (.cells none 2 [rowV r1 x1.length, .int .i64 p0.Root]), .obj h1.size (.cells none 2 [.slice none 0, .int .i64 (0 : Int)]), .obj h.size (.cells none 2 [vs e_S_tree_Node p0.Nodes, .int .i64 p0.Root])] F := (HH.dropF (((((A.front 5 rfl).front 5 rfl).front 5 rfl).front 5 rfl).front 5 rfl) 5)
      refine at_stepT (v := rowV r3 ((x1 ++ ([(⟨x4.Kind, x4.A, x4.B, x4.Min, x4.Max, x4.Group, x5⟩ : S_boulterref18_Node)] : List S_boulterref18_Node)).length)) (h1 := h10) (tch' := [(18, h8.size), (15, h5.size), (13, h5.size), (11, h5.size), (9, h5.size), (7, h5.size), (5, h5.size), (3, h5.size), (1, h2.size)]) (g.prot) [(2, .ptr (some (h1.size, 0))), (3, .ptr (some (h2.size, 0))), (10, vs e_S_tree_Node p0.Nodes), (11, .int .i64 (p0.Nodes.length : Int)), (12, .int .i64 x2), (35, rowV r3 ((x1 ++ ([(⟨x4.Kind, x4.A, x4.B, x4.Min, x4.Max, x4.Group, x5⟩ : S_boulterref18_Node)] : List S_boulterref18_Node)).length))] H (fun fr => by kernel_rfl) (by kernel_rfl) (fun fr => by kernel_rfl) (fun fr => .of (s_app (s := rowS r1 x1.length) (by kernel_rfl) hx)) (fun fr => by kernel_rfl) ?_
      intro fr H
      refine at_seg [(20, [])] [(2, .ptr (some (h1.size, 0))), (3, .ptr (some (h2.size, 0))), (10, vs e_S_tree_Node p0.Nodes), (11, .int .i64 (p0.Nodes.length : Int)), (12, .int .i64 x2), (35, rowV r3 ((x1 ++ ([(⟨x4.Kind, x4.A, x4.B, x4.Min, x4.Max, x4.Group, x5⟩ : S_boulterref18_Node)] : List S_boulterref18_Node)).length)), (36, .ptr (some (h2.size, 0)))] H (noU_all rfl) (fun fr => by kernel_rfl) ?_
      intro fr H
      obtain ⟨h11, hx, A1⟩ := A.st 2 rfl (o := 0) (new := [rowV r3 ((x1 ++ ([(⟨x4.Kind, x4.A, x4.B, x4.Min, x4.Max, x4.Group, x5⟩ : S_boulterref18_Node)] : List S_boulterref18_Node)).length)]) (ds := [rowV r3 ((x1 ++ ([(⟨x4.Kind, x4.A, x4.B, x4.Min, x4.Max, x4.Group, x5⟩ : S_boulterref18_Node)] : List S_boulterref18_Node)).length), .int .i64 p0.Root]) (Nat.le_of_ble_eq_true rfl) rfl rfl
      replace A : HH g h11 [.obj h5.size (.cells none 2 (e_S_tree_Node x4)), .lst r3 96 (lst e_S_boulterref18_Node (x1 ++ ([(⟨x4.Kind, x4.A, x4.B, x4.Min, x4.Max, x4.Group, x5⟩ : S_boulterref18_Node)] : List S_boulterref18_Node))), .obj h2.size (.cells none 2 [rowV r3 ((x1 ++ ([(⟨x4.Kind, x4.A, x4.B, x4.Min, x4.Max, x4.Group, x5⟩ : S_boulterref18_Node)] : List S_boulterref18_Node)).length), .int .i64 p0.Root]), .obj h1.size (.cells none 2 [.slice none 0, .int .i64 (0 : Int)]), .obj h.size (.cells none 2 [vs e_S_tree_Node p0.Nodes, .int .i64 p0.Root])] F := A1
      refine at_stepT (v := .tuple []) (h1 := h11) (tch' := [(18, h8.size), (15, h5.size), (13, h5.size), (11, h5.size), (9, h5.size), (7, h5.size), (5, h5.size), (3, h5.size), (1, h2.size)]) (g.prot) [(2, .ptr (some (h1.size, 0))), (3, .ptr (some (h2.size, 0))), (10, vs e_S_tree_Node p0.Nodes), (11, .int .i64 (p0.Nodes.length : Int)), (12, .int .i64 x2)] H (fun fr => by kernel_rfl) (by kernel_rfl) (fun fr => by kernel_rfl) (fun fr => .of (s_st (by kernel_rfl) rfl hx)) (fun fr => by kernel_rfl) ?_
      intro fr H
      refine at_nil ?_
      show AW cfg 14 g (right (right (right (left (left (right (left (right (right (bodyC cfg.P 14)))))))))) fr h11 _
      refine aw_reg (id := 6) (n := 2) [(0, []), (1, [])] (by kernel_rfl) (by kernel_rfl) ?_
      refine at_seg [(0, []), (1, [])] [(2, .ptr (some (h1.size, 0))), (3, .ptr (some (h2.size, 0))), (10, vs e_S_tree_Node p0.Nodes), (11, .int .i64 (p0.Nodes.length : Int)), (12, .int .i64 (IntKind.i64.wrap (x2 + (1 : Int))))] H (noU_all rfl) (fun fr => by kernel_rfl) ?_
      intro fr H
      refine at_nil ?_
      replace A : HH g h11 [.lst r3 96 (lst e_S_boulterref18_Node (x1 ++ ([(⟨x4.Kind, x4.A, x4.B, x4.Min, x4.Max, x4.Group, x5⟩ : S_boulterref18_Node)] : List S_boulterref18_Node))), .obj h2.size (.cells none 2 [rowV r3 ((x1 ++ ([(⟨x4.Kind, x4.A, x4.B, x4.Min, x4.Max, x4.Group, x5⟩ : S_boulterref18_Node)] : List S_boulterref18_Node)).length), .int .i64 p0.Root]), .obj h1.size (.cells none 2 [.slice none 0, .int .i64 (0 : Int)]), .obj h.size (.cells none 2 [vs e_S_tree_Node p0.Nodes, .int .i64 p0.Root])] F := (HH.dropF ((((A.front 4 rfl).front 4 rfl).front 4 rfl).front 4 rfl) 4)
      exact Exists.intro ((x1 ++ ([(⟨x4.Kind, x4.A, x4.B, x4.Min, x4.Max, x4.Group, x5⟩ : S_boulterref18_Node)] : List S_boulterref18_Node)), IntKind.i64.wrap (x2 + (1 : Int))) (And.intro (Option.some.inj hm).symm ⟨(x1 ++ ([(⟨x4.Kind, x4.A, x4.B, x4.Min, x4.Max, x4.Group, x5⟩ : S_boulterref18_Node)] : List S_boulterref18_Node)), IntKind.i64.wrap (x2 + (1 : Int)), rfl, r3, H.less _ (fun fr => by kernel_rfl), A⟩)
    · replace H := H.know 13 hb (by kernel_rfl)
      refine aw_false (x := .tmp 13) (by kernel_rfl) H (fun fr => by kernel_rfl) ?_
      refine aw_exit (i := 0) (by kernel_rfl) ?_
      exact Exists.intro _ (And.intro (Option.some.inj hm).symm (fun e => Or.inl ⟨x1, rfl, e, r1, H.less _ (fun fr => by kernel_rfl), A⟩))
  · clear ho
    clear A
    intro e fr h12 hQ
    rcases hQ with ⟨x3, rfl, rfl, r2, H, A⟩ | hF
    · skip
      show AW cfg 14 g (right (right (right (bodyC cfg.P 14)))) fr h12 _
      refine aw_seq (by kernel_rfl) ?_
      refine aw_reg (id := 7) (n := 2) [(0, []), (1, [])] (by kernel_rfl) (by kernel_rfl) ?_
      refine at_step (v := .agg [rowV r2 x3.length, .int .i64 p0.Root]) (h1 := h12) [(2, .ptr (some (h1.size, 0))), (38, .agg [rowV r2 x3.length, .int .i64 p0.Root])] H (fun fr => by kernel_rfl) (fun fr => .of (s_ldA (by kernel_rfl) (A.ldA 1 rfl (o := 0) (n := 2) ⟨Nat.le_of_ble_eq_true rfl, rfl⟩))) ?_
      intro fr t H
      obtain ⟨h13, hx, A1⟩ := A.st 2 rfl (o := 0) (new := [rowV r2 x3.length, .int .i64 p0.Root]) (ds := [rowV r2 x3.length, .int .i64 p0.Root]) (Nat.le_of_ble_eq_true rfl) rfl rfl
      replace A : HH g h13 [.lst r2 96 (lst e_S_boulterref18_Node x3), .obj h2.size (.cells none 2 [rowV r2 x3.length, .int .i64 p0.Root]), .obj h1.size (.cells none 2 [rowV r2 x3.length, .int .i64 p0.Root]), .obj h.size (.cells none 2 [vs e_S_tree_Node p0.Nodes, .int .i64 p0.Root])] F := A1
      refine at_step (v := .tuple []) (h1 := h13) [(2, .ptr (some (h1.size, 0)))] H (fun fr => by kernel_rfl) (fun fr => .of (s_stG (by kernel_rfl) (stG_st hx rfl))) ?_
      intro fr t H
      refine at_nil ?_
      show AW cfg 14 g (right (right (right (right (bodyC cfg.P 14))))) fr h13 _
      refine aw_ret (by kernel_rfl) ?_
      have e1 := Option.some.inj hm
      subst e1
      refine ⟨.inl rfl, .agg [rowV r2 x3.length, .int .i64 p0.Root], resL_one (.cell (resT H (fun fr => by kernel_rfl)) (load_ldA (by kernel_rfl) (by kernel_rfl) (A.ldA 2 rfl (o := 0) (n := 2) ⟨Nat.le_of_ble_eq_true rfl, rfl⟩)) .nil), ?_⟩
      obtain ⟨h14, hz0, A1⟩ := (A.front 0 rfl).frz (n := x3.length) (z := 7) (enc_S_boulterref18_Node.lenL _) (by decide)
      replace A : HH g h14 [.obj h2.size (.cells none 2 [rowV r2 x3.length, .int .i64 p0.Root]), .obj h1.size (.cells none 2 [rowV r2 x3.length, .int .i64 p0.Root]), .obj h.size (.cells none 2 [vs e_S_tree_Node p0.Nodes, .int .i64 p0.Root])] F := A1
      refine ⟨.agg [vs e_S_boulterref18_Node x3, .int .i64 p0.Root], h14, by first | rfl | (simp only [fz3T, fz3A, fz3B, fz3R, fz2A, fz2R, fz2V, fz2I, fz2B, fz2S, fz2N, fzL0, fzL1, fz1I, fz1B, fz1S, fz1V, fz1N, Option.map_some, hz0] <;> rfl), ?_⟩
      replace A : HH g h14 [] F := (HH.dropF A 0)
      exact ⟨rfl, A⟩
    · exact hF.elim
/-! ### boulter/boulterref18.Small -/
noncomputable def M_boulterref18_Small_L0 (p0 : S_boulterref18_Tree) (s : (List Int) × Int × Int) : Option (((List Int) × Int × Int) ⊕ ((Unit) ⊕ (Bool))) :=
  match s with
  | (x1, x2, x3) => iteB (decide (x3 < (p0.L.length : Int))) ((ixV p0.L x3).bind fun x5 => (iteB (x5.Kind == (4 : Int)) (some (IntKind.i64.wrap (x2 + (1 : Int)))) (some x2) : Option ((Int))).bind fun x6 => iteB (decide (x6 > (4 : Int))) (some (.inr (.inr false))) (iteB ((decide (x5.Min > (4 : Int))) || (decide (x5.Max > (5 : Int)))) (some (.inr (.inr false))) ((iteB ((decide (x5.A ≥ (0 : Int))) && (decide (x5.A < x3))) ((ixV x1 x5.A).bind fun x8 => some (IntKind.i64.wrap ((1 : Int) + x8))) (some (1 : Int)) : Option ((Int))).bind fun x7 => (iteB ((decide (x5.B ≥ (0 : Int))) && (decide (x5.B < x3))) ((ixV x1 x5.B).bind fun x10 => some (IntKind.i64.wrap (x7 + x10))) (some x7) : Option ((Int))).bind fun x9 => iteB (decide (x9 > (40 : Int))) (some (.inr (.inr false))) (need (okN 8 (x1.length + ([x9] : List Int).length)) <| some (.inl ((x1 ++ ([x9] : List Int)), x6, IntKind.i64.wrap (x3 + (1 : Int)))))))) (some (.inr (.inl ())))
noncomputable def M_boulterref18_Small (p0 : S_boulterref18_Tree) : Option (Bool) :=
 iteB (decide ((p0.L.length : Int) > (12 : Int))) (some false) ((loop (M_boulterref18_Small_L0 p0) (([] : List Int), (0 : Int), (0 : Int))).bind fun o1 => (match o1 with | .inl _ => some true | .inr x4 => some x4))
theorem ok_boulterref18_Small {g : Gd} {h : AHeap} {F : List Ck} {p0 : S_boulterref18_Tree} {q0 : Bool} {av : List AVal} (hm : M_boulterref18_Small p0 = some q0) (hc : canL (cfg.still 15) av = [.agg [vs e_S_boulterref18_Node p0.L, .int .i64 p0.Root]]) (A : HH g h [] F) : ∃ v h', Runs cfg g h 15 av v h' ∧ v = .bool q0 ∧ HH g h' [] F := by
  refine runsQ1 (n := 78) (rs := [.tmp 2]) (by kernel_rfl) hc (by kernel_rfl) ?_
  clear hc
  unfold M_boulterref18_Small at hm
  refine start (n := 78) [(0, .agg [vs e_S_boulterref18_Node p0.L, .int .i64 p0.Root])] (by kernel_rfl) (by kernel_rfl) ?_
  intro fr H
  refine aw_seq (by kernel_rfl) ?_
  refine aw_reg (id := 0) (n := 2) [(0, []), (1, [])] (by kernel_rfl) (by kernel_rfl) ?_
  obtain ⟨h1, e1⟩ : ∃ x, x = h.push (.cells none 2 [vs e_S_boulterref18_Node p0.L, .int .i64 p0.Root]) := ⟨_, rfl⟩
  replace A := (A.push _).to e1
  refine at_step (v := .ptr (some (h.size, 0))) (h1 := h1) [(1, .ptr (some (h.size, 0)))] H (fun fr => by kernel_rfl) (fun fr => .of (s_n' (by kernel_rfl) (congrArg some e1.symm))) ?_
  intro fr t H
  refine at_seg [(1, [])] [(1, .ptr (some (h.size, 0)))] H (noU_all rfl) (fun fr => by kernel_rfl) ?_
  intro fr H
  refine at_nil ?_
  show AW cfg 15 g (right (bodyC cfg.P 15)) fr h1 _
  refine aw_seq (by kernel_rfl) ?_
  refine aw_seq (by kernel_rfl) ?_
  refine aw_reg (id := 1) (n := 4) [(0, []), (1, []), (2, []), (3, [])] (by kernel_rfl) (by kernel_rfl) ?_
  refine at_seg [(0, [])] [(1, .ptr (some (h.size, 0))), (8, .ptr (some (h.size, 0)))] H (noU_all rfl) (fun fr => by kernel_rfl) ?_
  intro fr H
  refine at_step (v := vs e_S_boulterref18_Node p0.L) (h1 := h1) [(1, .ptr (some (h.size, 0))), (9, vs e_S_boulterref18_Node p0.L)] H (fun fr => by kernel_rfl) (fun fr => .of (s_ld (by kernel_rfl) (A.ld1 0 rfl (o := 0) rfl))) ?_
  intro fr t H
  refine at_seg [(2, []), (3, [])] [(1, .ptr (some (h.size, 0))), (11, .bool (decide ((p0.L.length : Int) > (12 : Int))))] H (noU_all rfl) (fun fr => by kernel_rfl) ?_
  intro fr H
  refine at_nil ?_
  show AW cfg 15 g (right (left (right (bodyC cfg.P 15)))) fr h1 _
  rcases iteB_some hm with ⟨hb, hm⟩ | ⟨hb, hm⟩
  · replace H := H.know 11 hb (by kernel_rfl)
    refine aw_true (x := .tmp 11) (by kernel_rfl) H (fun fr => by kernel_rfl) ?_
    refine aw_seq (by kernel_rfl) ?_
    refine aw_reg (id := 2) (n := 1) [(0, [])] (by kernel_rfl) (by kernel_rfl) ?_
    refine at_seg [(0, [])] [(2, .bool false)] H (noU_all rfl) (fun fr => by kernel_rfl) ?_
    intro fr H
    refine at_nil ?_
    show AW cfg 15 g (right (left (right (left (right (bodyC cfg.P 15)))))) fr h1 _
    refine aw_ret (by kernel_rfl) ?_
    have e1 := Option.some.inj hm
    subst e1
    refine ⟨.inl rfl, .bool false, resH H (fun fr => by kernel_rfl), ?_⟩
    replace A : HH g h1 [] F := (HH.dropF A 0)
    exact ⟨rfl, A⟩
  · replace H := H.know 11 hb (by kernel_rfl)
    refine aw_false (x := .tmp 11) (by kernel_rfl) H (fun fr => by kernel_rfl) ?_
    refine aw_skip (by kernel_rfl) ?_
    show AW cfg 15 g (right (right (bodyC cfg.P 15))) fr h1 _
    refine aw_seq (by kernel_rfl) ?_
    refine aw_reg (id := 3) (n := 2) [(0, []), (1, [])] (by kernel_rfl) (by kernel_rfl) ?_
    obtain ⟨h2, e2⟩ : ∃ x, x = h1.push (.cells (some 3) 2 []) := ⟨_, rfl⟩
    replace A := (A.pushL _ _).to e2
    refine at_step (v := rowV (some h1.size) (([] : List Int).length)) (h1 := h2) [(1, .ptr (some (h.size, 0))), (12, rowV (some h1.size) (([] : List Int).length))] H (fun fr => by kernel_rfl) (fun fr => .of (s_n' (by kernel_rfl) (congrArg some e2.symm))) ?_
    intro fr t H
    refine at_seg [(1, [])] [(1, .ptr (some (h.size, 0))), (3, rowV (some h1.size) (([] : List Int).length))] H (noU_all rfl) (fun fr => by kernel_rfl) ?_
    intro fr H
    refine at_nil ?_
    show AW cfg 15 g (right (right (right (bodyC cfg.P 15)))) fr h2 _
    refine aw_seq (by kernel_rfl) ?_
    refine aw_reg (id := 4) (n := 1) [(0, [])] (by kernel_rfl) (by kernel_rfl) ?_
    refine at_seg [(0, [])] [(1, .ptr (some (h.size, 0))), (3, rowV (some h1.size) (([] : List Int).length)), (4, .int .i64 (0 : Int))] H (noU_all rfl) (fun fr => by kernel_rfl) ?_
    intro fr H
    refine at_nil ?_
    show AW cfg 15 g (right (right (right (right (bodyC cfg.P 15))))) fr h2 _
    refine aw_seq (by kernel_rfl) ?_
    refine aw_seq (by kernel_rfl) ?_
    refine aw_reg (id := 5) (n := 1) [(0, [])] (by kernel_rfl) (by kernel_rfl) ?_
    refine at_seg [(0, [])] [(1, .ptr (some (h.size, 0))), (3, rowV (some h1.size) (([] : List Int).length)), (4, .int .i64 (0 : Int)), (5, .int .i64 (0 : Int))] H (noU_all rfl) (fun fr => by kernel_rfl) ?_
    intro fr H
    refine at_nil ?_
    show AW cfg 15 g (right (left (right (right (right (right (bodyC cfg.P 15))))))) fr h2 _
    refine aw_block (id := 0) (by kernel_rfl) ?_
    replace A : HH g h2 [.lst (some h1.size) 3 (lst (eI .i64) ([] : List Int)), .obj h.size (.cells none 2 [vs e_S_boulterref18_Node p0.L, .int .i64 p0.Root])] F := A
    obtain ⟨o1, ho, hm⟩ := bind_some hm
    refine aw_mono (Q' := fun e fr' h' => (e = .exit 0 ∧ .inl () = o1 ∧ Has fr' 78 [] ∧ HH g h' [.obj h.size (.cells none 2 [vs e_S_boulterref18_Node p0.L, .int .i64 p0.Root])] F) ∨ (∃ (x4 : Bool), e = .ret ∧ .inr x4 = o1 ∧ Has fr' 78 [(2, .bool x4)] ∧ HH g h' [.obj h.size (.cells none 2 [vs e_S_boulterref18_Node p0.L, .int .i64 p0.Root])] F) ∨ False) ?_ ?_
    · refine aw_loop (by kernel_rfl) (fun (s : (List Int) × Int × Int) fr' h' => ∃ (x1 : List Int) (x2 : Int) (x3 : Int), (x1, x2, x3) = s ∧ ∃ (r1 : Option Nat), Has fr' 78 [(1, .ptr (some (h.size, 0))), (3, rowV r1 x1.length), (4, .int .i64 x2), (5, .int .i64 x3)] ∧ HH g h' [.lst r1 3 (lst (eI .i64) x1), .obj h.size (.cells none 2 [vs e_S_boulterref18_Node p0.L, .int .i64 p0.Root])] F) ho ⟨([] : List Int), (0 : Int), (0 : Int), rfl, some h1.size, H.less _ (fun fr => by kernel_rfl), A⟩ ?_
      clear ho hm H A
      intro s q fr h3 hI hm
      obtain ⟨x1, x2, x3, rfl, r1, H, A⟩ := hI
      unfold M_boulterref18_Small_L0 at hm
      refine aw_seq (by kernel_rfl) ?_
      refine aw_seq (by kernel_rfl) ?_
      refine aw_reg (id := 6) (n := 5) [(0, []), (1, []), (2, []), (3, []), (4, [])] (by kernel_rfl) (by kernel_rfl) ?_
      refine at_seg [(0, []), (1, [])] [(1, .ptr (some (h.size, 0))), (3, rowV r1 x1.length), (4, .int .i64 x2), (5, .int .i64 x3), (13, .int .i64 x3), (14, .ptr (some (h.size, 0)))] H (noU_all rfl) (fun fr => by kernel_rfl) ?_
      intro fr H
      refine at_step (v := vs e_S_boulterref18_Node p0.L) (h1 := h3) [(1, .ptr (some (h.size, 0))), (3, rowV r1 x1.length), (4, .int .i64 x2), (5, .int .i64 x3), (13, .int .i64 x3), (15, vs e_S_boulterref18_Node p0.L)] H (fun fr => by kernel_rfl) (fun fr => .of (s_ld (by kernel_rfl) (A.ld1 1 rfl (o := 0) rfl))) ?_
      intro fr t H
      refine at_seg [(3, []), (4, [])] [(1, .ptr (some (h.size, 0))), (3, rowV r1 x1.length), (4, .int .i64 x2), (5, .int .i64 x3), (17, .bool (decide (x3 < (p0.L.length : Int))))] H (noU_all rfl) (fun fr => by kernel_rfl) ?_
      intro fr H
      refine at_nil ?_
      show AW cfg 15 g (right (left (left (left (right (left (right (right (right (right (bodyC cfg.P 15))))))))))) fr h3 _
      rcases iteB_some hm with ⟨hb, hm⟩ | ⟨hb, hm⟩
      · replace H := H.know 17 hb (by kernel_rfl)
        refine aw_true (x := .tmp 17) (by kernel_rfl) H (fun fr => by kernel_rfl) ?_
        refine aw_skip (by kernel_rfl) ?_
        show AW cfg 15 g (right (left (left (right (left (right (right (right (right (bodyC cfg.P 15)))))))))) fr h3 _
        refine aw_seq (by kernel_rfl) ?_
        refine aw_block (id := 1) (by kernel_rfl) ?_
        refine aw_seq (by kernel_rfl) ?_
        refine aw_reg (id := 8) (n := 7) [(0, []), (1, []), (2, []), (3, []), (4, []), (5, []), (6, [])] (by kernel_rfl) (by kernel_rfl) ?_
        refine at_seg [(0, [])] [(1, .ptr (some (h.size, 0))), (3, rowV r1 x1.length), (4, .int .i64 x2), (5, .int .i64 x3), (20, .ptr (some (h.size, 0)))] H (noU_all rfl) (fun fr => by kernel_rfl) ?_
        intro fr H
        refine at_step (v := vs e_S_boulterref18_Node p0.L) (h1 := h3) [(1, .ptr (some (h.size, 0))), (3, rowV r1 x1.length), (4, .int .i64 x2), (5, .int .i64 x3), (21, vs e_S_boulterref18_Node p0.L)] H (fun fr => by kernel_rfl) (fun fr => .of (s_ld (by kernel_rfl) (A.ld1 1 rfl (o := 0) rfl))) ?_
        intro fr t H
        refine at_seg [(2, [])] [(1, .ptr (some (h.size, 0))), (3, rowV r1 x1.length), (4, .int .i64 x2), (5, .int .i64 x3), (21, vs e_S_boulterref18_Node p0.L), (22, .int .i64 x3)] H (noU_all rfl) (fun fr => by kernel_rfl) ?_
        intro fr H
        obtain ⟨x5, hx, hm⟩ := bind_some hm
        refine at_step (v := .vptr (e_S_boulterref18_Node x5)) (h1 := h3) [(1, .ptr (some (h.size, 0))), (3, rowV r1 x1.length), (4, .int .i64 x2), (5, .int .i64 x3), (23, .vptr (e_S_boulterref18_Node x5))] H (fun fr => by kernel_rfl) (fun fr => .of (s_ixV (e := e_S_boulterref18_Node) (x := x5) enc_S_boulterref18_Node (by decide) (by kernel_rfl) hx)) ?_
        intro fr t H
        refine at_step (v := .agg (e_S_boulterref18_Node x5)) (h1 := h3) [(1, .ptr (some (h.size, 0))), (3, rowV r1 x1.length), (4, .int .i64 x2), (5, .int .i64 x3), (24, .agg (e_S_boulterref18_Node x5))] H (fun fr => by kernel_rfl) (fun fr => .of (s_lv (by kernel_rfl))) ?_
        intro fr t H
        obtain ⟨h4, e3⟩ : ∃ x, x = h3.push (.cells none 2 [.int .i64 (0 : Int), .int .i64 (0 : Int), .int .i64 (0 : Int), .int .i64 (0 : Int), .int .i64 (0 : Int), .int .i64 (0 : Int), .str ([] : List UInt8)]) := ⟨_, rfl⟩
        replace A := (A.push _).to e3
        refine at_step (v := .ptr (some (h3.size, 0))) (h1 := h4) [(1, .ptr (some (h.size, 0))), (3, rowV r1 x1.length), (4, .int .i64 x2), (5, .int .i64 x3), (6, .ptr (some (h3.size, 0))), (24, .agg (e_S_boulterref18_Node x5))] H (fun fr => by kernel_rfl) (fun fr => .of (s_n' (by kernel_rfl) (congrArg some e3.symm))) ?_
        intro fr t H
        obtain ⟨h5, hx, A1⟩ := A.st 0 rfl (o := 0) (new := [.int .i64 x5.Kind, .int .i64 x5.A, .int .i64 x5.B, .int .i64 x5.Min, .int .i64 x5.Max, .int .i64 x5.Group, .str x5.S]) (ds := [.int .i64 x5.Kind, .int .i64 x5.A, .int .i64 x5.B, .int .i64 x5.Min, .int .i64 x5.Max, .int .i64 x5.Group, .str x5.S]) (Nat.le_of_ble_eq_true rfl) rfl rfl
        replace A : HH g h5 [.obj h3.size (.cells none 2 (e_S_boulterref18_Node x5)), .lst r1 3 (lst (eI .i64) x1), .obj h.size (.cells none 2 [vs e_S_boulterref18_Node p0.L, .int .i64 p0.Root])] F := A1
        refine at_step (v := .tuple []) (h1 := h5) [(1, .ptr (some (h.size, 0))), (3, rowV r1 x1.length), (4, .int .i64 x2), (5, .int .i64 x3), (6, .ptr (some (h3.size, 0)))] H (fun fr => by kernel_rfl) (fun fr => .of (s_stG (by kernel_rfl) (stG_st hx rfl))) ?_
        intro fr t H
        refine at_nil ?_
        show AW cfg 15 g (right (left (left (right (left (left (right (left (right (right (right (right (bodyC cfg.P 15))))))))))))) fr h5 _
        refine aw_seq (by kernel_rfl) ?_
        obtain ⟨o2, ho, hm⟩ := bind_some hm
        refine aw_mono (Q' := fun e fr' h' => (∃ (x6 : Int), e = .normal ∧ x6 = o2 ∧ Has fr' 78 [(1, .ptr (some (h.size, 0))), (3, rowV r1 x1.length), (4, .int .i64 x6), (5, .int .i64 x3), (6, .ptr (some (h3.size, 0)))] ∧ HH g h' [.obj h3.size (.cells none 2 (e_S_boulterref18_Node x5)), .lst r1 3 (lst (eI .i64) x1), .obj h.size (.cells none 2 [vs e_S_boulterref18_Node p0.L, .int .i64 p0.Root])] F) ∨ False) ?_ ?_
        · replace hm := ho
          clear ho
          refine aw_seq (by kernel_rfl) ?_
          refine aw_reg (id := 9) (n := 3) [(0, []), (1, []), (2, [])] (by kernel_rfl) (by kernel_rfl) ?_
          refine at_seg [(0, [])] [(1, .ptr (some (h.size, 0))), (3, rowV r1 x1.length), (4, .int .i64 x2), (5, .int .i64 x3), (6, .ptr (some (h3.size, 0))), (25, .ptr (some (h3.size, 0)))] H (noU_all rfl) (fun fr => by kernel_rfl) ?_
          intro fr H
          refine at_step (v := .int .i64 x5.Kind) (h1 := h5) [(1, .ptr (some (h.size, 0))), (3, rowV r1 x1.length), (4, .int .i64 x2), (5, .int .i64 x3), (6, .ptr (some (h3.size, 0))), (26, .int .i64 x5.Kind)] H (fun fr => by kernel_rfl) (fun fr => .of (s_ld (by kernel_rfl) (A.ld1 0 rfl (o := 0) rfl))) ?_
          intro fr t H
          refine at_seg [(2, [])] [(1, .ptr (some (h.size, 0))), (3, rowV r1 x1.length), (4, .int .i64 x2), (5, .int .i64 x3), (6, .ptr (some (h3.size, 0))), (27, .bool (x5.Kind == (4 : Int)))] H (noU_all rfl) (fun fr => by kernel_rfl) ?_
          intro fr H
          refine at_nil ?_
          show AW cfg 15 g (right (left (right (left (left (right (left (left (right (left (right (right (right (right (bodyC cfg.P 15))))))))))))))) fr h5 _
          rcases iteB_some hm with ⟨hb, hm⟩ | ⟨hb, hm⟩
          · replace H := H.know 27 hb (by kernel_rfl)
            refine aw_true (x := .tmp 27) (by kernel_rfl) H (fun fr => by kernel_rfl) ?_
            refine aw_reg (id := 10) (n := 3) [(0, []), (1, []), (2, [])] (by kernel_rfl) (by kernel_rfl) ?_
            refine at_seg [(0, []), (1, []), (2, [])] [(1, .ptr (some (h.size, 0))), (3, rowV r1 x1.length), (4, .int .i64 (IntKind.i64.wrap (x2 + (1 : Int)))), (5, .int .i64 x3), (6, .ptr (some (h3.size, 0)))] H (noU_all rfl) (fun fr => by kernel_rfl) ?_
            intro fr H
            refine at_nil ?_
            exact Or.inl ⟨IntKind.i64.wrap (x2 + (1 : Int)), rfl, Option.some.inj hm, H.less _ (fun fr => by kernel_rfl), A⟩
          · replace H := H.know 27 hb (by kernel_rfl)
            refine aw_false (x := .tmp 27) (by kernel_rfl) H (fun fr => by kernel_rfl) ?_
            refine aw_skip (by kernel_rfl) ?_
            exact Or.inl ⟨x2, rfl, Option.some.inj hm, H.less _ (fun fr => by kernel_rfl), A⟩
        · clear ho
          clear A
          intro e fr h6 hQ
          rcases hQ with ⟨x6, rfl, rfl, H, A⟩ | hF
          · skip
            show AW cfg 15 g (right (right (left (left (right (left (left (right (left (right (right (right (right (bodyC cfg.P 15)))))))))))))) fr h6 _
            refine aw_seq (by kernel_rfl) ?_
            refine aw_seq (by kernel_rfl) ?_
            refine aw_reg (id := 11) (n := 2) [(0, []), (1, [])] (by kernel_rfl) (by kernel_rfl) ?_
            refine at_seg [(0, []), (1, [])] [(1, .ptr (some (h.size, 0))), (3, rowV r1 x1.length), (4, .int .i64 x6), (5, .int .i64 x3), (6, .ptr (some (h3.size, 0))), (31, .bool (decide (x6 > (4 : Int))))] H (noU_all rfl) (fun fr => by kernel_rfl) ?_
            intro fr H
            refine at_nil ?_
            show AW cfg 15 g (right (left (right (right (left (left (right (left (left (right (left (right (right (right (right (bodyC cfg.P 15)))))))))))))))) fr h6 _
            rcases iteB_some hm with ⟨hb, hm⟩ | ⟨hb, hm⟩
            · replace H := H.know 31 hb (by kernel_rfl)
              refine aw_true (x := .tmp 31) (by kernel_rfl) H (fun fr => by kernel_rfl) ?_
              refine aw_seq (by kernel_rfl) ?_
              refine aw_reg (id := 12) (n := 1) [(0, [])] (by kernel_rfl) (by kernel_rfl) ?_
              refine at_seg [(0, [])] [(2, .bool false)] H (noU_all rfl) (fun fr => by kernel_rfl) ?_
              intro fr H
              refine at_nil ?_
              show AW cfg 15 g (right (left (right (left (right (right (left (left (right (left (left (right (left (right (right (right (right (bodyC cfg.P 15)))))))))))))))))) fr h6 _
              refine aw_ret (by kernel_rfl) ?_
              replace A : HH g h6 [.obj h.size (.cells none 2 [vs e_S_boulterref18_Node p0.L, .int .i64 p0.Root])] F := (HH.dropF (A.front 2 rfl) 1)
              exact Exists.intro _ (And.intro (Option.some.inj hm).symm (fun e => Or.inr (Or.inl ⟨false, rfl, e, H.less _ (fun fr => by kernel_rfl), A⟩)))
            · replace H := H.know 31 hb (by kernel_rfl)
              refine aw_false (x := .tmp 31) (by kernel_rfl) H (fun fr => by kernel_rfl) ?_
              refine aw_skip (by kernel_rfl) ?_
              show AW cfg 15 g (right (right (right (left (left (right (left (left (right (left (right (right (right (right (bodyC cfg.P 15))))))))))))))) fr h6 _
              refine aw_seq (by kernel_rfl) ?_
              refine aw_seq (by kernel_rfl) ?_
              refine aw_reg (id := 13) (n := 8) [(0, []), (1, []), (2, []), (3, []), (4, []), (5, []), (6, []), (7, [])] (by kernel_rfl) (by kernel_rfl) ?_
              refine at_seg [(0, [])] [(1, .ptr (some (h.size, 0))), (3, rowV r1 x1.length), (4, .int .i64 x6), (5, .int .i64 x3), (6, .ptr (some (h3.size, 0))), (32, .ptr (some (h3.size, 3)))] H (noU_all rfl) (fun fr => by kernel_rfl) ?_
              intro fr H
              refine at_step (v := .int .i64 x5.Min) (h1 := h6) [(1, .ptr (some (h.size, 0))), (3, rowV r1 x1.length), (4, .int .i64 x6), (5, .int .i64 x3), (6, .ptr (some (h3.size, 0))), (33, .int .i64 x5.Min)] H (fun fr => by kernel_rfl) (fun fr => .of (s_ld (by kernel_rfl) (A.ld1 0 rfl (o := 3) rfl))) ?_
              intro fr t H
              refine at_seg [(2, []), (3, [])] [(1, .ptr (some (h.size, 0))), (3, rowV r1 x1.length), (4, .int .i64 x6), (5, .int .i64 x3), (6, .ptr (some (h3.size, 0))), (35, .bool (decide (x5.Min > (4 : Int))))] H (noU_all rfl) (fun fr => by kernel_rfl) ?_
              intro fr H
              refine at_cut [(4, []), (5, []), (6, []), (7, [])] (fun fr' h' => h6 = h' ∧ Has fr' 78 [(1, .ptr (some (h.size, 0))), (3, rowV r1 x1.length), (4, .int .i64 x6), (5, .int .i64 x3), (6, .ptr (some (h3.size, 0))), (39, .bool ((decide (x5.Min > (4 : Int))) || (decide (x5.Max > (5 : Int)))))]) ?_ ?_
              · cases hb : (decide (x5.Min > (4 : Int)) : Bool) with
                | true =>
                  replace H := H.know 35 hb (by kernel_rfl)
                  refine at_seg [(4, []), (5, []), (6, []), (7, [])] [(1, .ptr (some (h.size, 0))), (3, rowV r1 x1.length), (4, .int .i64 x6), (5, .int .i64 x3), (6, .ptr (some (h3.size, 0))), (39, .bool true)] H (noU_all rfl) (fun fr => by kernel_rfl) ?_
                  intro fr H
                  exact at_nil ⟨rfl, by first | exact H.less _ (fun fr => by rfl) | exact H.less _ (fun fr => by rw [hb]; rfl)⟩
                | false =>
                  replace H := H.know 35 hb (by kernel_rfl)
                  refine at_seg [(4, [])] [(1, .ptr (some (h.size, 0))), (3, rowV r1 x1.length), (4, .int .i64 x6), (5, .int .i64 x3), (6, .ptr (some (h3.size, 0))), (35, .bool false), (36, .ptr (some (h3.size, 4)))] H (noU_all rfl) (fun fr => by kernel_rfl) ?_
                  intro fr H
                  refine at_step (v := .int .i64 x5.Max) (h1 := h6) [(1, .ptr (some (h.size, 0))), (3, rowV r1 x1.length), (4, .int .i64 x6), (5, .int .i64 x3), (6, .ptr (some (h3.size, 0))), (35, .bool false), (37, .int .i64 x5.Max)] H (fun fr => by kernel_rfl) (fun fr => .of (s_ld (by kernel_rfl) (A.ld1 0 rfl (o := 4) rfl))) ?_
                  intro fr t H
                  refine at_seg [(6, []), (7, [])] [(1, .ptr (some (h.size, 0))), (3, rowV r1 x1.length), (4, .int .i64 x6), (5, .int .i64 x3), (6, .ptr (some (h3.size, 0))), (39, .bool (decide (x5.Max > (5 : Int))))] H (noU_all rfl) (fun fr => by kernel_rfl) ?_
                  intro fr H
                  exact at_nil ⟨rfl, by first | exact H.less _ (fun fr => by rfl) | exact H.less _ (fun fr => by rw [hb]; rfl)⟩
              · intro t fr h' hK
                obtain ⟨e, H⟩ := hK
                subst e
                refine at_nil ?_
                show AW cfg 15 g (right (left (right (right (right (left (left (right (left (left (right (left (right (right (right (right (bodyC cfg.P 15))))))))))))))))) fr h6 _
                rcases iteB_some hm with ⟨hb, hm⟩ | ⟨hb, hm⟩
                · replace H := H.know 39 hb (by kernel_rfl)
                  refine aw_true (x := .tmp 39) (by kernel_rfl) H (fun fr => by kernel_rfl) ?_
                  refine aw_seq (by kernel_rfl) ?_
                  refine aw_reg (id := 14) (n := 1) [(0, [])] (by kernel_rfl) (by kernel_rfl) ?_
                  refine at_seg [(0, [])] [(2, .bool false)] H (noU_all rfl) (fun fr => by kernel_rfl) ?_
                  intro fr H
                  refine at_nil ?_
                  show AW cfg 15 g (right (left (right (left (right (right (right (left (left (right (left (left (right (left (right (right (right (right (bodyC cfg.P 15))))))))))))))))))) fr h6 _
                  refine aw_ret (by kernel_rfl) ?_
                  replace A : HH g h6 [.obj h.size (.cells none 2 [vs e_S_boulterref18_Node p0.L, .int .i64 p0.Root])] F := (HH.dropF (A.front 2 rfl) 1)
                  exact Exists.intro _ (And.intro (Option.some.inj hm).symm (fun e => Or.inr (Or.inl ⟨false, rfl, e, H.less _ (fun fr => by kernel_rfl), A⟩)))
                · replace H := H.know 39 hb (by kernel_rfl)
                  refine aw_false (x := .tmp 39) (by kernel_rfl) H (fun fr => by kernel_rfl) ?_
                  refine aw_skip (by kernel_rfl) ?_
                  show AW cfg 15 g (right (right (right (right (left (left (right (left (left (right (left (right (right (right (right (bodyC cfg.P 15)))))))))))))))) fr h6 _
                  refine aw_seq (by kernel_rfl) ?_
                  refine aw_reg (id := 15) (n := 1) [(0, [])] (by kernel_rfl) (by kernel_rfl) ?_
                  refine at_seg [(0, [])] [(1, .ptr (some (h.size, 0))), (3, rowV r1 x1.length), (4, .int .i64 x6), (5, .int .i64 x3), (6, .ptr (some (h3.size, 0))), (7, .int .i64 (1 : Int))] H (noU_all rfl) (fun fr => by kernel_rfl) ?_
                  intro fr H
                  refine at_nil ?_
                  show AW cfg 15 g (right (right (right (right (right (left (left (right (left (left (right (left (right (right (right (right (bodyC cfg.P 15))))))))))))))))) fr h6 _
                  refine aw_seq (by kernel_rfl) ?_
                  obtain ⟨o3, ho, hm⟩ := bind_some hm
                  refine aw_mono (Q' := fun e fr' h' => (∃ (x7 : Int), e = .normal ∧ x7 = o3 ∧ Has fr' 78 [(1, .ptr (some (h.size, 0))), (3, rowV r1 x1.length), (4, .int .i64 x6), (5, .int .i64 x3), (6, .ptr (some (h3.size, 0))), (7, .int .i64 x7)] ∧ HH g h' [.obj h3.size (.cells none 2 (e_S_boulterref18_Node x5)), .lst r1 3 (lst (eI .i64) x1), .obj h.size (.cells none 2 [vs e_S_boulterref18_Node p0.L, .int .i64 p0.Root])] F) ∨ False) ?_ ?_
                  · replace hm := ho
                    clear ho
                    refine aw_seq (by kernel_rfl) ?_
                    refine aw_reg (id := 16) (n := 9) [(0, []), (1, []), (2, []), (3, []), (4, []), (5, []), (6, []), (7, []), (8, [])] (by kernel_rfl) (by kernel_rfl) ?_
                    refine at_seg [(0, [])] [(1, .ptr (some (h.size, 0))), (3, rowV r1 x1.length), (4, .int .i64 x6), (5, .int .i64 x3), (6, .ptr (some (h3.size, 0))), (7, .int .i64 (1 : Int)), (40, .ptr (some (h3.size, 1)))] H (noU_all rfl) (fun fr => by kernel_rfl) ?_
                    intro fr H
                    refine at_step (v := .int .i64 x5.A) (h1 := h6) [(1, .ptr (some (h.size, 0))), (3, rowV r1 x1.length), (4, .int .i64 x6), (5, .int .i64 x3), (6, .ptr (some (h3.size, 0))), (7, .int .i64 (1 : Int)), (41, .int .i64 x5.A)] H (fun fr => by kernel_rfl) (fun fr => .of (s_ld (by kernel_rfl) (A.ld1 0 rfl (o := 1) rfl))) ?_
                    intro fr t H
                    refine at_seg [(2, []), (3, [])] [(1, .ptr (some (h.size, 0))), (3, rowV r1 x1.length), (4, .int .i64 x6), (5, .int .i64 x3), (6, .ptr (some (h3.size, 0))), (7, .int .i64 (1 : Int)), (43, .bool (decide (x5.A ≥ (0 : Int))))] H (noU_all rfl) (fun fr => by kernel_rfl) ?_
                    intro fr H
                    refine at_cut [(4, []), (5, []), (6, []), (7, []), (8, [])] (fun fr' h' => h6 = h' ∧ Has fr' 78 [(1, .ptr (some (h.size, 0))), (3, rowV r1 x1.length), (4, .int .i64 x6), (5, .int .i64 x3), (6, .ptr (some (h3.size, 0))), (7, .int .i64 (1 : Int)), (48, .bool ((decide (x5.A ≥ (0 : Int))) && (decide (x5.A < x3))))]) ?_ ?_
                    · cases hb : (decide (x5.A ≥ (0 : Int)) : Bool) with
                      | true =>
                        replace H := H.know 43 hb (by kernel_rfl)
                        refine at_seg [(4, [])] [(1, .ptr (some (h.size, 0))), (3, rowV r1 x1.length), (4, .int .i64 x6), (5, .int .i64 x3), (6, .ptr (some (h3.size, 0))), (7, .int .i64 (1 : Int)), (43, .bool true), (44, .ptr (some (h3.size, 1)))] H (noU_all rfl) (fun fr => by kernel_rfl) ?_
                        intro fr H
                        refine at_step (v := .int .i64 x5.A) (h1 := h6) [(1, .ptr (some (h.size, 0))), (3, rowV r1 x1.length), (4, .int .i64 x6), (5, .int .i64 x3), (6, .ptr (some (h3.size, 0))), (7, .int .i64 (1 : Int)), (43, .bool true), (45, .int .i64 x5.A)] H (fun fr => by kernel_rfl) (fun fr => .of (s_ld (by kernel_rfl) (A.ld1 0 rfl (o := 1) rfl))) ?_
                        intro fr t H
                        refine at_seg [(6, []), (7, []), (8, [])] [(1, .ptr (some (h.size, 0))), (3, rowV r1 x1.length), (4, .int .i64 x6), (5, .int .i64 x3), (6, .ptr (some (h3.size, 0))), (7, .int .i64 (1 : Int)), (48, .bool (decide (x5.A < x3)))] H (noU_all rfl) (fun fr => by kernel_rfl) ?_
                        intro fr H
                        exact at_nil ⟨rfl, by first | exact H.less _ (fun fr => by rfl) | exact H.less _ (fun fr => by rw [hb]; rfl)⟩
                      | false =>
                        replace H := H.know 43 hb (by kernel_rfl)
                        refine at_seg [(4, []), (5, []), (6, []), (7, []), (8, [])] [(1, .ptr (some (h.size, 0))), (3, rowV r1 x1.length), (4, .int .i64 x6), (5, .int .i64 x3), (6, .ptr (some (h3.size, 0))), (7, .int .i64 (1 : Int)), (48, .bool false)] H (noU_all rfl) (fun fr => by kernel_rfl) ?_
                        intro fr H
                        exact at_nil ⟨rfl, by first | exact H.less _ (fun fr => by rfl) | exact H.less _ (fun fr => by rw [hb]; rfl)⟩
                    · intro t fr h' hK
                      obtain ⟨e, H⟩ := hK
                      subst e
                      refine at_nil ?_
                      show AW cfg 15 g (right (left (right (right (right (right (right (left (left (right (left (left (right (left (right (right (right (right (bodyC cfg.P 15))))))))))))))))))) fr h6 _
                      rcases iteB_some hm with ⟨hb, hm⟩ | ⟨hb, hm⟩
                      · replace H := H.know 48 hb (by kernel_rfl)
                        refine aw_true (x := .tmp 48) (by kernel_rfl) H (fun fr => by kernel_rfl) ?_
                        refine aw_reg (id := 17) (n := 8) [(0, []), (1, []), (2, []), (3, []), (4, []), (5, []), (6, []), (7, [])] (by kernel_rfl) (by kernel_rfl) ?_
                        refine at_seg [(0, []), (1, []), (2, [])] [(1, .ptr (some (h.size, 0))), (3, rowV r1 x1.length), (4, .int .i64 x6), (5, .int .i64 x3), (6, .ptr (some (h3.size, 0))), (49, .int .i64 (1 : Int)), (50, rowV r1 x1.length), (51, .ptr (some (h3.size, 1)))] H (noU_all rfl) (fun fr => by kernel_rfl) ?_
                        intro fr H
                        refine at_step (v := .int .i64 x5.A) (h1 := h6) [(1, .ptr (some (h.size, 0))), (3, rowV r1 x1.length), (4, .int .i64 x6), (5, .int .i64 x3), (6, .ptr (some (h3.size, 0))), (49, .int .i64 (1 : Int)), (50, rowV r1 x1.length), (52, .int .i64 x5.A)] H (fun fr => by kernel_rfl) (fun fr => .of (s_ld (by kernel_rfl) (A.ld1 0 rfl (o := 1) rfl))) ?_
                        intro fr t H
                        obtain ⟨x8, hx, hm⟩ := bind_some hm
                        obtain ⟨i1, er1, _, hx, hq1⟩ := HH.ixO (encI .i64) (by decide) A 1 (xs := x1) rfl hx
                        refine at_step (v := .ptr (some (i1, x5.A.toNat * 1))) (h1 := h6) [(1, .ptr (some (h.size, 0))), (3, rowV r1 x1.length), (4, .int .i64 x6), (5, .int .i64 x3), (6, .ptr (some (h3.size, 0))), (49, .int .i64 (1 : Int)), (53, .ptr (some (i1, x5.A.toNat * 1)))] H (fun fr => by kernel_rfl) (fun fr => .of (s_ixL (s := rowS r1 x1.length) (by kernel_rfl) hx)) ?_
                        intro fr t H
                        refine at_step (v := .int .i64 x8) (h1 := h6) [(1, .ptr (some (h.size, 0))), (3, rowV r1 x1.length), (4, .int .i64 x6), (5, .int .i64 x3), (6, .ptr (some (h3.size, 0))), (49, .int .i64 (1 : Int)), (54, .int .i64 x8)] H (fun fr => by kernel_rfl) (fun fr => .of (s_ld (by kernel_rfl) (row_ld1 (encI .i64) (HH.row A 1 rfl er1) hq1 (o := 0) rfl))) ?_
                        intro fr t H
                        refine at_seg [(6, []), (7, [])] [(1, .ptr (some (h.size, 0))), (3, rowV r1 x1.length), (4, .int .i64 x6), (5, .int .i64 x3), (6, .ptr (some (h3.size, 0))), (7, .int .i64 (IntKind.i64.wrap ((1 : Int) + x8)))] H (noU_all rfl) (fun fr => by kernel_rfl) ?_
                        intro fr H
                        refine at_nil ?_
                        exact Or.inl ⟨IntKind.i64.wrap ((1 : Int) + x8), rfl, Option.some.inj hm, H.less _ (fun fr => by kernel_rfl), A⟩
                      · replace H := H.know 48 hb (by kernel_rfl)
                        refine aw_false (x := .tmp 48) (by kernel_rfl) H (fun fr => by kernel_rfl) ?_
                        refine aw_skip (by kernel_rfl) ?_
                        exact Or.inl ⟨(1 : Int), rfl, Option.some.inj hm, H.less _ (fun fr => by kernel_rfl), A⟩
                  · clear ho
                    clear A
                    intro e fr h7 hQ
                    rcases hQ with ⟨x7, rfl, rfl, H, A⟩ | hF
                    · skip
                      show AW cfg 15 g (right (right (right (right (right (right (left (left (right (left (left (right (left (right (right (right (right (bodyC cfg.P 15)))))))))))))))))) fr h7 _
                      refine aw_seq (by kernel_rfl) ?_
                      obtain ⟨o4, ho, hm⟩ := bind_some hm
                      refine aw_mono (Q' := fun e fr' h' => (∃ (x9 : Int), e = .normal ∧ x9 = o4 ∧ Has fr' 78 [(1, .ptr (some (h.size, 0))), (3, rowV r1 x1.length), (4, .int .i64 x6), (5, .int .i64 x3), (7, .int .i64 x9)] ∧ HH g h' [.obj h3.size (.cells none 2 (e_S_boulterref18_Node x5)), .lst r1 3 (lst (eI .i64) x1), .obj h.size (.cells none 2 [vs e_S_boulterref18_Node p0.L, .int .i64 p0.Root])] F) ∨ False) ?_ ?_
                      · replace hm := ho
                        clear ho
                        refine aw_seq (by kernel_rfl) ?_
                        refine aw_reg (id := 18) (n := 9) [(0, []), (1, []), (2, []), (3, []), (4, []), (5, []), (6, []), (7, []), (8, [])] (by kernel_rfl) (by kernel_rfl) ?_
                        refine at_seg [(0, [])] [(1, .ptr (some (h.size, 0))), (3, rowV r1 x1.length), (4, .int .i64 x6), (5, .int .i64 x3), (6, .ptr (some (h3.size, 0))), (7, .int .i64 x7), (56, .ptr (some (h3.size, 2)))] H (noU_all rfl) (fun fr => by kernel_rfl) ?_
                        intro fr H
                        refine at_step (v := .int .i64 x5.B) (h1 := h7) [(1, .ptr (some (h.size, 0))), (3, rowV r1 x1.length), (4, .int .i64 x6), (5, .int .i64 x3), (6, .ptr (some (h3.size, 0))), (7, .int .i64 x7), (57, .int .i64 x5.B)] H (fun fr => by kernel_rfl) (fun fr => .of (s_ld (by kernel_rfl) (A.ld1 0 rfl (o := 2) rfl))) ?_
                        intro fr t H
                        refine at_seg [(2, []), (3, [])] [(1, .ptr (some (h.size, 0))), (3, rowV r1 x1.length), (4, .int .i64 x6), (5, .int .i64 x3), (6, .ptr (some (h3.size, 0))), (7, .int .i64 x7), (59, .bool (decide (x5.B ≥ (0 : Int))))] H (noU_all rfl) (fun fr => by kernel_rfl) ?_
                        intro fr H
                        refine at_cut [(4, []), (5, []), (6, []), (7, []), (8, [])] (fun fr' h' => h7 = h' ∧ Has fr' 78 [(1, .ptr (some (h.size, 0))), (3, rowV r1 x1.length), (4, .int .i64 x6), (5, .int .i64 x3), (6, .ptr (some (h3.size, 0))), (7, .int .i64 x7), (64, .bool ((decide (x5.B ≥ (0 : Int))) && (decide (x5.B < x3))))]) ?_ ?_
                        · cases hb : (decide (x5.B ≥ (0 : Int)) : Bool) with
                          | true =>
                            replace H := H.know 59 hb (by kernel_rfl)
                            refine at_seg [(4, [])] [(1, .ptr (some (h.size, 0))), (3, rowV r1 x1.length), (4, .int .i64 x6), (5, .int .i64 x3), (6, .ptr (some (h3.size, 0))), (7, .int .i64 x7), (59, .bool true), (60, .ptr (some (h3.size, 2)))] H (noU_all rfl) (fun fr => by kernel_rfl) ?_
                            intro fr H
                            refine at_step (v := .int .i64 x5.B) (h1 := h7) [(1, .ptr (some (h.size, 0))), (3, rowV r1 x1.length), (4, .int .i64 x6), (5, .int .i64 x3), (6, .ptr (some (h3.size, 0))), (7, .int .i64 x7), (59, .bool true), (61, .int .i64 x5.B)] H (fun fr => by kernel_rfl) (fun fr => .of (s_ld (by kernel_rfl) (A.ld1 0 rfl (o := 2) rfl))) ?_
                            intro fr t H
                            refine at_seg [(6, []), (7, []), (8, [])] [(1, .ptr (some (h.size, 0))), (3, rowV r1 x1.length), (4, .int .i64 x6), (5, .int .i64 x3), (6, .ptr (some (h3.size, 0))), (7, .int .i64 x7), (64, .bool (decide (x5.B < x3)))] H (noU_all rfl) (fun fr => by kernel_rfl) ?_
                            intro fr H
                            exact at_nil ⟨rfl, by first | exact H.less _ (fun fr => by rfl) | exact H.less _ (fun fr => by rw [hb]; rfl)⟩
                          | false =>
                            replace H := H.know 59 hb (by kernel_rfl)
                            refine at_seg [(4, []), (5, []), (6, []), (7, []), (8, [])] [(1, .ptr (some (h.size, 0))), (3, rowV r1 x1.length), (4, .int .i64 x6), (5, .int .i64 x3), (6, .ptr (some (h3.size, 0))), (7, .int .i64 x7), (64, .bool false)] H (noU_all rfl) (fun fr => by kernel_rfl) ?_
                            intro fr H
                            exact at_nil ⟨rfl, by first | exact H.less _ (fun fr => by rfl) | exact H.less _ (fun fr => by rw [hb]; rfl)⟩
                        · intro t fr h' hK
                          obtain ⟨e, H⟩ := hK
                          subst e
                          refine at_nil ?_
                          show AW cfg 15 g (right (left (right (right (right (right (right (right (left (left (right (left (left (right (left (right (right (right (right (bodyC cfg.P 15)))))))))))))))))))) fr h7 _
                          rcases iteB_some hm with ⟨hb, hm⟩ | ⟨hb, hm⟩
                          · replace H := H.know 64 hb (by kernel_rfl)
                            refine aw_true (x := .tmp 64) (by kernel_rfl) H (fun fr => by kernel_rfl) ?_
                            refine aw_reg (id := 19) (n := 8) [(0, []), (1, []), (2, []), (3, []), (4, []), (5, []), (6, []), (7, [])] (by kernel_rfl) (by kernel_rfl) ?_
                            refine at_seg [(0, []), (1, []), (2, [])] [(1, .ptr (some (h.size, 0))), (3, rowV r1 x1.length), (4, .int .i64 x6), (5, .int .i64 x3), (65, .int .i64 x7), (66, rowV r1 x1.length), (67, .ptr (some (h3.size, 2)))] H (noU_all rfl) (fun fr => by kernel_rfl) ?_
                            intro fr H
                            refine at_step (v := .int .i64 x5.B) (h1 := h7) [(1, .ptr (some (h.size, 0))), (3, rowV r1 x1.length), (4, .int .i64 x6), (5, .int .i64 x3), (65, .int .i64 x7), (66, rowV r1 x1.length), (68, .int .i64 x5.B)] H (fun fr => by kernel_rfl) (fun fr => .of (s_ld (by kernel_rfl) (A.ld1 0 rfl (o := 2) rfl))) ?_
                            intro fr t H
                            obtain ⟨x10, hx, hm⟩ := bind_some hm
                            obtain ⟨i2, er2, _, hx, hq2⟩ := HH.ixO (encI .i64) (by decide) A 1 (xs := x1) rfl hx
                            refine at_step (v := .ptr (some (i2, x5.B.toNat * 1))) (h1 := h7) [(1, .ptr (some (h.size, 0))), (3, rowV r1 x1.length), (4, .int .i64 x6), (5, .int .i64 x3), (65, .int .i64 x7), (69, .ptr (some (i2, x5.B.toNat * 1)))] H (fun fr => by kernel_rfl) (fun fr => .of (s_ixL (s := rowS r1 x1.length) (by kernel_rfl) hx)) ?_
                            intro fr t H
                            refine at_step (v := .int .i64 x10) (h1 := h7) [(1, .ptr (some (h.size, 0))), (3, rowV r1 x1.length), (4, .int .i64 x6), (5, .int .i64 x3), (65, .int .i64 x7), (70, .int .i64 x10)] H (fun fr => by kernel_rfl) (fun fr => .of (s_ld (by kernel_rfl) (row_ld1 (encI .i64) (HH.row A 1 rfl er2) hq2 (o := 0) rfl))) ?_
                            intro fr t H
                            refine at_seg [(6, []), (7, [])] [(1, .ptr (some (h.size, 0))), (3, rowV r1 x1.length), (4, .int .i64 x6), (5, .int .i64 x3), (7, .int .i64 (IntKind.i64.wrap (x7 + x10)))] H (noU_all rfl) (fun fr => by kernel_rfl) ?_
                            intro fr H
                            refine at_nil ?_
                            exact Or.inl ⟨IntKind.i64.wrap (x7 + x10), rfl, Option.some.inj hm, H.less _ (fun fr => by kernel_rfl), A⟩
                          · replace H := H.know 64 hb (by kernel_rfl)
                            refine aw_false (x := .tmp 64) (by kernel_rfl) H (fun fr => by kernel_rfl) ?_
                            refine aw_skip (by kernel_rfl) ?_
                            exact Or.inl ⟨x7, rfl, Option.some.inj hm, H.less _ (fun fr => by kernel_rfl), A⟩
                      · clear ho
                        clear A
                        intro e fr h8 hQ
                        rcases hQ with ⟨x9, rfl, rfl, H, A⟩ | hF
                        · skip
                          show AW cfg 15 g (right (right (right (right (right (right (right (left (left (right (left (left (right (left (right (right (right (right (bodyC cfg.P 15))))))))))))))))))) fr h8 _
                          refine aw_seq (by kernel_rfl) ?_
                          refine aw_seq (by kernel_rfl) ?_
                          refine aw_reg (id := 20) (n := 2) [(0, []), (1, [])] (by kernel_rfl) (by kernel_rfl) ?_
                          refine at_seg [(0, []), (1, [])] [(1, .ptr (some (h.size, 0))), (3, rowV r1 x1.length), (4, .int .i64 x6), (5, .int .i64 x3), (7, .int .i64 x9), (73, .bool (decide (x9 > (40 : Int))))] H (noU_all rfl) (fun fr => by kernel_rfl) ?_
                          intro fr H
                          refine at_nil ?_
                          show AW cfg 15 g (right (left (right (right (right (right (right (right (right (left (left (right (left (left (right (left (right (right (right (right (bodyC cfg.P 15))))))))))))))))))))) fr h8 _
                          rcases iteB_some hm with ⟨hb, hm⟩ | ⟨hb, hm⟩
                          · replace H := H.know 73 hb (by kernel_rfl)
                            refine aw_true (x := .tmp 73) (by kernel_rfl) H (fun fr => by kernel_rfl) ?_
                            refine aw_seq (by kernel_rfl) ?_
                            refine aw_reg (id := 21) (n := 1) [(0, [])] (by kernel_rfl) (by kernel_rfl) ?_
                            refine at_seg [(0, [])] [(2, .bool false)] H (noU_all rfl) (fun fr => by kernel_rfl) ?_
                            intro fr H
                            refine at_nil ?_
                            show AW cfg 15 g (right (left (right (left (right (right (right (right (right (right (right (left (left (right (left (left (right (left (right (right (right (right (bodyC cfg.P 15))))))))))))))))))))))) fr h8 _
                            refine aw_ret (by kernel_rfl) ?_
                            replace A : HH g h8 [.obj h.size (.cells none 2 [vs e_S_boulterref18_Node p0.L, .int .i64 p0.Root])] F := (HH.dropF (A.front 2 rfl) 1)
                            exact Exists.intro _ (And.intro (Option.some.inj hm).symm (fun e => Or.inr (Or.inl ⟨false, rfl, e, H.less _ (fun fr => by kernel_rfl), A⟩)))
                          · replace H := H.know 73 hb (by kernel_rfl)
                            refine aw_false (x := .tmp 73) (by kernel_rfl) H (fun fr => by kernel_rfl) ?_
                            refine aw_skip (by kernel_rfl) ?_
                            show AW cfg 15 g (right (right (right (right (right (right (right (right (left (left (right (left (left (right (left (right (right (right (right (bodyC cfg.P 15)))))))))))))))))))) fr h8 _
                            refine aw_reg (id := 22) (n := 5) [(0, []), (1, []), (2, []), (3, []), (4, [])] (by kernel_rfl) (by kernel_rfl) ?_
                            refine at_seg [(0, []), (1, [])] [(1, .ptr (some (h.size, 0))), (4, .int .i64 x6), (5, .int .i64 x3), (74, rowV r1 x1.length), (75, .int .i64 x9)] H (noU_all rfl) (fun fr => by kernel_rfl) ?_
                            intro fr H
                            obtain ⟨h9, e4⟩ : ∃ x, x = h8.push (.cells (some 3) 2 [.int .i64 x9]) := ⟨_, rfl⟩
                            replace A := (A.pushL _ _).to e4
                            refine at_step (v := rowV (some h8.size) (([x9] : List Int).length)) (h1 := h9) [(1, .ptr (some (h.size, 0))), (4, .int .i64 x6), (5, .int .i64 x3), (74, rowV r1 x1.length), (76, rowV (some h8.size) (([x9] : List Int).length))] H (fun fr => by kernel_rfl) (fun fr => .of (s_n' (by kernel_rfl) (congrArg some e4.symm))) ?_
                            intro fr t H
                            obtain ⟨hb, hm⟩ := need_some hm
                            obtain ⟨r2, h10, hx, A1⟩ := HH.appO (encI .i64) (by decide) A 2 (xs := x1) (ys := ([x9] : List Int)) rfl (row_first A 0 rfl (n := ([x9] : List Int).length) (z := 1) rfl (by decide)) rfl rfl hb
                            replace A : HH g h10 [.lst (some h8.size) 3 ([.int .i64 x9]), .obj h3.size (.cells none 2 (e_S_boulterref18_Node x5)), .lst r2 3 (lst (eI .i64) (x1 ++ ([x9] : List Int))), .obj h.size (.cells none 2 [vs e_S_boulterref18_Node p0.L, .int .i64 p0.Root])] F := A1
                            replace A : HH g h10 [.obj h3.size (.cells none 2 (e_S_boulterref18_Node x5)), .lst r2 3 (lst (eI .i64) (x1 ++ ([x9] : List Int))), .obj h.size (.cells none 2 [vs e_S_boulterref18_Node p0.L, .int .i64 p0.Root])] F := (HH.dropF (((A.front 3 rfl).front 3 rfl).front 3 rfl) 3)
                            refine at_step (v := rowV r2 ((x1 ++ ([x9] : List Int)).length)) (h1 := h10) [(1, .ptr (some (h.size, 0))), (4, .int .i64 x6), (5, .int .i64 x3), (77, rowV r2 ((x1 ++ ([x9] : List Int)).length))] H (fun fr => by kernel_rfl) (fun fr => .of (s_app (s := rowS r1 x1.length) (by kernel_rfl) hx)) ?_
                            intro fr t H
                            refine at_seg [(4, [])] [(1, .ptr (some (h.size, 0))), (3, rowV r2 ((x1 ++ ([x9] : List Int)).length)), (4, .int .i64 x6), (5, .int .i64 x3)] H (noU_all rfl) (fun fr => by kernel_rfl) ?_
                            intro fr H
                            refine at_nil ?_
                            show AW cfg 15 g (right (right (left (left (right (left (right (right (right (right (bodyC cfg.P 15))))))))))) fr h10 _
                            refine aw_reg (id := 7) (n := 3) [(0, []), (1, []), (2, [])] (by kernel_rfl) (by kernel_rfl) ?_
                            refine at_seg [(0, []), (1, []), (2, [])] [(1, .ptr (some (h.size, 0))), (3, rowV r2 ((x1 ++ ([x9] : List Int)).length)), (4, .int .i64 x6), (5, .int .i64 (IntKind.i64.wrap (x3 + (1 : Int))))] H (noU_all rfl) (fun fr => by kernel_rfl) ?_
                            intro fr H
                            refine at_nil ?_
                            replace A : HH g h10 [.lst r2 3 (lst (eI .i64) (x1 ++ ([x9] : List Int))), .obj h.size (.cells none 2 [vs e_S_boulterref18_Node p0.L, .int .i64 p0.Root])] F := (HH.dropF ((A.front 2 rfl).front 2 rfl) 2)
                            exact Exists.intro ((x1 ++ ([x9] : List Int)), x6, IntKind.i64.wrap (x3 + (1 : Int))) (And.intro (Option.some.inj hm).symm ⟨(x1 ++ ([x9] : List Int)), x6, IntKind.i64.wrap (x3 + (1 : Int)), rfl, r2, H.less _ (fun fr => by kernel_rfl), A⟩)
                        · exact hF.elim
                    · exact hF.elim
          · exact hF.elim
      · replace H := H.know 17 hb (by kernel_rfl)
        refine aw_false (x := .tmp 17) (by kernel_rfl) H (fun fr => by kernel_rfl) ?_
        refine aw_exit (i := 0) (by kernel_rfl) ?_
        replace A : HH g h3 [.obj h.size (.cells none 2 [vs e_S_boulterref18_Node p0.L, .int .i64 p0.Root])] F := (HH.dropF (A.front 1 rfl) 1)
        exact Exists.intro _ (And.intro (Option.some.inj hm).symm (fun e => Or.inl ⟨rfl, e, H.less _ (fun fr => by kernel_rfl), A⟩))
    · clear ho
      clear A
      intro e fr h11 hQ
      rcases hQ with ⟨rfl, rfl, H, A⟩ | ⟨x4, rfl, rfl, H, A⟩ | hF
      · skip
        show AW cfg 15 g (right (right (right (right (right (bodyC cfg.P 15)))))) fr h11 _
        refine aw_seq (by kernel_rfl) ?_
        refine aw_reg (id := 23) (n := 1) [(0, [])] (by kernel_rfl) (by kernel_rfl) ?_
        refine at_seg [(0, [])] [(2, .bool true)] H (noU_all rfl) (fun fr => by kernel_rfl) ?_
        intro fr H
        refine at_nil ?_
        show AW cfg 15 g (right (right (right (right (right (right (bodyC cfg.P 15))))))) fr h11 _
        refine aw_ret (by kernel_rfl) ?_
        have e1 := Option.some.inj hm
        subst e1
        refine ⟨.inl rfl, .bool true, resH H (fun fr => by kernel_rfl), ?_⟩
        replace A : HH g h11 [] F := (HH.dropF A 0)
        exact ⟨rfl, A⟩
      · skip
        have e1 := Option.some.inj hm
        subst e1
        refine ⟨.inl rfl, .bool x4, resH H (fun fr => by kernel_rfl), ?_⟩
        replace A : HH g h11 [] F := (HH.dropF A 0)
        exact ⟨rfl, A⟩
      · exact hF.elim
/-! ### boulter/boulterlaw20.awake -/
def M_boulterlaw20_awake : Option Bool := some true
theorem ok_boulterlaw20_awake {g : Gd} {h : AHeap} {q0 : Bool} (hm : M_boulterlaw20_awake = some q0) : Runs cfg g h 20 [] (.bool q0) h := by
  have e1 := Option.some.inj hm
  subst e1
  exact runs4E (by kernel_rfl) rfl rfl (closed 1000 (by kernel_rfl))
/-! ### boulter/tree.may$1 -/
noncomputable def M_tree_may_1_sIP (p0 : Int) (p1 : Int) : Option (Bool) :=
 some ((decide (p0 ≥ (0 : Int))) && (decide (p0 < p1)))
theorem ok_tree_may_1_sIP {g : Gd} {h : AHeap} {F : List Ck} {p0 : Int} {p1 : Int} {bp1 : Nat} {q0 : Bool} {av : List AVal} (hm : M_tree_may_1_sIP p0 p1 = some q0) (hc : canL (cfg.still 80) av = [.int .i64 p0, .ptr (some (bp1, 0))]) (A : HH g h [.obj bp1 (.cells none 2 [.int .i64 p1])] F) : ∃ v h', Runs cfg g h 80 av v h' ∧ v = .bool q0 ∧ HH g h' [.obj bp1 (.cells none 2 [.int .i64 p1])] F := by
  refine runsQ1 (n := 11) (rs := [.tmp 3]) (by kernel_rfl) hc (by kernel_rfl) ?_
  clear hc
  unfold M_tree_may_1_sIP at hm
  refine start (n := 11) [(0, .int .i64 p0), (1, .ptr (some (bp1, 0)))] (by kernel_rfl) (by kernel_rfl) ?_
  intro fr H
  refine aw_seq (by kernel_rfl) ?_
  refine aw_reg (id := 0) (n := 1) [(0, [])] (by kernel_rfl) (by kernel_rfl) ?_
  refine at_seg [(0, [])] [(0, .int .i64 p0), (1, .ptr (some (bp1, 0)))] H (noU_all rfl) (fun fr => by kernel_rfl) ?_
  intro fr H
  refine at_nil ?_
  show AW cfg 80 g (right (bodyC cfg.P 80)) fr h _
  refine aw_seq (by kernel_rfl) ?_
  refine aw_reg (id := 1) (n := 8) [(0, []), (1, []), (2, []), (3, []), (4, []), (5, []), (6, []), (7, [])] (by kernel_rfl) (by kernel_rfl) ?_
  refine at_seg [(0, []), (1, []), (2, [])] [(0, .int .i64 p0), (1, .ptr (some (bp1, 0))), (6, .bool (decide (p0 ≥ (0 : Int))))] H (noU_all rfl) (fun fr => by kernel_rfl) ?_
  intro fr H
  refine at_cut [(3, []), (4, []), (5, []), (6, [])] (fun fr' h' => h = h' ∧ Has fr' 11 [(10, .bool ((decide (p0 ≥ (0 : Int))) && (decide (p0 < p1))))]) ?_ ?_
  · cases hb : (decide (p0 ≥ (0 : Int)) : Bool) with
    | true =>
      replace H := H.know 6 hb (by kernel_rfl)
      refine at_seg [(3, [])] [(1, .ptr (some (bp1, 0))), (6, .bool true), (7, .int .i64 p0)] H (noU_all rfl) (fun fr => by kernel_rfl) ?_
      intro fr H
      refine at_step (v := .int .i64 p1) (h1 := h) [(6, .bool true), (7, .int .i64 p0), (8, .int .i64 p1)] H (fun fr => by kernel_rfl) (fun fr => .of (s_ld (by kernel_rfl) (A.ld1 0 rfl (o := 0) rfl))) ?_
      intro fr t H
      refine at_seg [(5, []), (6, [])] [(10, .bool (decide (p0 < p1)))] H (noU_all rfl) (fun fr => by kernel_rfl) ?_
      intro fr H
      exact at_nil ⟨rfl, by first | exact H.less _ (fun fr => by rfl) | exact H.less _ (fun fr => by rw [hb]; rfl)⟩
    | false =>
      replace H := H.know 6 hb (by kernel_rfl)
      refine at_seg [(3, []), (4, []), (5, []), (6, [])] [(10, .bool false)] H (noU_all rfl) (fun fr => by kernel_rfl) ?_
      intro fr H
      exact at_nil ⟨rfl, by first | exact H.less _ (fun fr => by rfl) | exact H.less _ (fun fr => by rw [hb]; rfl)⟩
  · intro t fr h' hK
    obtain ⟨e, H⟩ := hK
    subst e
    refine at_seg [(7, [])] [(3, .bool ((decide (p0 ≥ (0 : Int))) && (decide (p0 < p1))))] H (noU_all rfl) (fun fr => by kernel_rfl) ?_
    intro fr H
    refine at_nil ?_
    show AW cfg 80 g (right (right (bodyC cfg.P 80))) fr h _
    refine aw_ret (by kernel_rfl) ?_
    have e1 := Option.some.inj hm
    subst e1
    refine ⟨.inl rfl, .bool ((decide (p0 ≥ (0 : Int))) && (decide (p0 < p1))), resH H (fun fr => by kernel_rfl), ?_⟩
    exact ⟨rfl, A⟩
/-! ### boulter/boulterref16.Same -/
noncomputable def M_boulterref16_Same_sOO_L0 (p0 : List Int) (p1 : List Int) (s : Int) : Option ((Int) ⊕ ((Unit) ⊕ (Bool))) :=
  match s with
  | x1 => iteB (decide (x1 < (p0.length : Int))) ((ixV p0 x1).bind fun x3 => (ixV p1 x1).bind fun x4 => iteB (x3 != x4) (some (.inr (.inr false))) (some (.inl (IntKind.i64.wrap (x1 + (1 : Int)))))) (some (.inr (.inl ())))
noncomputable def M_boulterref16_Same_sOO (p0 : List Int) (p1 : List Int) : Option (Bool) :=
 iteB ((p0.length : Int) != (p1.length : Int)) (some false) ((loop (M_boulterref16_Same_sOO_L0 p0 p1) (0 : Int)).bind fun o1 => (match o1 with | .inl _ => some true | .inr x2 => some x2))
theorem ok_boulterref16_Same_sOO {g : Gd} {h : AHeap} {F : List Ck} {p0 : List Int} {p1 : List Int} {rp0 : Option Nat} {rp1 : Option Nat} {q0 : Bool} {av : List AVal} (hm : M_boulterref16_Same_sOO p0 p1 = some q0) (hc : canL (cfg.still 23) av = [rowV rp0 p0.length, rowV rp1 p1.length]) (A : HH g h [.lst rp0 3 (lst (eI .i64) p0), .lst rp1 3 (lst (eI .i64) p1)] F) : ∃ v h', Runs cfg g h 23 av v h' ∧ v = .bool q0 ∧ HH g h' [.lst rp0 3 (lst (eI .i64) p0), .lst rp1 3 (lst (eI .i64) p1)] F := by
  refine runsQ1 (n := 26) (rs := [.tmp 4]) (by kernel_rfl) hc (by kernel_rfl) ?_
  clear hc
  unfold M_boulterref16_Same_sOO at hm
  refine start (n := 26) [(0, rowV rp0 p0.length), (1, rowV rp1 p1.length)] (by kernel_rfl) (by kernel_rfl) ?_
  intro fr H
  refine aw_seq (by kernel_rfl) ?_
  refine aw_reg (id := 0) (n := 1) [(0, [])] (by kernel_rfl) (by kernel_rfl) ?_
  refine at_seg [(0, [])] [(0, rowV rp0 p0.length), (1, rowV rp1 p1.length)] H (noU_all rfl) (fun fr => by kernel_rfl) ?_
  intro fr H
  refine at_nil ?_
  show AW cfg 23 g (right (bodyC cfg.P 23)) fr h _
  refine aw_seq (by kernel_rfl) ?_
  refine aw_seq (by kernel_rfl) ?_
  refine aw_reg (id := 1) (n := 5) [(0, []), (1, []), (2, []), (3, []), (4, [])] (by kernel_rfl) (by kernel_rfl) ?_
  refine at_seg [(0, []), (1, []), (2, []), (3, []), (4, [])] [(0, rowV rp0 p0.length), (1, rowV rp1 p1.length), (10, .bool ((p0.length : Int) != (p1.length : Int)))] H (noU_all rfl) (fun fr => by kernel_rfl) ?_
  intro fr H
  refine at_nil ?_
  show AW cfg 23 g (right (left (right (bodyC cfg.P 23)))) fr h _
  rcases iteB_some hm with ⟨hb, hm⟩ | ⟨hb, hm⟩
  · replace H := H.know 10 hb (by kernel_rfl)
    refine aw_true (x := .tmp 10) (by kernel_rfl) H (fun fr => by kernel_rfl) ?_
    refine aw_seq (by kernel_rfl) ?_
    refine aw_reg (id := 2) (n := 1) [(0, [])] (by kernel_rfl) (by kernel_rfl) ?_
    refine at_seg [(0, [])] [(4, .bool false)] H (noU_all rfl) (fun fr => by kernel_rfl) ?_
    intro fr H
    refine at_nil ?_
    show AW cfg 23 g (right (left (right (left (right (bodyC cfg.P 23)))))) fr h _
    refine aw_ret (by kernel_rfl) ?_
    have e1 := Option.some.inj hm
    subst e1
    refine ⟨.inl rfl, .bool false, resH H (fun fr => by kernel_rfl), ?_⟩
    exact ⟨rfl, A⟩
  · replace H := H.know 10 hb (by kernel_rfl)
    refine aw_false (x := .tmp 10) (by kernel_rfl) H (fun fr => by kernel_rfl) ?_
    refine aw_skip (by kernel_rfl) ?_
    show AW cfg 23 g (right (right (bodyC cfg.P 23))) fr h _
    refine aw_seq (by kernel_rfl) ?_
    refine aw_seq (by kernel_rfl) ?_
    refine aw_reg (id := 3) (n := 1) [(0, [])] (by kernel_rfl) (by kernel_rfl) ?_
    refine at_seg [(0, [])] [(0, rowV rp0 p0.length), (1, rowV rp1 p1.length), (5, .int .i64 (0 : Int))] H (noU_all rfl) (fun fr => by kernel_rfl) ?_
    intro fr H
    refine at_nil ?_
    show AW cfg 23 g (right (left (right (right (bodyC cfg.P 23))))) fr h _
    refine aw_block (id := 0) (by kernel_rfl) ?_
    obtain ⟨o1, ho, hm⟩ := bind_some hm
    refine aw_mono (Q' := fun e fr' h' => (e = .exit 0 ∧ .inl () = o1 ∧ Has fr' 26 [] ∧ HH g h' [.lst rp0 3 (lst (eI .i64) p0), .lst rp1 3 (lst (eI .i64) p1)] F) ∨ (∃ (x2 : Bool), e = .ret ∧ .inr x2 = o1 ∧ Has fr' 26 [(4, .bool x2)] ∧ HH g h' [.lst rp0 3 (lst (eI .i64) p0), .lst rp1 3 (lst (eI .i64) p1)] F) ∨ False) ?_ ?_
    · refine aw_loop (by kernel_rfl) (fun (s : Int) fr' h' => ∃ (x1 : Int), x1 = s ∧ Has fr' 26 [(0, rowV rp0 p0.length), (1, rowV rp1 p1.length), (5, .int .i64 x1)] ∧ HH g h' [.lst rp0 3 (lst (eI .i64) p0), .lst rp1 3 (lst (eI .i64) p1)] F) ho ⟨(0 : Int), rfl, H.less _ (fun fr => by kernel_rfl), A⟩ ?_
      clear ho hm H A
      intro s q fr h1 hI hm
      obtain ⟨x1, rfl, H, A⟩ := hI
      unfold M_boulterref16_Same_sOO_L0 at hm
      refine aw_seq (by kernel_rfl) ?_
      refine aw_seq (by kernel_rfl) ?_
      refine aw_reg (id := 4) (n := 4) [(0, []), (1, []), (2, []), (3, [])] (by kernel_rfl) (by kernel_rfl) ?_
      refine at_seg [(0, []), (1, []), (2, []), (3, [])] [(0, rowV rp0 p0.length), (1, rowV rp1 p1.length), (5, .int .i64 x1), (14, .bool (decide (x1 < (p0.length : Int))))] H (noU_all rfl) (fun fr => by kernel_rfl) ?_
      intro fr H
      refine at_nil ?_
      show AW cfg 23 g (right (left (left (left (right (left (right (right (bodyC cfg.P 23))))))))) fr h1 _
      rcases iteB_some hm with ⟨hb, hm⟩ | ⟨hb, hm⟩
      · replace H := H.know 14 hb (by kernel_rfl)
        refine aw_true (x := .tmp 14) (by kernel_rfl) H (fun fr => by kernel_rfl) ?_
        refine aw_skip (by kernel_rfl) ?_
        show AW cfg 23 g (right (left (left (right (left (right (right (bodyC cfg.P 23)))))))) fr h1 _
        refine aw_seq (by kernel_rfl) ?_
        refine aw_block (id := 1) (by kernel_rfl) ?_
        refine aw_seq (by kernel_rfl) ?_
        refine aw_draw (id := 6) (n := 9) (by kernel_rfl) [(0, []), (1, []), (2, []), (3, []), (4, []), (5, []), (6, []), (7, []), (8, [])] (by kernel_rfl) ?_
        refine at_seg [(0, []), (1, [])] [(0, rowV rp0 p0.length), (1, rowV rp1 p1.length), (5, .int .i64 x1), (17, rowV rp0 p0.length), (18, .int .i64 x1)] H (noU_all rfl) (fun fr => by kernel_rfl) ?_
        intro fr H
        obtain ⟨x3, hx, hm⟩ := bind_some hm
        obtain ⟨i1, er1, _, hx, hq1⟩ := HH.ixO (encI .i64) (by decide) A 0 (xs := p0) rfl hx
        refine at_step (v := .ptr (some (i1, x1.toNat * 1))) (h1 := h1) [(0, rowV rp0 p0.length), (1, rowV rp1 p1.length), (5, .int .i64 x1), (19, .ptr (some (i1, x1.toNat * 1)))] H (fun fr => by kernel_rfl) (fun fr => .of (s_ixL (s := rowS rp0 p0.length) (by kernel_rfl) hx)) ?_
        intro fr t H
        refine at_step (v := .int .i64 x3) (h1 := h1) [(0, rowV rp0 p0.length), (1, rowV rp1 p1.length), (5, .int .i64 x1), (20, .int .i64 x3)] H (fun fr => by kernel_rfl) (fun fr => .of (s_ld (by kernel_rfl) (row_ld1 (encI .i64) (HH.row A 0 rfl er1) hq1 (o := 0) rfl))) ?_
        intro fr t H
        refine at_seg [(4, []), (5, [])] [(0, rowV rp0 p0.length), (1, rowV rp1 p1.length), (5, .int .i64 x1), (20, .int .i64 x3), (21, rowV rp1 p1.length), (22, .int .i64 x1)] H (noU_all rfl) (fun fr => by kernel_rfl) ?_
        intro fr H
        obtain ⟨x4, hx, hm⟩ := bind_some hm
        obtain ⟨i2, er2, _, hx, hq2⟩ := HH.ixO (encI .i64) (by decide) A 1 (xs := p1) rfl hx
        refine at_step (v := .ptr (some (i2, x1.toNat * 1))) (h1 := h1) [(0, rowV rp0 p0.length), (1, rowV rp1 p1.length), (5, .int .i64 x1), (20, .int .i64 x3), (23, .ptr (some (i2, x1.toNat * 1)))] H (fun fr => by kernel_rfl) (fun fr => .of (s_ixL (s := rowS rp1 p1.length) (by kernel_rfl) hx)) ?_
        intro fr t H
        refine at_step (v := .int .i64 x4) (h1 := h1) [(0, rowV rp0 p0.length), (1, rowV rp1 p1.length), (5, .int .i64 x1), (20, .int .i64 x3), (24, .int .i64 x4)] H (fun fr => by kernel_rfl) (fun fr => .of (s_ld (by kernel_rfl) (row_ld1 (encI .i64) (HH.row A 1 rfl er2) hq2 (o := 0) rfl))) ?_
        intro fr t H
        refine at_seg [(8, [])] [(0, rowV rp0 p0.length), (1, rowV rp1 p1.length), (5, .int .i64 x1), (25, .bool (x3 != x4))] H (noU_all rfl) (fun fr => by kernel_rfl) ?_
        intro fr H
        refine at_nil ?_
        show AW cfg 23 g (right (left (left (right (left (left (right (left (right (right (bodyC cfg.P 23))))))))))) fr h1 _
        rcases iteB_some hm with ⟨hb, hm⟩ | ⟨hb, hm⟩
        · replace H := H.know 25 hb (by kernel_rfl)
          refine aw_true (x := .tmp 25) (by kernel_rfl) H (fun fr => by kernel_rfl) ?_
          refine aw_seq (by kernel_rfl) ?_
          refine aw_reg (id := 7) (n := 1) [(0, [])] (by kernel_rfl) (by kernel_rfl) ?_
          refine at_seg [(0, [])] [(4, .bool false)] H (noU_all rfl) (fun fr => by kernel_rfl) ?_
          intro fr H
          refine at_nil ?_
          show AW cfg 23 g (right (left (right (left (left (right (left (left (right (left (right (right (bodyC cfg.P 23))))))))))))) fr h1 _
          refine aw_ret (by kernel_rfl) ?_
          exact Exists.intro _ (And.intro (Option.some.inj hm).symm (fun e => Or.inr (Or.inl ⟨false, rfl, e, H.less _ (fun fr => by kernel_rfl), A⟩)))
        · replace H := H.know 25 hb (by kernel_rfl)
          refine aw_false (x := .tmp 25) (by kernel_rfl) H (fun fr => by kernel_rfl) ?_
          refine aw_skip (by kernel_rfl) ?_
          show AW cfg 23 g (right (right (left (left (right (left (right (right (bodyC cfg.P 23))))))))) fr h1 _
          refine aw_reg (id := 5) (n := 3) [(0, []), (1, []), (2, [])] (by kernel_rfl) (by kernel_rfl) ?_
          refine at_seg [(0, []), (1, []), (2, [])] [(0, rowV rp0 p0.length), (1, rowV rp1 p1.length), (5, .int .i64 (IntKind.i64.wrap (x1 + (1 : Int))))] H (noU_all rfl) (fun fr => by kernel_rfl) ?_
          intro fr H
          refine at_nil ?_
          exact Exists.intro (IntKind.i64.wrap (x1 + (1 : Int))) (And.intro (Option.some.inj hm).symm ⟨IntKind.i64.wrap (x1 + (1 : Int)), rfl, H.less _ (fun fr => by kernel_rfl), A⟩)
      · replace H := H.know 14 hb (by kernel_rfl)
        refine aw_false (x := .tmp 14) (by kernel_rfl) H (fun fr => by kernel_rfl) ?_
        refine aw_exit (i := 0) (by kernel_rfl) ?_
        exact Exists.intro _ (And.intro (Option.some.inj hm).symm (fun e => Or.inl ⟨rfl, e, H.less _ (fun fr => by kernel_rfl), A⟩))
    · clear ho
      clear A
      intro e fr h2 hQ
      rcases hQ with ⟨rfl, rfl, H, A⟩ | ⟨x2, rfl, rfl, H, A⟩ | hF
      · skip
        show AW cfg 23 g (right (right (right (bodyC cfg.P 23)))) fr h2 _
        refine aw_seq (by kernel_rfl) ?_
        refine aw_reg (id := 8) (n := 1) [(0, [])] (by kernel_rfl) (by kernel_rfl) ?_
        refine at_seg [(0, [])] [(4, .bool true)] H (noU_all rfl) (fun fr => by kernel_rfl) ?_
        intro fr H
        refine at_nil ?_
        show AW cfg 23 g (right (right (right (right (bodyC cfg.P 23))))) fr h2 _
        refine aw_ret (by kernel_rfl) ?_
        have e1 := Option.some.inj hm
        subst e1
        refine ⟨.inl rfl, .bool true, resH H (fun fr => by kernel_rfl), ?_⟩
        exact ⟨rfl, A⟩
      · skip
        have e1 := Option.some.inj hm
        subst e1
        refine ⟨.inl rfl, .bool x2, resH H (fun fr => by kernel_rfl), ?_⟩
        exact ⟨rfl, A⟩
      · exact hF.elim
end Go.Av.L
