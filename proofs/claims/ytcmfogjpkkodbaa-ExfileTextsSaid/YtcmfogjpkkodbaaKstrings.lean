/-
  Models of functions of package strings, and that the abstract run tells them. Written by lift2.py.
-/
import Derived.Test.YtcmfogjpkkodbaaKCfg
import Derived.Test.YtcmfogjpkkodbaaKstringslite
namespace Go.Av.L
open Go.Av
set_option linter.unusedVariables false
set_option linter.unusedSimpArgs false
/-! ### strings.Index -/
noncomputable def M_strings_Index_s0 (p0 : List UInt8) : Option (Int) :=
 (M_stringslite_Index_s0 p0).bind fun x1 => some x1
theorem ok_strings_Index_s0 {g : Gd} {h : AHeap} {F : List Ck} {p0 : List UInt8} {q0 : Int} {av : List AVal} (hm : M_strings_Index_s0 p0 = some q0) (hc : canL (cfg.still 60) av = [.str p0, .str ([10] : List UInt8)]) (A : HH g h [] F) : ∃ v h', Runs cfg g h 60 av v h' ∧ v = .int .i64 q0 ∧ HH g h' [] F := by
  refine runsQ1 (n := 8) (rs := [.tmp 4]) (by kernel_rfl) hc (by kernel_rfl) ?_
  clear hc
  unfold M_strings_Index_s0 at hm
  refine start (n := 8) [(0, .str p0), (1, .str ([10] : List UInt8))] (by kernel_rfl) (by kernel_rfl) ?_
  intro fr H
  refine aw_seq (by kernel_rfl) ?_
  refine aw_reg (id := 0) (n := 1) [(0, [])] (by kernel_rfl) (by kernel_rfl) ?_
  refine at_seg [(0, [])] [(0, .str p0), (1, .str ([10] : List UInt8))] H (noU_all rfl) (fun fr => by kernel_rfl) ?_
  intro fr H
  refine at_nil ?_
  show AW cfg 60 g (right (bodyC cfg.P 60)) fr h _
  refine aw_seq (by kernel_rfl) ?_
  refine aw_reg (id := 1) (n := 4) [(0, []), (1, []), (2, []), (3, [])] (by kernel_rfl) (by kernel_rfl) ?_
  refine at_seg [(0, []), (1, [])] [(5, .str p0), (6, .str ([10] : List UInt8))] H (noU_all rfl) (fun fr => by kernel_rfl) ?_
  intro fr H
  have A1 := A.cut 0
  obtain ⟨x1, hx, hm⟩ := bind_some hm
  obtain ⟨v1, h1, hr, rfl, A1⟩ := ok_stringslite_Index_s0 (av := [.str p0, .str ([10] : List UInt8)]) hx (by kernel_rfl) A1
  replace A : HH g h1 [] F := A.glue0 (n := 0) A1
  refine at_step (v := .int .i64 x1) (h1 := h1) [(7, .int .i64 x1)] H (fun fr => by kernel_rfl) (fun fr => Steps.call (by kernel_rfl) hr) ?_
  intro fr t H
  refine at_seg [(3, [])] [(4, .int .i64 x1)] H (noU_all rfl) (fun fr => by kernel_rfl) ?_
  intro fr H
  refine at_nil ?_
  show AW cfg 60 g (right (right (bodyC cfg.P 60))) fr h1 _
  refine aw_ret (by kernel_rfl) ?_
  have e1 := Option.some.inj hm
  subst e1
  refine ⟨.inl rfl, .int .i64 x1, resH H (fun fr => by kernel_rfl), ?_⟩
  exact ⟨rfl, A⟩
/-! ### strings.Contains -/
noncomputable def M_strings_Contains_s0 (p0 : List UInt8) : Option (Bool) :=
 (M_strings_Index_s0 p0).bind fun x1 => some (decide (x1 ≥ (0 : Int)))
theorem ok_strings_Contains_s0 {g : Gd} {h : AHeap} {F : List Ck} {p0 : List UInt8} {q0 : Bool} {av : List AVal} (hm : M_strings_Contains_s0 p0 = some q0) (hc : canL (cfg.still 37) av = [.str p0, .str ([10] : List UInt8)]) (A : HH g h [] F) : ∃ v h', Runs cfg g h 37 av v h' ∧ v = .bool q0 ∧ HH g h' [] F := by
  refine runsQ1 (n := 9) (rs := [.tmp 4]) (by kernel_rfl) hc (by kernel_rfl) ?_
  clear hc
  unfold M_strings_Contains_s0 at hm
  refine start (n := 9) [(0, .str p0), (1, .str ([10] : List UInt8))] (by kernel_rfl) (by kernel_rfl) ?_
  intro fr H
  refine aw_seq (by kernel_rfl) ?_
  refine aw_reg (id := 0) (n := 1) [(0, [])] (by kernel_rfl) (by kernel_rfl) ?_
  refine at_seg [(0, [])] [(0, .str p0), (1, .str ([10] : List UInt8))] H (noU_all rfl) (fun fr => by kernel_rfl) ?_
  intro fr H
  refine at_nil ?_
  show AW cfg 37 g (right (bodyC cfg.P 37)) fr h _
  refine aw_seq (by kernel_rfl) ?_
  refine aw_reg (id := 1) (n := 5) [(0, []), (1, []), (2, []), (3, []), (4, [])] (by kernel_rfl) (by kernel_rfl) ?_
  refine at_seg [(0, []), (1, [])] [(5, .str p0), (6, .str ([10] : List UInt8))] H (noU_all rfl) (fun fr => by kernel_rfl) ?_
  intro fr H
  have A1 := A.cut 0
  obtain ⟨x1, hx, hm⟩ := bind_some hm
  obtain ⟨v1, h1, hr, rfl, A1⟩ := ok_strings_Index_s0 (av := [.str p0, .str ([10] : List UInt8)]) hx (by kernel_rfl) A1
  replace A : HH g h1 [] F := A.glue0 (n := 0) A1
  refine at_step (v := .int .i64 x1) (h1 := h1) [(7, .int .i64 x1)] H (fun fr => by kernel_rfl) (fun fr => Steps.call (by kernel_rfl) hr) ?_
  intro fr t H
  refine at_seg [(3, []), (4, [])] [(4, .bool (decide (x1 ≥ (0 : Int))))] H (noU_all rfl) (fun fr => by kernel_rfl) ?_
  intro fr H
  refine at_nil ?_
  show AW cfg 37 g (right (right (bodyC cfg.P 37))) fr h1 _
  refine aw_ret (by kernel_rfl) ?_
  have e1 := Option.some.inj hm
  subst e1
  refine ⟨.inl rfl, .bool (decide (x1 ≥ (0 : Int))), resH H (fun fr => by kernel_rfl), ?_⟩
  exact ⟨rfl, A⟩
/-! ### strings.HasPrefix -/
noncomputable def M_strings_HasPrefix (p0 : List UInt8) (p1 : List UInt8) : Option (Bool) :=
 (M_stringslite_HasPrefix p0 p1).bind fun x1 => some x1
theorem ok_strings_HasPrefix {g : Gd} {h : AHeap} {F : List Ck} {p0 : List UInt8} {p1 : List UInt8} {q0 : Bool} {av : List AVal} (hm : M_strings_HasPrefix p0 p1 = some q0) (hc : canL (cfg.still 38) av = [.str p0, .str p1]) (A : HH g h [] F) : ∃ v h', Runs cfg g h 38 av v h' ∧ v = .bool q0 ∧ HH g h' [] F := by
  refine runsQ1 (n := 8) (rs := [.tmp 4]) (by kernel_rfl) hc (by kernel_rfl) ?_
  clear hc
  unfold M_strings_HasPrefix at hm
  refine start (n := 8) [(0, .str p0), (1, .str p1)] (by kernel_rfl) (by kernel_rfl) ?_
  intro fr H
  refine aw_seq (by kernel_rfl) ?_
  refine aw_reg (id := 0) (n := 1) [(0, [])] (by kernel_rfl) (by kernel_rfl) ?_
  refine at_seg [(0, [])] [(0, .str p0), (1, .str p1)] H (noU_all rfl) (fun fr => by kernel_rfl) ?_
  intro fr H
  refine at_nil ?_
  show AW cfg 38 g (right (bodyC cfg.P 38)) fr h _
  refine aw_seq (by kernel_rfl) ?_
  refine aw_reg (id := 1) (n := 4) [(0, []), (1, []), (2, []), (3, [])] (by kernel_rfl) (by kernel_rfl) ?_
  refine at_seg [(0, []), (1, [])] [(5, .str p0), (6, .str p1)] H (noU_all rfl) (fun fr => by kernel_rfl) ?_
  intro fr H
  have A1 := A.cut 0
  obtain ⟨x1, hx, hm⟩ := bind_some hm
  obtain ⟨v1, h1, hr, rfl, A1⟩ := ok_stringslite_HasPrefix (av := [.str p0, .str p1]) hx (by kernel_rfl) A1
  replace A : HH g h1 [] F := A.glue0 (n := 0) A1
  refine at_step (v := .bool x1) (h1 := h1) [(7, .bool x1)] H (fun fr => by kernel_rfl) (fun fr => Steps.call (by kernel_rfl) hr) ?_
  intro fr t H
  refine at_seg [(3, [])] [(4, .bool x1)] H (noU_all rfl) (fun fr => by kernel_rfl) ?_
  intro fr H
  refine at_nil ?_
  show AW cfg 38 g (right (right (bodyC cfg.P 38))) fr h1 _
  refine aw_ret (by kernel_rfl) ?_
  have e1 := Option.some.inj hm
  subst e1
  refine ⟨.inl rfl, .bool x1, resH H (fun fr => by kernel_rfl), ?_⟩
  exact ⟨rfl, A⟩
/-! ### strings.Index -/
noncomputable def M_strings_Index_s1 (p0 : List UInt8) : Option (Int) :=
 (M_stringslite_Index_s1 p0).bind fun x1 => some x1
theorem ok_strings_Index_s1 {g : Gd} {h : AHeap} {F : List Ck} {p0 : List UInt8} {q0 : Int} {av : List AVal} (hm : M_strings_Index_s1 p0 = some q0) (hc : canL (cfg.still 60) av = [.str p0, .str ([0] : List UInt8)]) (A : HH g h [] F) : ∃ v h', Runs cfg g h 60 av v h' ∧ v = .int .i64 q0 ∧ HH g h' [] F := by
  refine runsQ1 (n := 8) (rs := [.tmp 4]) (by kernel_rfl) hc (by kernel_rfl) ?_
  clear hc
  unfold M_strings_Index_s1 at hm
  refine start (n := 8) [(0, .str p0), (1, .str ([0] : List UInt8))] (by kernel_rfl) (by kernel_rfl) ?_
  intro fr H
  refine aw_seq (by kernel_rfl) ?_
  refine aw_reg (id := 0) (n := 1) [(0, [])] (by kernel_rfl) (by kernel_rfl) ?_
  refine at_seg [(0, [])] [(0, .str p0), (1, .str ([0] : List UInt8))] H (noU_all rfl) (fun fr => by kernel_rfl) ?_
  intro fr H
  refine at_nil ?_
  show AW cfg 60 g (right (bodyC cfg.P 60)) fr h _
  refine aw_seq (by kernel_rfl) ?_
  refine aw_reg (id := 1) (n := 4) [(0, []), (1, []), (2, []), (3, [])] (by kernel_rfl) (by kernel_rfl) ?_
  refine at_seg [(0, []), (1, [])] [(5, .str p0), (6, .str ([0] : List UInt8))] H (noU_all rfl) (fun fr => by kernel_rfl) ?_
  intro fr H
  have A1 := A.cut 0
  obtain ⟨x1, hx, hm⟩ := bind_some hm
  obtain ⟨v1, h1, hr, rfl, A1⟩ := ok_stringslite_Index_s1 (av := [.str p0, .str ([0] : List UInt8)]) hx (by kernel_rfl) A1
  replace A : HH g h1 [] F := A.glue0 (n := 0) A1
  refine at_step (v := .int .i64 x1) (h1 := h1) [(7, .int .i64 x1)] H (fun fr => by kernel_rfl) (fun fr => Steps.call (by kernel_rfl) hr) ?_
  intro fr t H
  refine at_seg [(3, [])] [(4, .int .i64 x1)] H (noU_all rfl) (fun fr => by kernel_rfl) ?_
  intro fr H
  refine at_nil ?_
  show AW cfg 60 g (right (right (bodyC cfg.P 60))) fr h1 _
  refine aw_ret (by kernel_rfl) ?_
  have e1 := Option.some.inj hm
  subst e1
  refine ⟨.inl rfl, .int .i64 x1, resH H (fun fr => by kernel_rfl), ?_⟩
  exact ⟨rfl, A⟩
/-! ### strings.Contains -/
noncomputable def M_strings_Contains_s1 (p0 : List UInt8) : Option (Bool) :=
 (M_strings_Index_s1 p0).bind fun x1 => some (decide (x1 ≥ (0 : Int)))
theorem ok_strings_Contains_s1 {g : Gd} {h : AHeap} {F : List Ck} {p0 : List UInt8} {q0 : Bool} {av : List AVal} (hm : M_strings_Contains_s1 p0 = some q0) (hc : canL (cfg.still 37) av = [.str p0, .str ([0] : List UInt8)]) (A : HH g h [] F) : ∃ v h', Runs cfg g h 37 av v h' ∧ v = .bool q0 ∧ HH g h' [] F := by
  refine runsQ1 (n := 9) (rs := [.tmp 4]) (by kernel_rfl) hc (by kernel_rfl) ?_
  clear hc
  unfold M_strings_Contains_s1 at hm
  refine start (n := 9) [(0, .str p0), (1, .str ([0] : List UInt8))] (by kernel_rfl) (by kernel_rfl) ?_
  intro fr H
  refine aw_seq (by kernel_rfl) ?_
  refine aw_reg (id := 0) (n := 1) [(0, [])] (by kernel_rfl) (by kernel_rfl) ?_
  refine at_seg [(0, [])] [(0, .str p0), (1, .str ([0] : List UInt8))] H (noU_all rfl) (fun fr => by kernel_rfl) ?_
  intro fr H
  refine at_nil ?_
  show AW cfg 37 g (right (bodyC cfg.P 37)) fr h _
  refine aw_seq (by kernel_rfl) ?_
  refine aw_reg (id := 1) (n := 5) [(0, []), (1, []), (2, []), (3, []), (4, [])] (by kernel_rfl) (by kernel_rfl) ?_
  refine at_seg [(0, []), (1, [])] [(5, .str p0), (6, .str ([0] : List UInt8))] H (noU_all rfl) (fun fr => by kernel_rfl) ?_
  intro fr H
  have A1 := A.cut 0
  obtain ⟨x1, hx, hm⟩ := bind_some hm
  obtain ⟨v1, h1, hr, rfl, A1⟩ := ok_strings_Index_s1 (av := [.str p0, .str ([0] : List UInt8)]) hx (by kernel_rfl) A1
  replace A : HH g h1 [] F := A.glue0 (n := 0) A1
  refine at_step (v := .int .i64 x1) (h1 := h1) [(7, .int .i64 x1)] H (fun fr => by kernel_rfl) (fun fr => Steps.call (by kernel_rfl) hr) ?_
  intro fr t H
  refine at_seg [(3, []), (4, [])] [(4, .bool (decide (x1 ≥ (0 : Int))))] H (noU_all rfl) (fun fr => by kernel_rfl) ?_
  intro fr H
  refine at_nil ?_
  show AW cfg 37 g (right (right (bodyC cfg.P 37))) fr h1 _
  refine aw_ret (by kernel_rfl) ?_
  have e1 := Option.some.inj hm
  subst e1
  refine ⟨.inl rfl, .bool (decide (x1 ≥ (0 : Int))), resH H (fun fr => by kernel_rfl), ?_⟩
  exact ⟨rfl, A⟩
/-! ### strings.Lines -/
noncomputable def M_strings_Lines (p0 : List UInt8) : Option ((List UInt8)) :=
 some p0
theorem ok_strings_Lines {g : Gd} {h : AHeap} {F : List Ck} {p0 : List UInt8} {q0_10 : List UInt8} {av : List AVal} (hm : M_strings_Lines p0 = some q0_10) (hc : canL (cfg.still 40) av = [.str p0]) (A : HH g h [] F) : ∃ v h', Runs cfg g h 40 av v h' ∧ ∃ (bq0_10 : Nat), v = .func (.func 62) [] [.ptr (some (bq0_10, 0))] ∧ HH g h' [.obj bq0_10 (.cells none 2 [.str q0_10])] F := by
  refine runsQ1 (n := 4) (rs := [.tmp 2]) (by kernel_rfl) hc (by kernel_rfl) ?_
  clear hc
  unfold M_strings_Lines at hm
  refine start (n := 4) [(0, .str p0)] (by kernel_rfl) (by kernel_rfl) ?_
  intro fr H
  refine aw_seq (by kernel_rfl) ?_
  refine aw_reg (id := 0) (n := 2) [(0, []), (1, [])] (by kernel_rfl) (by kernel_rfl) ?_
  obtain ⟨h1, e1⟩ : ∃ x, x = h.push (.cells none 2 [.str p0]) := ⟨_, rfl⟩
  replace A := (A.push _).to e1
  refine at_step (v := .ptr (some (h.size, 0))) (h1 := h1) [(1, .ptr (some (h.size, 0)))] H (fun fr => by kernel_rfl) (fun fr => .of (s_n' (by kernel_rfl) (congrArg some e1.symm))) ?_
  intro fr t H
  refine at_seg [(1, [])] [(1, .ptr (some (h.size, 0)))] H (noU_all rfl) (fun fr => by kernel_rfl) ?_
  intro fr H
  refine at_nil ?_
  show AW cfg 40 g (right (bodyC cfg.P 40)) fr h1 _
  refine aw_seq (by kernel_rfl) ?_
  refine aw_reg (id := 1) (n := 2) [(0, []), (1, [])] (by kernel_rfl) (by kernel_rfl) ?_
  refine at_seg [(0, []), (1, [])] [(2, .func (.func 62) [] [.ptr (some (h.size, 0))])] H (noU_all rfl) (fun fr => by kernel_rfl) ?_
  intro fr H
  refine at_nil ?_
  show AW cfg 40 g (right (right (bodyC cfg.P 40))) fr h1 _
  refine aw_ret (by kernel_rfl) ?_
  have e1 := Option.some.inj hm
  subst e1
  refine ⟨.inl rfl, .func (.func 62) [] [.ptr (some (h.size, 0))], resH H (fun fr => by kernel_rfl), ?_⟩
  exact ⟨h.size, rfl, A⟩
/-! ### strings.IndexByte -/
noncomputable def M_strings_IndexByte (p0 : List UInt8) (p1 : Int) : Option (Int) :=
 (M_stringslite_IndexByte p0 p1).bind fun x1 => some x1
theorem ok_strings_IndexByte {g : Gd} {h : AHeap} {F : List Ck} {p0 : List UInt8} {p1 : Int} {q0 : Int} {av : List AVal} (hm : M_strings_IndexByte p0 p1 = some q0) (hc : canL (cfg.still 36) av = [.str p0, .int .u8 p1]) (A : HH g h [] F) : ∃ v h', Runs cfg g h 36 av v h' ∧ v = .int .i64 q0 ∧ HH g h' [] F := by
  refine runsQ1 (n := 8) (rs := [.tmp 4]) (by kernel_rfl) hc (by kernel_rfl) ?_
  clear hc
  unfold M_strings_IndexByte at hm
  refine start (n := 8) [(0, .str p0), (1, .int .u8 p1)] (by kernel_rfl) (by kernel_rfl) ?_
  intro fr H
  refine aw_seq (by kernel_rfl) ?_
  refine aw_reg (id := 0) (n := 1) [(0, [])] (by kernel_rfl) (by kernel_rfl) ?_
  refine at_seg [(0, [])] [(0, .str p0), (1, .int .u8 p1)] H (noU_all rfl) (fun fr => by kernel_rfl) ?_
  intro fr H
  refine at_nil ?_
  show AW cfg 36 g (right (bodyC cfg.P 36)) fr h _
  refine aw_seq (by kernel_rfl) ?_
  refine aw_reg (id := 1) (n := 4) [(0, []), (1, []), (2, []), (3, [])] (by kernel_rfl) (by kernel_rfl) ?_
  refine at_seg [(0, []), (1, [])] [(5, .str p0), (6, .int .u8 p1)] H (noU_all rfl) (fun fr => by kernel_rfl) ?_
  intro fr H
  have A1 := A.cut 0
  obtain ⟨x1, hx, hm⟩ := bind_some hm
  obtain ⟨v1, h1, hr, rfl, A1⟩ := ok_stringslite_IndexByte (av := [.str p0, .int .u8 p1]) hx (by kernel_rfl) A1
  replace A : HH g h1 [] F := A.glue0 (n := 0) A1
  refine at_step (v := .int .i64 x1) (h1 := h1) [(7, .int .i64 x1)] H (fun fr => by kernel_rfl) (fun fr => Steps.call (by kernel_rfl) hr) ?_
  intro fr t H
  refine at_seg [(3, [])] [(4, .int .i64 x1)] H (noU_all rfl) (fun fr => by kernel_rfl) ?_
  intro fr H
  refine at_nil ?_
  show AW cfg 36 g (right (right (bodyC cfg.P 36))) fr h1 _
  refine aw_ret (by kernel_rfl) ?_
  have e1 := Option.some.inj hm
  subst e1
  refine ⟨.inl rfl, .int .i64 x1, resH H (fun fr => by kernel_rfl), ?_⟩
  exact ⟨rfl, A⟩
/-! ### strings.Lines$1 -/
noncomputable def M_strings_Lines_1_s0_L0 {SY RY : Type} (Y : SY → (List UInt8) → Option (SY ⊕ RY)) (s : (List UInt8) × (SY ⊕ RY)) : Option (((List UInt8) × (SY ⊕ RY)) ⊕ (((List UInt8) × (SY ⊕ RY)) ⊕ ((List UInt8) × (SY ⊕ RY)))) :=
  match s with
  | (x1, y1) => iteB (decide ((x1.length : Int) > (0 : Int))) (((M_strings_IndexByte x1 (10 : Int)).bind fun x6 => iteB (decide (x6 ≥ (0 : Int))) ((subS x1 none (some (IntKind.i64.wrap (x6 + (1 : Int))))).bind fun x7 => (subS x1 (some (IntKind.i64.wrap (x6 + (1 : Int)))) none).bind fun x8 => some (x8, x7)) (some (([] : List UInt8), x1)) : Option (((List UInt8) × (List UInt8)))).bind fun (x4, x5) => (yld Y y1 x5).bind fun (x9, y4) => iteB (!x9) (some (.inr (.inr (x4, y4)))) (some (.inl (x4, y4)))) (some (.inr (.inl (x1, y1))))
noncomputable def M_strings_Lines_1_s0 {SY RY : Type} (Y : SY → (List UInt8) → Option (SY ⊕ RY)) (y : SY ⊕ RY) (p1 : List UInt8) : Option ((List UInt8) × (SY ⊕ RY)) :=
 (loop (M_strings_Lines_1_s0_L0 Y) (p1, y)).bind fun o1 => (match o1 with | .inl (x2, y2) => some (x2, y2) | .inr (x3, y3) => some (x3, y3))
theorem ok_strings_Lines_1_s0 {g : Gd} {h : AHeap} {F : List Ck} {SY RY : Type} {R : SY ⊕ RY → List Ck → Prop} {Y : SY → (List UInt8) → Option (SY ⊕ RY)} {y : SY ⊕ RY} {p1 : List UInt8} {l : Nat} {bp1 : Nat} {u0 : List UInt8} {yq : SY ⊕ RY} {av : List AVal} (hm : M_strings_Lines_1_s0 Y y p1 = some (u0, yq)) (hc : canL (cfg.still 62) av = [.yfn l, .ptr (some (bp1, 0))]) (hYR : YR cfg g l (fun x => [.str x]) Y R) (B : R y F) (A : HH g h [.obj bp1 (.cells none 2 [.str p1])] F) : ∃ v h', Runs cfg g h 62 av v h' ∧ v = .tuple [] ∧ ∃ F, R yq F ∧ HH g h' [.obj bp1 (.cells none 2 [.str u0])] F := by
  refine runsQ1 (n := 25) (rs := []) (by kernel_rfl) hc (by kernel_rfl) ?_
  clear hc
  unfold M_strings_Lines_1_s0 at hm
  refine start (n := 25) [(0, .yfn l), (1, .ptr (some (bp1, 0)))] (by kernel_rfl) (by kernel_rfl) ?_
  intro fr H
  refine aw_block (id := 0) (by kernel_rfl) ?_
  obtain ⟨o1, ho, hm⟩ := bind_some hm
  refine aw_mono (Q' := fun e fr' h' => (∃ (x2 : List UInt8) (y2 : SY ⊕ RY), e = .exit 0 ∧ .inl (x2, y2) = o1 ∧ Has fr' 25 [] ∧ ∃ F, R y2 F ∧ HH g h' [.obj bp1 (.cells none 2 [.str x2])] F) ∨ (∃ (x3 : List UInt8) (y3 : SY ⊕ RY), e = .ret ∧ .inr (x3, y3) = o1 ∧ Has fr' 25 [] ∧ ∃ F, R y3 F ∧ HH g h' [.obj bp1 (.cells none 2 [.str x3])] F) ∨ False) ?_ ?_
  · refine aw_loop (by kernel_rfl) (fun (s : (List UInt8) × (SY ⊕ RY)) fr' h' => ∃ (x1 : List UInt8) (y1 : SY ⊕ RY), (x1, y1) = s ∧ Has fr' 25 [(0, .yfn l), (1, .ptr (some (bp1, 0)))] ∧ ∃ F, R y1 F ∧ HH g h' [.obj bp1 (.cells none 2 [.str x1])] F) ho ⟨p1, y, rfl, H.less _ (fun fr => by kernel_rfl), ⟨F, B, A⟩⟩ ?_
    clear ho hm H A
    intro s q fr h1 hI hm
    obtain ⟨x1, y1, rfl, H, ⟨F, B, A⟩⟩ := hI
    unfold M_strings_Lines_1_s0_L0 at hm
    refine aw_seq (by kernel_rfl) ?_
    refine aw_seq (by kernel_rfl) ?_
    refine aw_reg (id := 0) (n := 3) [(0, []), (1, []), (2, [])] (by kernel_rfl) (by kernel_rfl) ?_
    refine at_step (v := .str x1) (h1 := h1) [(0, .yfn l), (1, .ptr (some (bp1, 0))), (5, .str x1)] H (fun fr => by kernel_rfl) (fun fr => .of (s_ld (by kernel_rfl) (A.ld1 0 rfl (o := 0) rfl))) ?_
    intro fr t H
    refine at_seg [(1, []), (2, [])] [(0, .yfn l), (1, .ptr (some (bp1, 0))), (7, .bool (decide ((x1.length : Int) > (0 : Int))))] H (noU_all rfl) (fun fr => by kernel_rfl) ?_
    intro fr H
    refine at_nil ?_
    show AW cfg 62 g (right (left (left (left (bodyC cfg.P 62))))) fr h1 _
    rcases iteB_some hm with ⟨hb, hm⟩ | ⟨hb, hm⟩
    · replace H := H.know 7 hb (by kernel_rfl)
      refine aw_true (x := .tmp 7) (by kernel_rfl) H (fun fr => by kernel_rfl) ?_
      refine aw_skip (by kernel_rfl) ?_
      show AW cfg 62 g (right (left (left (bodyC cfg.P 62)))) fr h1 _
      refine aw_block (id := 1) (by kernel_rfl) ?_
      refine aw_seq (by kernel_rfl) ?_
      refine aw_reg (id := 1) (n := 1) [(0, [])] (by kernel_rfl) (by kernel_rfl) ?_
      refine at_seg [(0, [])] [(0, .yfn l), (1, .ptr (some (bp1, 0)))] H (noU_all rfl) (fun fr => by kernel_rfl) ?_
      intro fr H
      refine at_nil ?_
      show AW cfg 62 g (right (left (right (left (left (bodyC cfg.P 62)))))) fr h1 _
      refine aw_seq (by kernel_rfl) ?_
      obtain ⟨o2, ho, hm⟩ := bind_some hm
      refine aw_mono (Q' := fun e fr' h' => (∃ (x4 : List UInt8) (x5 : List UInt8), e = .normal ∧ (x4, x5) = o2 ∧ Has fr' 25 [(0, .yfn l), (1, .ptr (some (bp1, 0))), (3, .str x5)] ∧ ∃ F, R y1 F ∧ HH g h' [.obj bp1 (.cells none 2 [.str x4])] F) ∨ False) ?_ ?_
      · replace hm := ho
        clear ho
        refine aw_seq (by kernel_rfl) ?_
        refine aw_reg (id := 2) (n := 3) [(0, []), (1, []), (2, [])] (by kernel_rfl) (by kernel_rfl) ?_
        refine at_step (v := .str x1) (h1 := h1) [(0, .yfn l), (1, .ptr (some (bp1, 0))), (8, .str x1)] H (fun fr => by kernel_rfl) (fun fr => .of (s_ld (by kernel_rfl) (A.ld1 0 rfl (o := 0) rfl))) ?_
        intro fr t H
        have A1 := A.cut 0
        obtain ⟨x6, hx, hm⟩ := bind_some hm
        obtain ⟨v1, h2, hr, rfl, A1⟩ := ok_strings_IndexByte (av := [.str x1, .int .u8 (10 : Int)]) hx (by kernel_rfl) A1
        replace A : HH g h2 [.obj bp1 (.cells none 2 [.str x1])] F := A.glue0 (n := 0) A1
        refine at_step (v := .int .i64 x6) (h1 := h2) [(0, .yfn l), (1, .ptr (some (bp1, 0))), (9, .int .i64 x6)] H (fun fr => by kernel_rfl) (fun fr => Steps.call (by kernel_rfl) hr) ?_
        intro fr t H
        refine at_seg [(2, [])] [(0, .yfn l), (1, .ptr (some (bp1, 0))), (4, .int .i64 x6)] H (noU_all rfl) (fun fr => by kernel_rfl) ?_
        intro fr H
        refine at_nil ?_
        show AW cfg 62 g (right (left (right (left (right (left (left (bodyC cfg.P 62)))))))) fr h2 _
        refine aw_seq (by kernel_rfl) ?_
        refine aw_reg (id := 3) (n := 2) [(0, []), (1, [])] (by kernel_rfl) (by kernel_rfl) ?_
        refine at_seg [(0, []), (1, [])] [(0, .yfn l), (1, .ptr (some (bp1, 0))), (4, .int .i64 x6), (11, .bool (decide (x6 ≥ (0 : Int))))] H (noU_all rfl) (fun fr => by kernel_rfl) ?_
        intro fr H
        refine at_nil ?_
        show AW cfg 62 g (right (right (left (right (left (right (left (left (bodyC cfg.P 62))))))))) fr h2 _
        rcases iteB_some hm with ⟨hb, hm⟩ | ⟨hb, hm⟩
        · replace H := H.know 11 hb (by kernel_rfl)
          refine aw_true (x := .tmp 11) (by kernel_rfl) H (fun fr => by kernel_rfl) ?_
          refine aw_draw (id := 4) (n := 10) (by kernel_rfl) [(0, []), (1, []), (2, []), (3, []), (4, []), (5, []), (6, []), (7, []), (8, []), (9, [])] (by kernel_rfl) ?_
          refine at_step (v := .str x1) (h1 := h2) [(0, .yfn l), (1, .ptr (some (bp1, 0))), (4, .int .i64 x6), (12, .str x1)] H (fun fr => by kernel_rfl) (fun fr => .of (s_ld (by kernel_rfl) (A.ld1 0 rfl (o := 0) rfl))) ?_
          intro fr t H
          refine at_seg [(1, []), (2, [])] [(0, .yfn l), (1, .ptr (some (bp1, 0))), (4, .int .i64 x6), (12, .str x1), (14, .int .i64 (IntKind.i64.wrap (x6 + (1 : Int))))] H (noU_all rfl) (fun fr => by kernel_rfl) ?_
          intro fr H
          obtain ⟨x7, hx, hm⟩ := bind_some hm
          refine at_step (v := .str x7) (h1 := h2) [(0, .yfn l), (1, .ptr (some (bp1, 0))), (4, .int .i64 x6), (15, .str x7)] H (fun fr => by kernel_rfl) (fun fr => .of (s_subS (k := .i64) (k' := .i64) (lo := none) (hi := (some (IntKind.i64.wrap (x6 + (1 : Int))))) (by kernel_rfl) hx)) ?_
          intro fr t H
          refine at_step (v := .str x1) (h1 := h2) [(0, .yfn l), (1, .ptr (some (bp1, 0))), (4, .int .i64 x6), (15, .str x7), (16, .str x1)] H (fun fr => by kernel_rfl) (fun fr => .of (s_ld (by kernel_rfl) (A.ld1 0 rfl (o := 0) rfl))) ?_
          intro fr t H
          refine at_seg [(5, []), (6, [])] [(0, .yfn l), (1, .ptr (some (bp1, 0))), (15, .str x7), (16, .str x1), (18, .int .i64 (IntKind.i64.wrap (x6 + (1 : Int))))] H (noU_all rfl) (fun fr => by kernel_rfl) ?_
          intro fr H
          obtain ⟨x8, hx, hm⟩ := bind_some hm
          refine at_step (v := .str x8) (h1 := h2) [(0, .yfn l), (1, .ptr (some (bp1, 0))), (15, .str x7), (19, .str x8)] H (fun fr => by kernel_rfl) (fun fr => .of (s_subS (k := .i64) (k' := .i64) (lo := (some (IntKind.i64.wrap (x6 + (1 : Int))))) (hi := none) (by kernel_rfl) hx)) ?_
          intro fr t H
          refine at_seg [(8, [])] [(0, .yfn l), (1, .ptr (some (bp1, 0))), (3, .str x7), (19, .str x8)] H (noU_all rfl) (fun fr => by kernel_rfl) ?_
          intro fr H
          obtain ⟨h3, hx, A1⟩ := A.st 0 rfl (o := 0) (new := [.str x8]) (ds := [.str x8]) (Nat.le_of_ble_eq_true rfl) rfl rfl
          replace A : HH g h3 [.obj bp1 (.cells none 2 [.str x8])] F := A1
          refine at_step (v := .tuple []) (h1 := h3) [(0, .yfn l), (1, .ptr (some (bp1, 0))), (3, .str x7)] H (fun fr => by kernel_rfl) (fun fr => .of (s_st (by kernel_rfl) rfl hx)) ?_
          intro fr t H
          refine at_nil ?_
          exact Or.inl ⟨x8, x7, rfl, Option.some.inj hm, H.less _ (fun fr => by kernel_rfl), ⟨F, B, A⟩⟩
        · replace H := H.know 11 hb (by kernel_rfl)
          refine aw_false (x := .tmp 11) (by kernel_rfl) H (fun fr => by kernel_rfl) ?_
          refine aw_reg (id := 5) (n := 3) [(0, []), (1, []), (2, [])] (by kernel_rfl) (by kernel_rfl) ?_
          refine at_step (v := .str x1) (h1 := h2) [(0, .yfn l), (1, .ptr (some (bp1, 0))), (20, .str x1)] H (fun fr => by kernel_rfl) (fun fr => .of (s_ld (by kernel_rfl) (A.ld1 0 rfl (o := 0) rfl))) ?_
          intro fr t H
          refine at_seg [(1, [])] [(0, .yfn l), (1, .ptr (some (bp1, 0))), (3, .str x1)] H (noU_all rfl) (fun fr => by kernel_rfl) ?_
          intro fr H
          obtain ⟨h4, hx, A1⟩ := A.st 0 rfl (o := 0) (new := [.str ([] : List UInt8)]) (ds := [.str ([] : List UInt8)]) (Nat.le_of_ble_eq_true rfl) rfl rfl
          replace A : HH g h4 [.obj bp1 (.cells none 2 [.str ([] : List UInt8)])] F := A1
          refine at_step (v := .tuple []) (h1 := h4) [(0, .yfn l), (1, .ptr (some (bp1, 0))), (3, .str x1)] H (fun fr => by kernel_rfl) (fun fr => .of (s_st (by kernel_rfl) rfl hx)) ?_
          intro fr t H
          refine at_nil ?_
          exact Or.inl ⟨([] : List UInt8), x1, rfl, Option.some.inj hm, H.less _ (fun fr => by kernel_rfl), ⟨F, B, A⟩⟩
      · clear ho
        clear A
        intro e fr h5 hQ
        rcases hQ with ⟨x4, x5, rfl, rfl, H, ⟨F, B, A⟩⟩ | hF
        · skip
          show AW cfg 62 g (right (right (left (right (left (left (bodyC cfg.P 62))))))) fr h5 _
          refine aw_seq (by kernel_rfl) ?_
          refine aw_reg (id := 6) (n := 4) [(0, []), (1, []), (2, []), (3, [])] (by kernel_rfl) (by kernel_rfl) ?_
          refine at_seg [(0, []), (1, [])] [(0, .yfn l), (1, .ptr (some (bp1, 0))), (21, .yfn l), (22, .str x5)] H (noU_all rfl) (fun fr => by kernel_rfl) ?_
          intro fr H
          obtain ⟨⟨x9, y4⟩, hx, hm⟩ := bind_some hm
          obtain ⟨h6, F, hr, B, A⟩ := hYR.yld (pr := []) .nil A B hx
          refine at_step (v := .bool x9) (h1 := h6) [(0, .yfn l), (1, .ptr (some (bp1, 0))), (23, .bool x9)] H (fun fr => by kernel_rfl) (fun fr => Steps.round (by kernel_rfl) hr) ?_
          intro fr t H
          refine at_seg [(3, [])] [(0, .yfn l), (1, .ptr (some (bp1, 0))), (24, .bool (!x9))] H (noU_all rfl) (fun fr => by kernel_rfl) ?_
          intro fr H
          refine at_nil ?_
          show AW cfg 62 g (right (right (right (left (right (left (left (bodyC cfg.P 62)))))))) fr h6 _
          rcases iteB_some hm with ⟨hb, hm⟩ | ⟨hb, hm⟩
          · replace H := H.know 24 hb (by kernel_rfl)
            refine aw_true (x := .tmp 24) (by kernel_rfl) H (fun fr => by kernel_rfl) ?_
            refine aw_ret (by kernel_rfl) ?_
            exact Exists.intro _ (And.intro (Option.some.inj hm).symm (fun e => Or.inr (Or.inl ⟨x4, y4, rfl, e, H.less _ (fun fr => by kernel_rfl), ⟨F, B, A⟩⟩)))
          · replace H := H.know 24 hb (by kernel_rfl)
            refine aw_false (x := .tmp 24) (by kernel_rfl) H (fun fr => by kernel_rfl) ?_
            refine aw_skip (by kernel_rfl) ?_
            exact Exists.intro (x4, y4) (And.intro (Option.some.inj hm).symm ⟨x4, y4, rfl, H.less _ (fun fr => by kernel_rfl), ⟨F, B, A⟩⟩)
        · exact hF.elim
    · replace H := H.know 7 hb (by kernel_rfl)
      refine aw_false (x := .tmp 7) (by kernel_rfl) H (fun fr => by kernel_rfl) ?_
      refine aw_exit (i := 0) (by kernel_rfl) ?_
      exact Exists.intro _ (And.intro (Option.some.inj hm).symm (fun e => Or.inl ⟨x1, y1, rfl, e, H.less _ (fun fr => by kernel_rfl), ⟨F, B, A⟩⟩))
  · clear ho
    clear A
    intro e fr h7 hQ
    rcases hQ with ⟨x2, y2, rfl, rfl, H, ⟨F, B, A⟩⟩ | ⟨x3, y3, rfl, rfl, H, ⟨F, B, A⟩⟩ | hF
    · skip
      have e0 := Option.some.inj hm
      obtain ⟨y0, z0⟩ := Prod.mk.inj e0
      subst y0
      subst z0
      refine ⟨.inr rfl, .tuple [], resH H (fun fr => by kernel_rfl), ?_⟩
      exact ⟨rfl, ⟨F, B, A⟩⟩
    · skip
      have e0 := Option.some.inj hm
      obtain ⟨y0, z0⟩ := Prod.mk.inj e0
      subst y0
      subst z0
      refine ⟨.inl rfl, .tuple [], resH H (fun fr => by kernel_rfl), ?_⟩
      exact ⟨rfl, ⟨F, B, A⟩⟩
    · exact hF.elim
/-! ### strings.TrimSuffix -/
noncomputable def M_strings_TrimSuffix (p0 : List UInt8) (p1 : List UInt8) : Option ((List UInt8)) :=
 (M_stringslite_TrimSuffix p0 p1).bind fun x1 => some x1
theorem ok_strings_TrimSuffix {g : Gd} {h : AHeap} {F : List Ck} {p0 : List UInt8} {p1 : List UInt8} {q0 : List UInt8} {av : List AVal} (hm : M_strings_TrimSuffix p0 p1 = some q0) (hc : canL (cfg.still 41) av = [.str p0, .str p1]) (A : HH g h [] F) : ∃ v h', Runs cfg g h 41 av v h' ∧ v = .str q0 ∧ HH g h' [] F := by
  refine runsQ1 (n := 8) (rs := [.tmp 4]) (by kernel_rfl) hc (by kernel_rfl) ?_
  clear hc
  unfold M_strings_TrimSuffix at hm
  refine start (n := 8) [(0, .str p0), (1, .str p1)] (by kernel_rfl) (by kernel_rfl) ?_
  intro fr H
  refine aw_seq (by kernel_rfl) ?_
  refine aw_reg (id := 0) (n := 1) [(0, [])] (by kernel_rfl) (by kernel_rfl) ?_
  refine at_seg [(0, [])] [(0, .str p0), (1, .str p1)] H (noU_all rfl) (fun fr => by kernel_rfl) ?_
  intro fr H
  refine at_nil ?_
  show AW cfg 41 g (right (bodyC cfg.P 41)) fr h _
  refine aw_seq (by kernel_rfl) ?_
  refine aw_reg (id := 1) (n := 4) [(0, []), (1, []), (2, []), (3, [])] (by kernel_rfl) (by kernel_rfl) ?_
  refine at_seg [(0, []), (1, [])] [(5, .str p0), (6, .str p1)] H (noU_all rfl) (fun fr => by kernel_rfl) ?_
  intro fr H
  have A1 := A.cut 0
  obtain ⟨x1, hx, hm⟩ := bind_some hm
  obtain ⟨v1, h1, hr, rfl, A1⟩ := ok_stringslite_TrimSuffix (av := [.str p0, .str p1]) hx (by kernel_rfl) A1
  replace A : HH g h1 [] F := A.glue0 (n := 0) A1
  refine at_step (v := .str x1) (h1 := h1) [(7, .str x1)] H (fun fr => by kernel_rfl) (fun fr => Steps.call (by kernel_rfl) hr) ?_
  intro fr t H
  refine at_seg [(3, [])] [(4, .str x1)] H (noU_all rfl) (fun fr => by kernel_rfl) ?_
  intro fr H
  refine at_nil ?_
  show AW cfg 41 g (right (right (bodyC cfg.P 41))) fr h1 _
  refine aw_ret (by kernel_rfl) ?_
  have e1 := Option.some.inj hm
  subst e1
  refine ⟨.inl rfl, .str x1, resH H (fun fr => by kernel_rfl), ?_⟩
  exact ⟨rfl, A⟩
end Go.Av.L
