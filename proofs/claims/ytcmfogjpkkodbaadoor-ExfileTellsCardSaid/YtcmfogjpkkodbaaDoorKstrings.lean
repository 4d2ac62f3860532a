/-
  Models of functions of package strings, and that the abstract run tells them. Written by lift2.py.
-/
import Derived.Test.YtcmfogjpkkodbaaDoorKCfg
namespace Go.Av.L
open Go.Av
set_option linter.unusedVariables false
set_option linter.unusedSimpArgs false
/-! ### strings.Lines -/
noncomputable def M_strings_Lines (p0 : List UInt8) : Option ((List UInt8)) :=
 some p0
theorem ok_strings_Lines {g : Gd} {h : AHeap} {F : List Ck} {p0 : List UInt8} {q0_10 : List UInt8} {av : List AVal} (hm : M_strings_Lines p0 = some q0_10) (hc : canL (cfg.still 28) av = [.str p0]) (A : HH g h [] F) : ∃ v h', Runs cfg g h 28 av v h' ∧ ∃ (bq0_10 : Nat), v = .func (.func 47) [] [.ptr (some (bq0_10, 0))] ∧ HH g h' [.obj bq0_10 (.cells none 2 [.str q0_10])] F := by
  refine runsQ1 (n := 4) (rs := [.tmp 2]) (by kernel_rfl) hc (by kernel_rfl) ?_
  clear hc
  unfold M_strings_Lines at hm
  refine start (n := 4) [(0, .str p0)] (by kernel_rfl) (by kernel_rfl) ?_
  intro fr H
  refine aw_seq (by kernel_rfl) ?_
  refine aw_reg (id := 0) (n := 2) [(0, []), (1, [])] (by kernel_rfl) (by kernel_rfl) ?_
  obtain ⟨h1, e1⟩ : ∃ x, x = h.push (.cells none 2 [.str p0]) := ⟨_, rfl⟩
  replace A := (A.push _).to e1
  refine at_step (v := .ptr (some (h.size, 0))) (h1 := h1) [(1, .ptr (some (h.size, 0)))] H (fun fr => by kernel_rfl) (fun fr => .of (s_n' (by kernel_rfl) (congrArg some e1.symm))) ?_
  intro fr t H
  refine at_seg [(1, [])] [(1, .ptr (some (h.size, 0)))] H (noU_all rfl) (fun fr => by kernel_rfl) ?_
  intro fr H
  refine at_nil ?_
  show AW cfg 28 g (right (bodyC cfg.P 28)) fr h1 _
  refine aw_seq (by kernel_rfl) ?_
  refine aw_reg (id := 1) (n := 2) [(0, []), (1, [])] (by kernel_rfl) (by kernel_rfl) ?_
  refine at_seg [(0, []), (1, [])] [(2, .func (.func 47) [] [.ptr (some (h.size, 0))])] H (noU_all rfl) (fun fr => by kernel_rfl) ?_
  intro fr H
  refine at_nil ?_
  show AW cfg 28 g (right (right (bodyC cfg.P 28))) fr h1 _
  refine aw_ret (by kernel_rfl) ?_
  have e1 := Option.some.inj hm
  subst e1
  refine ⟨.inl rfl, .func (.func 47) [] [.ptr (some (h.size, 0))], resH H (fun fr => by kernel_rfl), ?_⟩
  exact ⟨h.size, rfl, A⟩
/-! ### strings.splitSeq -/
noncomputable def M_strings_splitSeq_s0 (p0 : List UInt8) : Option ((List UInt8)) :=
 some p0
theorem ok_strings_splitSeq_s0 {g : Gd} {h : AHeap} {F : List Ck} {p0 : List UInt8} {q0_11 : List UInt8} {av : List AVal} (hm : M_strings_splitSeq_s0 p0 = some q0_11) (hc : canL (cfg.still 51) av = [.str p0, .str ([0] : List UInt8), .int .i64 (0 : Int)]) (A : HH g h [] F) : ∃ v h', Runs cfg g h 51 av v h' ∧ ∃ (bq0_10 : Nat) (bq0_11 : Nat) (bq0_12 : Nat), v = .func (.func 63) [] [.ptr (some (bq0_10, 0)), .ptr (some (bq0_11, 0)), .ptr (some (bq0_12, 0))] ∧ HH g h' [.obj bq0_10 (.cells none 2 [.str ([0] : List UInt8)]), .obj bq0_11 (.cells none 2 [.str q0_11]), .obj bq0_12 (.cells none 2 [.int .i64 (0 : Int)])] F := by
  refine runsQ1 (n := 8) (rs := [.tmp 6]) (by kernel_rfl) hc (by kernel_rfl) ?_
  clear hc
  unfold M_strings_splitSeq_s0 at hm
  refine start (n := 8) [(0, .str p0), (1, .str ([0] : List UInt8)), (2, .int .i64 (0 : Int))] (by kernel_rfl) (by kernel_rfl) ?_
  intro fr H
  refine aw_seq (by kernel_rfl) ?_
  refine aw_reg (id := 0) (n := 4) [(0, []), (1, []), (2, []), (3, [])] (by kernel_rfl) (by kernel_rfl) ?_
  obtain ⟨h1, e1⟩ : ∃ x, x = h.push (.cells none 2 [.str p0]) := ⟨_, rfl⟩
  replace A := (A.push _).to e1
  refine at_step (v := .ptr (some (h.size, 0))) (h1 := h1) [(1, .str ([0] : List UInt8)), (2, .int .i64 (0 : Int)), (3, .ptr (some (h.size, 0)))] H (fun fr => by kernel_rfl) (fun fr => .of (s_n' (by kernel_rfl) (congrArg some e1.symm))) ?_
  intro fr t H
  obtain ⟨h2, e2⟩ : ∃ x, x = h1.push (.cells none 2 [.str ([0] : List UInt8)]) := ⟨_, rfl⟩
  replace A := (A.push _).to e2
  refine at_step (v := .ptr (some (h1.size, 0))) (h1 := h2) [(2, .int .i64 (0 : Int)), (3, .ptr (some (h.size, 0))), (4, .ptr (some (h1.size, 0)))] H (fun fr => by kernel_rfl) (fun fr => .of (s_n' (by kernel_rfl) (congrArg some e2.symm))) ?_
  intro fr t H
  obtain ⟨h3, e3⟩ : ∃ x, x = h2.push (.cells none 2 [.int .i64 (0 : Int)]) := ⟨_, rfl⟩
  replace A := (A.push _).to e3
  refine at_step (v := .ptr (some (h2.size, 0))) (h1 := h3) [(3, .ptr (some (h.size, 0))), (4, .ptr (some (h1.size, 0))), (5, .ptr (some (h2.size, 0)))] H (fun fr => by kernel_rfl) (fun fr => .of (s_n' (by kernel_rfl) (congrArg some e3.symm))) ?_
  intro fr t H
  refine at_seg [(3, [])] [(3, .ptr (some (h.size, 0))), (4, .ptr (some (h1.size, 0))), (5, .ptr (some (h2.size, 0)))] H (noU_all rfl) (fun fr => by kernel_rfl) ?_
  intro fr H
  refine at_nil ?_
  show AW cfg 51 g (right (bodyC cfg.P 51)) fr h3 _
  refine aw_seq (by kernel_rfl) ?_
  refine aw_reg (id := 1) (n := 2) [(0, []), (1, [])] (by kernel_rfl) (by kernel_rfl) ?_
  refine at_seg [(0, []), (1, [])] [(6, .func (.func 63) [] [.ptr (some (h1.size, 0)), .ptr (some (h.size, 0)), .ptr (some (h2.size, 0))])] H (noU_all rfl) (fun fr => by kernel_rfl) ?_
  intro fr H
  refine at_nil ?_
  show AW cfg 51 g (right (right (bodyC cfg.P 51))) fr h3 _
  refine aw_ret (by kernel_rfl) ?_
  have e1 := Option.some.inj hm
  subst e1
  refine ⟨.inl rfl, .func (.func 63) [] [.ptr (some (h1.size, 0)), .ptr (some (h.size, 0)), .ptr (some (h2.size, 0))], resH H (fun fr => by kernel_rfl), ?_⟩
  replace A : HH g h3 [.obj h1.size (.cells none 2 [.str ([0] : List UInt8)]), .obj h.size (.cells none 2 [.str p0]), .obj h2.size (.cells none 2 [.int .i64 (0 : Int)])] F := (((A.front 0 rfl).front 2 rfl).front 2 rfl)
  exact ⟨h1.size, h.size, h2.size, rfl, A⟩
/-! ### strings.SplitSeq -/
noncomputable def M_strings_SplitSeq_s0 (p0 : List UInt8) : Option ((List UInt8)) :=
 (M_strings_splitSeq_s0 p0).bind fun x1_11 => some x1_11
theorem ok_strings_SplitSeq_s0 {g : Gd} {h : AHeap} {F : List Ck} {p0 : List UInt8} {q0_11 : List UInt8} {av : List AVal} (hm : M_strings_SplitSeq_s0 p0 = some q0_11) (hc : canL (cfg.still 32) av = [.str p0, .str ([0] : List UInt8)]) (A : HH g h [] F) : ∃ v h', Runs cfg g h 32 av v h' ∧ ∃ (bq0_10 : Nat) (bq0_11 : Nat) (bq0_12 : Nat), v = .func (.func 63) [] [.ptr (some (bq0_10, 0)), .ptr (some (bq0_11, 0)), .ptr (some (bq0_12, 0))] ∧ HH g h' [.obj bq0_10 (.cells none 2 [.str ([0] : List UInt8)]), .obj bq0_11 (.cells none 2 [.str q0_11]), .obj bq0_12 (.cells none 2 [.int .i64 (0 : Int)])] F := by
  refine runsQ1 (n := 8) (rs := [.tmp 4]) (by kernel_rfl) hc (by kernel_rfl) ?_
  clear hc
  unfold M_strings_SplitSeq_s0 at hm
  refine start (n := 8) [(0, .str p0), (1, .str ([0] : List UInt8))] (by kernel_rfl) (by kernel_rfl) ?_
  intro fr H
  refine aw_seq (by kernel_rfl) ?_
  refine aw_reg (id := 0) (n := 1) [(0, [])] (by kernel_rfl) (by kernel_rfl) ?_
  refine at_seg [(0, [])] [(0, .str p0), (1, .str ([0] : List UInt8))] H (noU_all rfl) (fun fr => by kernel_rfl) ?_
  intro fr H
  refine at_nil ?_
  show AW cfg 32 g (right (bodyC cfg.P 32)) fr h _
  refine aw_seq (by kernel_rfl) ?_
  refine aw_reg (id := 1) (n := 4) [(0, []), (1, []), (2, []), (3, [])] (by kernel_rfl) (by kernel_rfl) ?_
  refine at_seg [(0, []), (1, [])] [(5, .str p0), (6, .str ([0] : List UInt8))] H (noU_all rfl) (fun fr => by kernel_rfl) ?_
  intro fr H
  have A1 := A.cut 0
  obtain ⟨x1_11, hx, hm⟩ := bind_some hm
  obtain ⟨v1, h1, hr, bqw1_10, bqw1_11, bqw1_12, rfl, A1⟩ := ok_strings_splitSeq_s0 (av := [.str p0, .str ([0] : List UInt8), .int .i64 (0 : Int)]) hx (by kernel_rfl) A1
  replace A : HH g h1 [.obj bqw1_10 (.cells none 2 [.str ([0] : List UInt8)]), .obj bqw1_11 (.cells none 2 [.str x1_11]), .obj bqw1_12 (.cells none 2 [.int .i64 (0 : Int)])] F := A.glue0 (n := 0) A1
  refine at_step (v := .func (.func 63) [] [.ptr (some (bqw1_10, 0)), .ptr (some (bqw1_11, 0)), .ptr (some (bqw1_12, 0))]) (h1 := h1) [(7, .func (.func 63) [] [.ptr (some (bqw1_10, 0)), .ptr (some (bqw1_11, 0)), .ptr (some (bqw1_12, 0))])] H (fun fr => by kernel_rfl) (fun fr => Steps.call (by kernel_rfl) hr) ?_
  intro fr t H
  refine at_seg [(3, [])] [(4, .func (.func 63) [] [.ptr (some (bqw1_10, 0)), .ptr (some (bqw1_11, 0)), .ptr (some (bqw1_12, 0))])] H (noU_all rfl) (fun fr => by kernel_rfl) ?_
  intro fr H
  refine at_nil ?_
  show AW cfg 32 g (right (right (bodyC cfg.P 32))) fr h1 _
  refine aw_ret (by kernel_rfl) ?_
  have e1 := Option.some.inj hm
  subst e1
  refine ⟨.inl rfl, .func (.func 63) [] [.ptr (some (bqw1_10, 0)), .ptr (some (bqw1_11, 0)), .ptr (some (bqw1_12, 0))], resH H (fun fr => by kernel_rfl), ?_⟩
  exact ⟨bqw1_10, bqw1_11, bqw1_12, rfl, A⟩
end Go.Av.L
