/-
  Models of functions, and that the abstract run tells them. Written by lift2.py.
-/
import Derived.Test.YtcmfogjpkkodbaaKCfg
import Derived.Test.YtcmfogjpkkodbaaK0
import Derived.Test.YtcmfogjpkkodbaaK1
import Derived.Test.YtcmfogjpkkodbaaK2
import Derived.Test.YtcmfogjpkkodbaaK3
namespace Go.Av.L
open Go.Av Go.Lib
set_option maxRecDepth 10000
set_option linter.unusedVariables false
set_option linter.unusedSimpArgs false
/-! ### boulter/delta.Of -/
noncomputable def M_delta_Of_L0 (p0 : List S_api_Member) (p1 : List S_api_Member) (x2 : List ((List UInt8) × Int)) (s : (List (List UInt8)) × (List (List UInt8)) × (List ((List UInt8) × Int)) × Int) : Option (((List (List UInt8)) × (List (List UInt8)) × (List ((List UInt8) × Int)) × Int) ⊕ (((List (List UInt8)) × (List (List UInt8)) × (List ((List UInt8) × Int))))) :=
  match s with
  | (x3, x4, x5, x6) => iteB (decide (x6 < ((sortT (x2.map Prod.fst)).length : Int))) ((ixV (sortT (x2.map Prod.fst)) x6).bind fun x10 => (iteB (!((mfind x5 x10).isSome)) (need (okN 16 (x3.length + ([x10] : List (List UInt8)).length)) <| some ((x3 ++ ([x10] : List (List UInt8))), x4)) ((ixV p0 ((mfind x5 x10).getD (0 : Int))).bind fun x13 => (ixV p1 ((mfind x2 x10).getD (0 : Int))).bind fun x14 => (M_archive_Same x13 x14).bind fun x15 => iteB (!x15) (need (okN 16 (x4.length + ([x10] : List (List UInt8)).length)) <| some (x3, (x4 ++ ([x10] : List (List UInt8))))) (some (x3, x4))) : Option (((List (List UInt8)) × (List (List UInt8))))).bind fun (x11, x12) => some (.inl (x11, x12, (mdel x5 x10), IntKind.i64.wrap (x6 + (1 : Int))))) (some (.inr (x3, x4, x5)))
noncomputable def M_delta_Of (p0 : List S_api_Member) (p1 : List S_api_Member) : Option (S_delta_Diff) :=
 (M_delta_places p0).bind fun x1 => (M_delta_places p1).bind fun x2 => need (keysOk (x2.map Prod.fst)) <| (loop (M_delta_Of_L0 p0 p1 x2) (([] : List (List UInt8)), ([] : List (List UInt8)), x1, (0 : Int))).bind fun (x7, x8, x9) => need (keysOk (x9.map Prod.fst)) <| some (⟨x7, (sortT (x9.map Prod.fst)), x8⟩ : S_delta_Diff)
theorem ok_delta_Of {g : Gd} {h : AHeap} {F : List Ck} {p0 : List S_api_Member} {p1 : List S_api_Member} {q0 : S_delta_Diff} {av : List AVal} (hm : M_delta_Of p0 p1 = some q0) (hc : canL (cfg.still 25) av = [vs e_S_api_Member p0, vs e_S_api_Member p1]) (A : HH g h [] F) : ∃ v h', Runs cfg g h 25 av v h' ∧ v = .agg [vs eS q0.Added, vs eS q0.Removed, vs eS q0.Changed] ∧ HH g h' [] F := by
  refine runsQ7 (n := 66) (rs := [.cell 4 41]) (by kernel_rfl) hc (by kernel_rfl) ?_
  clear hc
  unfold M_delta_Of at hm
  refine start (n := 66) [(0, vs e_S_api_Member p0), (1, vs e_S_api_Member p1)] (by kernel_rfl) (by kernel_rfl) ?_
  intro fr H
  refine aw_seq (by kernel_rfl) ?_
  refine aw_reg (id := 0) (n := 1) [(0, [])] (by kernel_rfl) (by kernel_rfl) ?_
  obtain ⟨h1, e1⟩ : ∃ x, x = h.push (.cells none 2 [.slice none 0, .slice none 0, .slice none 0]) := ⟨_, rfl⟩
  replace A := (A.push _).to e1
  refine at_step (v := .ptr (some (h.size, 0))) (h1 := h1) [(0, vs e_S_api_Member p0), (1, vs e_S_api_Member p1), (4, .ptr (some (h.size, 0)))] H (fun fr => by kernel_rfl) (fun fr => .of (s_n' (by kernel_rfl) (congrArg some e1.symm))) ?_
  intro fr t H
  refine at_nil ?_
  show AW cfg 25 g (right (bodyC cfg.P 25)) fr h1 _
  refine aw_seq (by kernel_rfl) ?_
  refine aw_reg (id := 1) (n := 6) [(0, []), (1, []), (2, []), (3, []), (4, []), (5, [])] (by kernel_rfl) (by kernel_rfl) ?_
  refine at_seg [(0, [])] [(0, vs e_S_api_Member p0), (1, vs e_S_api_Member p1), (4, .ptr (some (h.size, 0))), (12, vs e_S_api_Member p0)] H (noU_all rfl) (fun fr => by kernel_rfl) ?_
  intro fr H
  have A1 := A.cut 0
  obtain ⟨x1, hx, hm⟩ := bind_some hm
  obtain ⟨v1, h2, hr, bqw1, rfl, A1⟩ := ok_delta_places (av := [vs e_S_api_Member p0]) hx (by kernel_rfl) A1
  replace A : HH g h2 [.obj bqw1 (.map 2 (encM (fun k : List UInt8 => .str k) (fun v : Int => .int .i64 v) x1)), .obj h.size (.cells none 2 [.slice none 0, .slice none 0, .slice none 0])] F := A.glue0 (n := 0) A1
  refine at_step (v := .map (some bqw1)) (h1 := h2) [(0, vs e_S_api_Member p0), (1, vs e_S_api_Member p1), (4, .ptr (some (h.size, 0))), (13, .map (some bqw1))] H (fun fr => by kernel_rfl) (fun fr => Steps.call (by kernel_rfl) hr) ?_
  intro fr t H
  refine at_seg [(2, [])] [(0, vs e_S_api_Member p0), (1, vs e_S_api_Member p1), (4, .ptr (some (h.size, 0))), (13, .map (some bqw1)), (14, vs e_S_api_Member p1)] H (noU_all rfl) (fun fr => by kernel_rfl) ?_
  intro fr H
  have A1 := A.cut 0
  obtain ⟨x2, hx, hm⟩ := bind_some hm
  obtain ⟨v1, h3, hr, bqw2, rfl, A1⟩ := ok_delta_places (av := [vs e_S_api_Member p1]) hx (by kernel_rfl) A1
  replace A : HH g h3 [.obj bqw2 (.map 2 (encM (fun k : List UInt8 => .str k) (fun v : Int => .int .i64 v) x2)), .obj bqw1 (.map 2 (encM (fun k : List UInt8 => .str k) (fun v : Int => .int .i64 v) x1)), .obj h.size (.cells none 2 [.slice none 0, .slice none 0, .slice none 0])] F := A.glue0 (n := 0) A1
  refine at_step (v := .map (some bqw2)) (h1 := h3) [(0, vs e_S_api_Member p0), (1, vs e_S_api_Member p1), (4, .ptr (some (h.size, 0))), (13, .map (some bqw1)), (15, .map (some bqw2))] H (fun fr => by kernel_rfl) (fun fr => Steps.call (by kernel_rfl) hr) ?_
  intro fr t H
  refine at_seg [(4, []), (5, [])] [(0, vs e_S_api_Member p0), (1, vs e_S_api_Member p1), (4, .ptr (some (h.size, 0))), (5, .map (some bqw1)), (6, .map (some bqw2))] H (noU_all rfl) (fun fr => by kernel_rfl) ?_
  intro fr H
  refine at_nil ?_
  show AW cfg 25 g (right (right (bodyC cfg.P 25))) fr h3 _
  refine aw_seq (by kernel_rfl) ?_
  refine aw_reg (id := 2) (n := 1) [(0, [])] (by kernel_rfl) (by kernel_rfl) ?_
  obtain ⟨h4, e2⟩ : ∃ x, x = h3.push (.cells none 2 [.slice none 0, .slice none 0, .slice none 0]) := ⟨_, rfl⟩
  replace A := (A.push _).to e2
  refine at_step (v := .ptr (some (h3.size, 0))) (h1 := h4) [(0, vs e_S_api_Member p0), (1, vs e_S_api_Member p1), (4, .ptr (some (h.size, 0))), (5, .map (some bqw1)), (6, .map (some bqw2)), (7, .ptr (some (h3.size, 0)))] H (fun fr => by kernel_rfl) (fun fr => .of (s_n' (by kernel_rfl) (congrArg some e2.symm))) ?_
  intro fr t H
  refine at_nil ?_
  show AW cfg 25 g (right (right (right (bodyC cfg.P 25)))) fr h4 _
  refine aw_seq (by kernel_rfl) ?_
  refine aw_seq (by kernel_rfl) ?_
  refine aw_reg (id := 3) (n := 5) [(0, []), (1, []), (2, []), (3, []), (4, [])] (by kernel_rfl) (by kernel_rfl) ?_
  refine at_seg [(0, [])] [(0, vs e_S_api_Member p0), (1, vs e_S_api_Member p1), (4, .ptr (some (h.size, 0))), (5, .map (some bqw1)), (6, .map (some bqw2)), (7, .ptr (some (h3.size, 0))), (16, .map (some bqw2))] H (noU_all rfl) (fun fr => by kernel_rfl) ?_
  intro fr H
  obtain ⟨h5, e3⟩ : ∃ x, x = h4.push (.cells none 2 [.map (some bqw2)]) := ⟨_, rfl⟩
  replace A := (A.push _).to e3
  have hr : ∀ g, Runs cfg g h4 50 [.map (some bqw2)] (.func (.func 70) [] [.ptr (some (h4.size, 0))]) h5 := fun g => by rw [e3]; exact ⟨2, by kernel_rfl⟩
  refine at_step (v := .func (.func 70) [] [.ptr (some (h4.size, 0))]) (h1 := h5) [(0, vs e_S_api_Member p0), (1, vs e_S_api_Member p1), (4, .ptr (some (h.size, 0))), (5, .map (some bqw1)), (6, .map (some bqw2)), (7, .ptr (some (h3.size, 0))), (17, .func (.func 70) [] [.ptr (some (h4.size, 0))])] H (fun fr => by kernel_rfl) (fun fr => Steps.call (by kernel_rfl) (hr _)) ?_
  intro fr t H
  replace A : HH g h5 [.obj h4.size (.cells none 2 [.map (some bqw2)]), .obj bqw2 (.map 2 (encM (fun k : List UInt8 => .str k) (fun v : Int => .int .i64 v) x2)), .obj h3.size (.cells none 2 [.slice none 0, .slice none 0, .slice none 0]), .obj bqw1 (.map 2 (encM (fun k : List UInt8 => .str k) (fun v : Int => .int .i64 v) x1)), .obj h.size (.cells none 2 [.slice none 0, .slice none 0, .slice none 0])] F := ((A.front 2 rfl).front 1 rfl)
  have A1 := A.cut 2
  obtain ⟨hb, hm⟩ := need_some hm
  obtain ⟨r1, h6, hr, A1⟩ := HH.sorted (C := cfg) (f := 49) (it := 70) (t := 9) (ev := fun v : Int => .int .i64 v) (m := x2) A1 (by kernel_rfl) (l := exts) rfl (by kernel_rfl) 0 1 rfl rfl hb
  replace A : HH g h6 [.lst r1 9 (lst eS (sortT (x2.map Prod.fst))), .obj h4.size (.cells none 2 [.map (some bqw2)]), .obj bqw2 (.map 2 (encM (fun k : List UInt8 => .str k) (fun v : Int => .int .i64 v) x2)), .obj h3.size (.cells none 2 [.slice none 0, .slice none 0, .slice none 0]), .obj bqw1 (.map 2 (encM (fun k : List UInt8 => .str k) (fun v : Int => .int .i64 v) x1)), .obj h.size (.cells none 2 [.slice none 0, .slice none 0, .slice none 0])] F := A.glue0 (n := 2) A1
  refine at_step (v := rowV r1 ((sortT (x2.map Prod.fst)).length)) (h1 := h6) [(0, vs e_S_api_Member p0), (1, vs e_S_api_Member p1), (4, .ptr (some (h.size, 0))), (5, .map (some bqw1)), (6, .map (some bqw2)), (7, .ptr (some (h3.size, 0))), (18, rowV r1 ((sortT (x2.map Prod.fst)).length))] H (fun fr => by kernel_rfl) (fun fr => Steps.call (by kernel_rfl) hr) ?_
  intro fr t H
  refine at_seg [(3, []), (4, [])] [(0, vs e_S_api_Member p0), (1, vs e_S_api_Member p1), (4, .ptr (some (h.size, 0))), (5, .map (some bqw1)), (6, .map (some bqw2)), (7, .ptr (some (h3.size, 0))), (18, rowV r1 ((sortT (x2.map Prod.fst)).length)), (19, .int .i64 ((sortT (x2.map Prod.fst)).length : Int)), (20, .int .i64 (0 : Int))] H (noU_all rfl) (fun fr => by kernel_rfl) ?_
  intro fr H
  refine at_nil ?_
  show AW cfg 25 g (right (left (right (right (right (bodyC cfg.P 25)))))) fr h6 _
  refine aw_block (id := 0) (by kernel_rfl) ?_
  replace A : HH g h6 [.lst none 9 (lst eS ([] : List (List UInt8))), .lst r1 9 (lst eS (sortT (x2.map Prod.fst))), .obj h4.size (.cells none 2 [.map (some bqw2)]), .obj bqw2 (.map 2 (encM (fun k : List UInt8 => .str k) (fun v : Int => .int .i64 v) x2)), .obj h3.size (.cells none 2 [.slice none 0, .slice none 0, .slice none 0]), .obj bqw1 (.map 2 (encM (fun k : List UInt8 => .str k) (fun v : Int => .int .i64 v) x1)), .obj h.size (.cells none 2 [.slice none 0, .slice none 0, .slice none 0])] F := A.nilL 9
  replace A : HH g h6 [.lst none 9 (lst eS ([] : List (List UInt8))), .lst none 9 (lst eS ([] : List (List UInt8))), .lst r1 9 (lst eS (sortT (x2.map Prod.fst))), .obj h4.size (.cells none 2 [.map (some bqw2)]), .obj bqw2 (.map 2 (encM (fun k : List UInt8 => .str k) (fun v : Int => .int .i64 v) x2)), .obj h3.size (.cells none 2 [rowV none (([] : List (List UInt8)).length), .slice none 0, .slice none 0]), .obj bqw1 (.map 2 (encM (fun k : List UInt8 => .str k) (fun v : Int => .int .i64 v) x1)), .obj h.size (.cells none 2 [.slice none 0, .slice none 0, .slice none 0])] F := A.nilL 9
  replace A : HH g h6 [.lst none 9 (lst eS ([] : List (List UInt8))), .lst none 9 (lst eS ([] : List (List UInt8))), .lst none 9 (lst eS ([] : List (List UInt8))), .lst r1 9 (lst eS (sortT (x2.map Prod.fst))), .obj h4.size (.cells none 2 [.map (some bqw2)]), .obj bqw2 (.map 2 (encM (fun k : List UInt8 => .str k) (fun v : Int => .int .i64 v) x2)), .obj h3.size (.cells none 2 [.slice none 0, .slice none 0, rowV none (([] : List (List UInt8)).length)]), .obj bqw1 (.map 2 (encM (fun k : List UInt8 => .str k) (fun v : Int => .int .i64 v) x1)), .obj h.size (.cells none 2 [.slice none 0, .slice none 0, .slice none 0])] F := A.nilL 9
  replace A : HH g h6 [.lst none 9 (lst eS ([] : List (List UInt8))), .lst none 9 (lst eS ([] : List (List UInt8))), .lst r1 9 (lst eS (sortT (x2.map Prod.fst))), .obj h4.size (.cells none 2 [.map (some bqw2)]), .obj bqw2 (.map 2 (encM (fun k : List UInt8 => .str k) (fun v : Int => .int .i64 v) x2)), .obj h3.size (.cells none 2 [rowV none (([] : List (List UInt8)).length), .slice none 0, rowV none (([] : List (List UInt8)).length)]), .obj bqw1 (.map 2 (encM (fun k : List UInt8 => .str k) (fun v : Int => .int .i64 v) x1)), .obj h.size (.cells none 2 [.slice none 0, .slice none 0, .slice none 0])] F := (HH.dropF ((((((((A.front 8 rfl).front 8 rfl).front 8 rfl).front 8 rfl).front 8 rfl).front 8 rfl).front 7 rfl).front 7 rfl) 8)
  obtain ⟨o1, ho, hm⟩ := bind_some hm
  refine aw_mono (Q' := fun e fr' h' => (∃ (x7 : List (List UInt8)) (x8 : List (List UInt8)) (x9 : List ((List UInt8) × Int)), e = .exit 0 ∧ (x7, x8, x9) = o1 ∧ ∃ (r4 : Option Nat) (r5 : Option Nat), Has fr' 66 [(4, .ptr (some (h.size, 0))), (5, .map (some bqw1)), (7, .ptr (some (h3.size, 0)))] ∧ HH g h' [.lst r4 9 (lst eS x7), .lst r5 9 (lst eS x8), .obj h4.size (.cells none 2 [.map (some bqw2)]), .obj bqw2 (.map 2 (encM (fun k : List UInt8 => .str k) (fun v : Int => .int .i64 v) x2)), .obj h3.size (.cells none 2 [rowV r4 x7.length, .slice none 0, rowV r5 x8.length]), .obj bqw1 (.map 2 (encM (fun k : List UInt8 => .str k) (fun v : Int => .int .i64 v) x9)), .obj h.size (.cells none 2 [.slice none 0, .slice none 0, .slice none 0])] F) ∨ False) ?_ ?_
  · refine aw_loop (by kernel_rfl) (fun (s : (List (List UInt8)) × (List (List UInt8)) × (List ((List UInt8) × Int)) × Int) fr' h' => ∃ (x3 : List (List UInt8)) (x4 : List (List UInt8)) (x5 : List ((List UInt8) × Int)) (x6 : Int), (x3, x4, x5, x6) = s ∧ ∃ (r2 : Option Nat) (r3 : Option Nat), Has fr' 66 [(0, vs e_S_api_Member p0), (1, vs e_S_api_Member p1), (4, .ptr (some (h.size, 0))), (5, .map (some bqw1)), (6, .map (some bqw2)), (7, .ptr (some (h3.size, 0))), (18, rowV r1 ((sortT (x2.map Prod.fst)).length)), (19, .int .i64 ((sortT (x2.map Prod.fst)).length : Int)), (20, .int .i64 x6)] ∧ HH g h' [.lst r2 9 (lst eS x3), .lst r3 9 (lst eS x4), .lst r1 9 (lst eS (sortT (x2.map Prod.fst))), .obj h4.size (.cells none 2 [.map (some bqw2)]), .obj bqw2 (.map 2 (encM (fun k : List UInt8 => .str k) (fun v : Int => .int .i64 v) x2)), .obj h3.size (.cells none 2 [rowV r2 x3.length, .slice none 0, rowV r3 x4.length]), .obj bqw1 (.map 2 (encM (fun k : List UInt8 => .str k) (fun v : Int => .int .i64 v) x5)), .obj h.size (.cells none 2 [.slice none 0, .slice none 0, .slice none 0])] F) ho ⟨([] : List (List UInt8)), ([] : List (List UInt8)), x1, (0 : Int), rfl, none, none, H.less _ (fun fr => by kernel_rfl), A⟩ ?_
    clear ho hm H A
    intro s q fr h7 hI hm
    obtain ⟨x3, x4, x5, x6, rfl, r2, r3, H, A⟩ := hI
    unfold M_delta_Of_L0 at hm
    refine aw_seq (by kernel_rfl) ?_
    refine aw_reg (id := 4) (n := 1) [(0, [])] (by kernel_rfl) (by kernel_rfl) ?_
    refine at_seg [(0, [])] [(0, vs e_S_api_Member p0), (1, vs e_S_api_Member p1), (4, .ptr (some (h.size, 0))), (5, .map (some bqw1)), (6, .map (some bqw2)), (7, .ptr (some (h3.size, 0))), (18, rowV r1 ((sortT (x2.map Prod.fst)).length)), (19, .int .i64 ((sortT (x2.map Prod.fst)).length : Int)), (20, .int .i64 x6), (21, .bool (decide (x6 < ((sortT (x2.map Prod.fst)).length : Int))))] H (noU_all rfl) (fun fr => by kernel_rfl) ?_
    intro fr H
    refine at_nil ?_
    show AW cfg 25 g (right (left (left (right (left (right (right (right (bodyC cfg.P 25))))))))) fr h7 _
    refine aw_seq (by kernel_rfl) ?_
    rcases iteB_some hm with ⟨hb, hm⟩ | ⟨hb, hm⟩
    · replace H := H.know 21 hb (by kernel_rfl)
      refine aw_true (x := .tmp 21) (by kernel_rfl) H (fun fr => by kernel_rfl) ?_
      refine aw_skip (by kernel_rfl) ?_
      show AW cfg 25 g (right (right (left (left (right (left (right (right (right (bodyC cfg.P 25)))))))))) fr h7 _
      refine aw_seq (by kernel_rfl) ?_
      refine aw_block (id := 1) (by kernel_rfl) ?_
      refine aw_seq (by kernel_rfl) ?_
      refine aw_reg (id := 5) (n := 3) [(0, []), (1, []), (2, [])] (by kernel_rfl) (by kernel_rfl) ?_
      obtain ⟨x10, hx, hm⟩ := bind_some hm
      obtain ⟨i1, er1, _, hx, hq1⟩ := HH.ixO encS (by decide) A 2 (xs := (sortT (x2.map Prod.fst))) rfl hx
      refine at_step (v := .ptr (some (i1, x6.toNat * 1))) (h1 := h7) [(0, vs e_S_api_Member p0), (1, vs e_S_api_Member p1), (4, .ptr (some (h.size, 0))), (5, .map (some bqw1)), (6, .map (some bqw2)), (7, .ptr (some (h3.size, 0))), (18, rowV r1 ((sortT (x2.map Prod.fst)).length)), (19, .int .i64 ((sortT (x2.map Prod.fst)).length : Int)), (20, .int .i64 x6), (22, .ptr (some (i1, x6.toNat * 1)))] H (fun fr => by kernel_rfl) (fun fr => .of (s_ixL (s := rowS r1 ((sortT (x2.map Prod.fst)).length)) (by kernel_rfl) hx)) ?_
      intro fr t H
      refine at_step (v := .str x10) (h1 := h7) [(0, vs e_S_api_Member p0), (1, vs e_S_api_Member p1), (4, .ptr (some (h.size, 0))), (5, .map (some bqw1)), (6, .map (some bqw2)), (7, .ptr (some (h3.size, 0))), (18, rowV r1 ((sortT (x2.map Prod.fst)).length)), (19, .int .i64 ((sortT (x2.map Prod.fst)).length : Int)), (20, .int .i64 x6), (23, .str x10)] H (fun fr => by kernel_rfl) (fun fr => .of (s_ld (by kernel_rfl) (row_ld1 encS (HH.row A 2 rfl er1) hq1 (o := 0) rfl))) ?_
      intro fr t H
      refine at_seg [(2, [])] [(0, vs e_S_api_Member p0), (1, vs e_S_api_Member p1), (4, .ptr (some (h.size, 0))), (5, .map (some bqw1)), (6, .map (some bqw2)), (7, .ptr (some (h3.size, 0))), (9, .str x10), (18, rowV r1 ((sortT (x2.map Prod.fst)).length)), (19, .int .i64 ((sortT (x2.map Prod.fst)).length : Int)), (20, .int .i64 x6)] H (noU_all rfl) (fun fr => by kernel_rfl) ?_
      intro fr H
      refine at_nil ?_
      show AW cfg 25 g (right (left (left (right (right (left (left (right (left (right (right (right (bodyC cfg.P 25))))))))))))) fr h7 _
      refine aw_seq (by kernel_rfl) ?_
      refine aw_reg (id := 6) (n := 8) [(0, []), (1, []), (2, []), (3, []), (4, []), (5, []), (6, []), (7, [])] (by kernel_rfl) (by kernel_rfl) ?_
      refine at_seg [(0, []), (1, [])] [(0, vs e_S_api_Member p0), (1, vs e_S_api_Member p1), (4, .ptr (some (h.size, 0))), (5, .map (some bqw1)), (6, .map (some bqw2)), (7, .ptr (some (h3.size, 0))), (9, .str x10), (18, rowV r1 ((sortT (x2.map Prod.fst)).length)), (19, .int .i64 ((sortT (x2.map Prod.fst)).length : Int)), (20, .int .i64 x6), (25, .map (some bqw1)), (26, .str x10)] H (noU_all rfl) (fun fr => by kernel_rfl) ?_
      intro fr H
      refine at_step (v := .tuple [.int .i64 ((mfind x5 x10).getD (0 : Int)), .bool ((mfind x5 x10).isSome)]) (h1 := h7) [(0, vs e_S_api_Member p0), (1, vs e_S_api_Member p1), (4, .ptr (some (h.size, 0))), (5, .map (some bqw1)), (6, .map (some bqw2)), (7, .ptr (some (h3.size, 0))), (9, .str x10), (18, rowV r1 ((sortT (x2.map Prod.fst)).length)), (19, .int .i64 ((sortT (x2.map Prod.fst)).length : Int)), (20, .int .i64 x6), (27, .tuple [.int .i64 ((mfind x5 x10).getD (0 : Int)), .bool ((mfind x5 x10).isSome)])] H (fun fr => by kernel_rfl) (fun fr => .of (s_lkT (by kernel_rfl) (HH.mlook (kt := 9) (et := 3) (ek := fun k : List UInt8 => .str k) (ev := fun v : Int => .int .i64 v) (keyS (by kernel_rfl)) A 6 rfl (t := 68) (by kernel_rfl) (z := (0 : Int)) (by kernel_rfl) x10))) ?_
      intro fr t H
      refine at_seg [(3, []), (4, []), (5, []), (6, []), (7, [])] [(0, vs e_S_api_Member p0), (1, vs e_S_api_Member p1), (4, .ptr (some (h.size, 0))), (5, .map (some bqw1)), (6, .map (some bqw2)), (7, .ptr (some (h3.size, 0))), (9, .str x10), (10, .int .i64 ((mfind x5 x10).getD (0 : Int))), (11, .bool ((mfind x5 x10).isSome)), (18, rowV r1 ((sortT (x2.map Prod.fst)).length)), (19, .int .i64 ((sortT (x2.map Prod.fst)).length : Int)), (20, .int .i64 x6)] H (noU_all rfl) (fun fr => by kernel_rfl) ?_
      intro fr H
      refine at_nil ?_
      show AW cfg 25 g (right (right (left (left (right (right (left (left (right (left (right (right (right (bodyC cfg.P 25)))))))))))))) fr h7 _
      refine aw_seq (by kernel_rfl) ?_
      obtain ⟨o2, ho, hm⟩ := bind_some hm
      refine aw_mono (Q' := fun e fr' h' => (∃ (x11 : List (List UInt8)) (x12 : List (List UInt8)), e = .normal ∧ (x11, x12) = o2 ∧ ∃ (r6 : Option Nat) (r7 : Option Nat), Has fr' 66 [(0, vs e_S_api_Member p0), (1, vs e_S_api_Member p1), (4, .ptr (some (h.size, 0))), (5, .map (some bqw1)), (6, .map (some bqw2)), (7, .ptr (some (h3.size, 0))), (9, .str x10), (18, rowV r1 ((sortT (x2.map Prod.fst)).length)), (19, .int .i64 ((sortT (x2.map Prod.fst)).length : Int)), (20, .int .i64 x6)] ∧ HH g h' [.lst r6 9 (lst eS x11), .lst r7 9 (lst eS x12), .lst r1 9 (lst eS (sortT (x2.map Prod.fst))), .obj h4.size (.cells none 2 [.map (some bqw2)]), .obj bqw2 (.map 2 (encM (fun k : List UInt8 => .str k) (fun v : Int => .int .i64 v) x2)), .obj h3.size (.cells none 2 [rowV r6 x11.length, .slice none 0, rowV r7 x12.length]), .obj bqw1 (.map 2 (encM (fun k : List UInt8 => .str k) (fun v : Int => .int .i64 v) x5)), .obj h.size (.cells none 2 [.slice none 0, .slice none 0, .slice none 0])] F) ∨ False) ?_ ?_
      · replace hm := ho
        clear ho
        refine aw_block (id := 2) (by kernel_rfl) ?_
        refine aw_seq (by kernel_rfl) ?_
        refine aw_reg (id := 7) (n := 3) [(0, []), (1, []), (2, [])] (by kernel_rfl) (by kernel_rfl) ?_
        refine at_seg [(0, []), (1, []), (2, [])] [(0, vs e_S_api_Member p0), (1, vs e_S_api_Member p1), (4, .ptr (some (h.size, 0))), (5, .map (some bqw1)), (6, .map (some bqw2)), (7, .ptr (some (h3.size, 0))), (9, .str x10), (10, .int .i64 ((mfind x5 x10).getD (0 : Int))), (18, rowV r1 ((sortT (x2.map Prod.fst)).length)), (19, .int .i64 ((sortT (x2.map Prod.fst)).length : Int)), (20, .int .i64 x6), (30, .bool (!((mfind x5 x10).isSome)))] H (noU_all rfl) (fun fr => by kernel_rfl) ?_
        intro fr H
        refine at_nil ?_
        show AW cfg 25 g (right (left (left (right (right (left (left (right (right (left (left (right (left (right (right (right (bodyC cfg.P 25))))))))))))))))) fr h7 _
        rcases iteB_some hm with ⟨hb, hm⟩ | ⟨hb, hm⟩
        · replace H := H.know 30 hb (by kernel_rfl)
          refine aw_true (x := .tmp 30) (by kernel_rfl) H (fun fr => by kernel_rfl) ?_
          refine aw_reg (id := 8) (n := 7) [(0, []), (1, []), (2, []), (3, []), (4, []), (5, []), (6, [])] (by kernel_rfl) (by kernel_rfl) ?_
          refine at_seg [(0, [])] [(0, vs e_S_api_Member p0), (1, vs e_S_api_Member p1), (4, .ptr (some (h.size, 0))), (5, .map (some bqw1)), (6, .map (some bqw2)), (7, .ptr (some (h3.size, 0))), (9, .str x10), (18, rowV r1 ((sortT (x2.map Prod.fst)).length)), (19, .int .i64 ((sortT (x2.map Prod.fst)).length : Int)), (20, .int .i64 x6), (33, .ptr (some (h3.size, 0)))] H (noU_all rfl) (fun fr => by kernel_rfl) ?_
          intro fr H
          refine at_step (v := rowV r2 x3.length) (h1 := h7) [(0, vs e_S_api_Member p0), (1, vs e_S_api_Member p1), (4, .ptr (some (h.size, 0))), (5, .map (some bqw1)), (6, .map (some bqw2)), (7, .ptr (some (h3.size, 0))), (9, .str x10), (18, rowV r1 ((sortT (x2.map Prod.fst)).length)), (19, .int .i64 ((sortT (x2.map Prod.fst)).length : Int)), (20, .int .i64 x6), (34, rowV r2 x3.length)] H (fun fr => by kernel_rfl) (fun fr => .of (s_ld (by kernel_rfl) (A.ld1 5 rfl (o := 0) rfl))) ?_
          intro fr t H
          refine at_seg [(2, [])] [(0, vs e_S_api_Member p0), (1, vs e_S_api_Member p1), (4, .ptr (some (h.size, 0))), (5, .map (some bqw1)), (6, .map (some bqw2)), (7, .ptr (some (h3.size, 0))), (9, .str x10), (18, rowV r1 ((sortT (x2.map Prod.fst)).length)), (19, .int .i64 ((sortT (x2.map Prod.fst)).length : Int)), (20, .int .i64 x6), (34, rowV r2 x3.length), (35, .str x10)] H (noU_all rfl) (fun fr => by kernel_rfl) ?_
          intro fr H
          obtain ⟨h8, e4⟩ : ∃ x, x = h7.push (.cells (some 9) 2 [.str x10]) := ⟨_, rfl⟩
          replace A := (A.pushL _ _).to e4
          refine at_step (v := rowV (some h7.size) (([x10] : List (List UInt8)).length)) (h1 := h8) [(0, vs e_S_api_Member p0), (1, vs e_S_api_Member p1), (4, .ptr (some (h.size, 0))), (5, .map (some bqw1)), (6, .map (some bqw2)), (7, .ptr (some (h3.size, 0))), (9, .str x10), (18, rowV r1 ((sortT (x2.map Prod.fst)).length)), (19, .int .i64 ((sortT (x2.map Prod.fst)).length : Int)), (20, .int .i64 x6), (34, rowV r2 x3.length), (36, rowV (some h7.size) (([x10] : List (List UInt8)).length))] H (fun fr => by kernel_rfl) (fun fr => .of (s_n' (by kernel_rfl) (congrArg some e4.symm))) ?_
          intro fr t H
          obtain ⟨hb, hm⟩ := need_some hm
          obtain ⟨r8, h9, hx, A1⟩ := HH.appO encS (by decide) A 1 (xs := x3) (ys := ([x10] : List (List UInt8))) rfl (row_first A 0 rfl (n := ([x10] : List (List UInt8)).length) (z := 1) rfl (by decide)) rfl rfl hb
          replace A : HH g h9 [.lst (some h7.size) 9 ([.str x10]), .lst r8 9 (lst eS (x3 ++ ([x10] : List (List UInt8)))), .lst r3 9 (lst eS x4), .lst r1 9 (lst eS (sortT (x2.map Prod.fst))), .obj h4.size (.cells none 2 [.map (some bqw2)]), .obj bqw2 (.map 2 (encM (fun k : List UInt8 => .str k) (fun v : Int => .int .i64 v) x2)), .obj h3.size (.cells none 2 [rowV r2 x3.length, .slice none 0, rowV r3 x4.length]), .obj bqw1 (.map 2 (encM (fun k : List UInt8 => .str k) (fun v : Int => .int .i64 v) x5)), .obj h.size (.cells none 2 [.slice none 0, .slice none 0, .slice none 0])] F := A1
          replace A : HH g h9 [.lst r8 9 (lst eS (x3 ++ ([x10] : List (List UInt8)))), .lst r3 9 (lst eS x4), .lst r1 9 (lst eS (sortT (x2.map Prod.fst))), .obj h4.size (.cells none 2 [.map (some bqw2)]), .obj bqw2 (.map 2 (encM (fun k : List UInt8 => .str k) (fun v : Int => .int .i64 v) x2)), .obj h3.size (.cells none 2 [rowV r2 x3.length, .slice none 0, rowV r3 x4.length]), .obj bqw1 (.map 2 (encM (fun k : List UInt8 => .str k) (fun v : Int => .int .i64 v) x5)), .obj h.size (.cells none 2 [.slice none 0, .slice none 0, .slice none 0])] F := (HH.dropF ((((((((A.front 8 rfl).front 8 rfl).front 8 rfl).front 8 rfl).front 8 rfl).front 8 rfl).front 8 rfl).front 8 rfl) 8)
          refine at_step (v := rowV r8 ((x3 ++ ([x10] : List (List UInt8))).length)) (h1 := h9) [(0, vs e_S_api_Member p0), (1, vs e_S_api_Member p1), (4, .ptr (some (h.size, 0))), (5, .map (some bqw1)), (6, .map (some bqw2)), (7, .ptr (some (h3.size, 0))), (9, .str x10), (18, rowV r1 ((sortT (x2.map Prod.fst)).length)), (19, .int .i64 ((sortT (x2.map Prod.fst)).length : Int)), (20, .int .i64 x6), (37, rowV r8 ((x3 ++ ([x10] : List (List UInt8))).length))] H (fun fr => by kernel_rfl) (fun fr => .of (s_app (s := rowS r2 x3.length) (by kernel_rfl) hx)) ?_
          intro fr t H
          refine at_seg [(5, [])] [(0, vs e_S_api_Member p0), (1, vs e_S_api_Member p1), (4, .ptr (some (h.size, 0))), (5, .map (some bqw1)), (6, .map (some bqw2)), (7, .ptr (some (h3.size, 0))), (9, .str x10), (18, rowV r1 ((sortT (x2.map Prod.fst)).length)), (19, .int .i64 ((sortT (x2.map Prod.fst)).length : Int)), (20, .int .i64 x6), (37, rowV r8 ((x3 ++ ([x10] : List (List UInt8))).length)), (38, .ptr (some (h3.size, 0)))] H (noU_all rfl) (fun fr => by kernel_rfl) ?_
          intro fr H
          obtain ⟨h10, hx, A1⟩ := A.st 5 rfl (o := 0) (new := [rowV r8 ((x3 ++ ([x10] : List (List UInt8))).length)]) (ds := [rowV r8 ((x3 ++ ([x10] : List (List UInt8))).length), .slice none 0, rowV r3 x4.length]) (Nat.le_of_ble_eq_true rfl) rfl rfl
          replace A : HH g h10 [.lst r8 9 (lst eS (x3 ++ ([x10] : List (List UInt8)))), .lst r3 9 (lst eS x4), .lst r1 9 (lst eS (sortT (x2.map Prod.fst))), .obj h4.size (.cells none 2 [.map (some bqw2)]), .obj bqw2 (.map 2 (encM (fun k : List UInt8 => .str k) (fun v : Int => .int .i64 v) x2)), .obj h3.size (.cells none 2 [rowV r8 ((x3 ++ ([x10] : List (List UInt8))).length), .slice none 0, rowV r3 x4.length]), .obj bqw1 (.map 2 (encM (fun k : List UInt8 => .str k) (fun v : Int => .int .i64 v) x5)), .obj h.size (.cells none 2 [.slice none 0, .slice none 0, .slice none 0])] F := A1
          refine at_step (v := .tuple []) (h1 := h10) [(0, vs e_S_api_Member p0), (1, vs e_S_api_Member p1), (4, .ptr (some (h.size, 0))), (5, .map (some bqw1)), (6, .map (some bqw2)), (7, .ptr (some (h3.size, 0))), (9, .str x10), (18, rowV r1 ((sortT (x2.map Prod.fst)).length)), (19, .int .i64 ((sortT (x2.map Prod.fst)).length : Int)), (20, .int .i64 x6)] H (fun fr => by kernel_rfl) (fun fr => .of (s_st (by kernel_rfl) rfl hx)) ?_
          intro fr t H
          refine at_nil ?_
          exact Or.inl ⟨(x3 ++ ([x10] : List (List UInt8))), x4, rfl, Option.some.inj hm, r8, r3, H.less _ (fun fr => by kernel_rfl), A⟩
        · replace H := H.know 30 hb (by kernel_rfl)
          refine aw_false (x := .tmp 30) (by kernel_rfl) H (fun fr => by kernel_rfl) ?_
          refine aw_seq (by kernel_rfl) ?_
          refine aw_draw (id := 9) (n := 13) (by kernel_rfl) [(0, []), (1, []), (2, []), (3, []), (4, []), (5, []), (6, []), (7, []), (8, []), (9, []), (10, []), (11, []), (12, [])] (by kernel_rfl) ?_
          refine at_seg [(0, []), (1, [])] [(0, vs e_S_api_Member p0), (1, vs e_S_api_Member p1), (4, .ptr (some (h.size, 0))), (5, .map (some bqw1)), (6, .map (some bqw2)), (7, .ptr (some (h3.size, 0))), (9, .str x10), (18, rowV r1 ((sortT (x2.map Prod.fst)).length)), (19, .int .i64 ((sortT (x2.map Prod.fst)).length : Int)), (20, .int .i64 x6), (40, vs e_S_api_Member p0), (41, .int .i64 ((mfind x5 x10).getD (0 : Int)))] H (noU_all rfl) (fun fr => by kernel_rfl) ?_
          intro fr H
          obtain ⟨x13, hx, hm⟩ := bind_some hm
          refine at_step (v := .vptr [.str x13.Name, .str x13.Link, .int .u8 x13.Kind, .int .i64 x13.Mode, .int .i64 x13.Uid, .int .i64 x13.Gid, .str x13.Uname, .str x13.Gname, .int .i64 x13.Major, .int .i64 x13.Minor, .int .i64 x13.Time.Sec, .int .i64 x13.Time.Nsec, vs e_S_api_Pair x13.Extra, .str x13.Data]) (h1 := h7) [(0, vs e_S_api_Member p0), (1, vs e_S_api_Member p1), (4, .ptr (some (h.size, 0))), (5, .map (some bqw1)), (6, .map (some bqw2)), (7, .ptr (some (h3.size, 0))), (9, .str x10), (18, rowV r1 ((sortT (x2.map Prod.fst)).length)), (19, .int .i64 ((sortT (x2.map Prod.fst)).length : Int)), (20, .int .i64 x6), (42, .vptr [.str x13.Name, .str x13.Link, .int .u8 x13.Kind, .int .i64 x13.Mode, .int .i64 x13.Uid, .int .i64 x13.Gid, .str x13.Uname, .str x13.Gname, .int .i64 x13.Major, .int .i64 x13.Minor, .int .i64 x13.Time.Sec, .int .i64 x13.Time.Nsec, vs e_S_api_Pair x13.Extra, .str x13.Data])] H (fun fr => by kernel_rfl) (fun fr => .of (s_ixV (e := e_S_api_Member) (x := x13) enc_S_api_Member (by decide) (by kernel_rfl) hx)) ?_
          intro fr t H
          refine at_step (v := .agg (e_S_api_Member x13)) (h1 := h7) [(0, vs e_S_api_Member p0), (1, vs e_S_api_Member p1), (4, .ptr (some (h.size, 0))), (5, .map (some bqw1)), (6, .map (some bqw2)), (7, .ptr (some (h3.size, 0))), (9, .str x10), (18, rowV r1 ((sortT (x2.map Prod.fst)).length)), (19, .int .i64 ((sortT (x2.map Prod.fst)).length : Int)), (20, .int .i64 x6), (43, .agg (e_S_api_Member x13))] H (fun fr => by kernel_rfl) (fun fr => .of (s_lv (by kernel_rfl))) ?_
          intro fr t H
          refine at_seg [(4, []), (5, []), (6, [])] [(0, vs e_S_api_Member p0), (1, vs e_S_api_Member p1), (4, .ptr (some (h.size, 0))), (5, .map (some bqw1)), (6, .map (some bqw2)), (7, .ptr (some (h3.size, 0))), (9, .str x10), (18, rowV r1 ((sortT (x2.map Prod.fst)).length)), (19, .int .i64 ((sortT (x2.map Prod.fst)).length : Int)), (20, .int .i64 x6), (43, .agg (e_S_api_Member x13)), (44, vs e_S_api_Member p1), (45, .map (some bqw2)), (46, .str x10)] H (noU_all rfl) (fun fr => by kernel_rfl) ?_
          intro fr H
          refine at_step (v := .int .i64 ((mfind x2 x10).getD (0 : Int))) (h1 := h7) [(0, vs e_S_api_Member p0), (1, vs e_S_api_Member p1), (4, .ptr (some (h.size, 0))), (5, .map (some bqw1)), (6, .map (some bqw2)), (7, .ptr (some (h3.size, 0))), (9, .str x10), (18, rowV r1 ((sortT (x2.map Prod.fst)).length)), (19, .int .i64 ((sortT (x2.map Prod.fst)).length : Int)), (20, .int .i64 x6), (43, .agg (e_S_api_Member x13)), (44, vs e_S_api_Member p1), (47, .int .i64 ((mfind x2 x10).getD (0 : Int)))] H (fun fr => by kernel_rfl) (fun fr => .of (s_lkF (by kernel_rfl) (HH.mlook (kt := 9) (et := 3) (ek := fun k : List UInt8 => .str k) (ev := fun v : Int => .int .i64 v) (keyS (by kernel_rfl)) A 4 rfl (t := 68) (by kernel_rfl) (z := (0 : Int)) (by kernel_rfl) x10))) ?_
          intro fr t H
          obtain ⟨x14, hx, hm⟩ := bind_some hm
          refine at_step (v := .vptr [.str x14.Name, .str x14.Link, .int .u8 x14.Kind, .int .i64 x14.Mode, .int .i64 x14.Uid, .int .i64 x14.Gid, .str x14.Uname, .str x14.Gname, .int .i64 x14.Major, .int .i64 x14.Minor, .int .i64 x14.Time.Sec, .int .i64 x14.Time.Nsec, vs e_S_api_Pair x14.Extra, .str x14.Data]) (h1 := h7) [(0, vs e_S_api_Member p0), (1, vs e_S_api_Member p1), (4, .ptr (some (h.size, 0))), (5, .map (some bqw1)), (6, .map (some bqw2)), (7, .ptr (some (h3.size, 0))), (9, .str x10), (18, rowV r1 ((sortT (x2.map Prod.fst)).length)), (19, .int .i64 ((sortT (x2.map Prod.fst)).length : Int)), (20, .int .i64 x6), (43, .agg (e_S_api_Member x13)), (48, .vptr [.str x14.Name, .str x14.Link, .int .u8 x14.Kind, .int .i64 x14.Mode, .int .i64 x14.Uid, .int .i64 x14.Gid, .str x14.Uname, .str x14.Gname, .int .i64 x14.Major, .int .i64 x14.Minor, .int .i64 x14.Time.Sec, .int .i64 x14.Time.Nsec, vs e_S_api_Pair x14.Extra, .str x14.Data])] H (fun fr => by kernel_rfl) (fun fr => .of (s_ixV (e := e_S_api_Member) (x := x14) enc_S_api_Member (by decide) (by kernel_rfl) hx)) ?_
          intro fr t H
          refine at_step (v := .agg (e_S_api_Member x14)) (h1 := h7) [(0, vs e_S_api_Member p0), (1, vs e_S_api_Member p1), (4, .ptr (some (h.size, 0))), (5, .map (some bqw1)), (6, .map (some bqw2)), (7, .ptr (some (h3.size, 0))), (9, .str x10), (18, rowV r1 ((sortT (x2.map Prod.fst)).length)), (19, .int .i64 ((sortT (x2.map Prod.fst)).length : Int)), (20, .int .i64 x6), (43, .agg (e_S_api_Member x13)), (49, .agg (e_S_api_Member x14))] H (fun fr => by kernel_rfl) (fun fr => .of (s_lv (by kernel_rfl))) ?_
          intro fr t H
          have A1 := A.cut 0
          obtain ⟨x15, hx, hm⟩ := bind_some hm
          obtain ⟨v1, h11, hr, rfl, A1⟩ := ok_archive_Same (av := [.agg (e_S_api_Member x13), .agg (e_S_api_Member x14)]) hx (by kernel_rfl) A1
          replace A : HH g h11 [.lst r2 9 (lst eS x3), .lst r3 9 (lst eS x4), .lst r1 9 (lst eS (sortT (x2.map Prod.fst))), .obj h4.size (.cells none 2 [.map (some bqw2)]), .obj bqw2 (.map 2 (encM (fun k : List UInt8 => .str k) (fun v : Int => .int .i64 v) x2)), .obj h3.size (.cells none 2 [rowV r2 x3.length, .slice none 0, rowV r3 x4.length]), .obj bqw1 (.map 2 (encM (fun k : List UInt8 => .str k) (fun v : Int => .int .i64 v) x5)), .obj h.size (.cells none 2 [.slice none 0, .slice none 0, .slice none 0])] F := A.glue0 (n := 0) A1
          refine at_step (v := .bool x15) (h1 := h11) [(0, vs e_S_api_Member p0), (1, vs e_S_api_Member p1), (4, .ptr (some (h.size, 0))), (5, .map (some bqw1)), (6, .map (some bqw2)), (7, .ptr (some (h3.size, 0))), (9, .str x10), (18, rowV r1 ((sortT (x2.map Prod.fst)).length)), (19, .int .i64 ((sortT (x2.map Prod.fst)).length : Int)), (20, .int .i64 x6), (50, .bool x15)] H (fun fr => by kernel_rfl) (fun fr => Steps.call (by kernel_rfl) hr) ?_
          intro fr t H
          refine at_seg [(11, []), (12, [])] [(0, vs e_S_api_Member p0), (1, vs e_S_api_Member p1), (4, .ptr (some (h.size, 0))), (5, .map (some bqw1)), (6, .map (some bqw2)), (7, .ptr (some (h3.size, 0))), (9, .str x10), (18, rowV r1 ((sortT (x2.map Prod.fst)).length)), (19, .int .i64 ((sortT (x2.map Prod.fst)).length : Int)), (20, .int .i64 x6), (39, .bool (!x15))] H (noU_all rfl) (fun fr => by kernel_rfl) ?_
          intro fr H
          refine at_nil ?_
          show AW cfg 25 g (right (right (right (left (left (right (right (left (left (right (right (left (left (right (left (right (right (right (bodyC cfg.P 25))))))))))))))))))) fr h11 _
          rcases iteB_some hm with ⟨hb, hm⟩ | ⟨hb, hm⟩
          · replace H := H.know 39 hb (by kernel_rfl)
            refine aw_true (x := .tmp 39) (by kernel_rfl) H (fun fr => by kernel_rfl) ?_
            refine aw_reg (id := 10) (n := 7) [(0, []), (1, []), (2, []), (3, []), (4, []), (5, []), (6, [])] (by kernel_rfl) (by kernel_rfl) ?_
            refine at_seg [(0, [])] [(0, vs e_S_api_Member p0), (1, vs e_S_api_Member p1), (4, .ptr (some (h.size, 0))), (5, .map (some bqw1)), (6, .map (some bqw2)), (7, .ptr (some (h3.size, 0))), (9, .str x10), (18, rowV r1 ((sortT (x2.map Prod.fst)).length)), (19, .int .i64 ((sortT (x2.map Prod.fst)).length : Int)), (20, .int .i64 x6), (52, .ptr (some (h3.size, 2)))] H (noU_all rfl) (fun fr => by kernel_rfl) ?_
            intro fr H
            refine at_step (v := rowV r3 x4.length) (h1 := h11) [(0, vs e_S_api_Member p0), (1, vs e_S_api_Member p1), (4, .ptr (some (h.size, 0))), (5, .map (some bqw1)), (6, .map (some bqw2)), (7, .ptr (some (h3.size, 0))), (9, .str x10), (18, rowV r1 ((sortT (x2.map Prod.fst)).length)), (19, .int .i64 ((sortT (x2.map Prod.fst)).length : Int)), (20, .int .i64 x6), (53, rowV r3 x4.length)] H (fun fr => by kernel_rfl) (fun fr => .of (s_ld (by kernel_rfl) (A.ld1 5 rfl (o := 2) rfl))) ?_
            intro fr t H
            refine at_seg [(2, [])] [(0, vs e_S_api_Member p0), (1, vs e_S_api_Member p1), (4, .ptr (some (h.size, 0))), (5, .map (some bqw1)), (6, .map (some bqw2)), (7, .ptr (some (h3.size, 0))), (9, .str x10), (18, rowV r1 ((sortT (x2.map Prod.fst)).length)), (19, .int .i64 ((sortT (x2.map Prod.fst)).length : Int)), (20, .int .i64 x6), (53, rowV r3 x4.length), (54, .str x10)] H (noU_all rfl) (fun fr => by kernel_rfl) ?_
            intro fr H
            obtain ⟨h12, e5⟩ : ∃ x, x = h11.push (.cells (some 9) 2 [.str x10]) := ⟨_, rfl⟩
            replace A := (A.pushL _ _).to e5
            refine at_step (v := rowV (some h11.size) (([x10] : List (List UInt8)).length)) (h1 := h12) [(0, vs e_S_api_Member p0), (1, vs e_S_api_Member p1), (4, .ptr (some (h.size, 0))), (5, .map (some bqw1)), (6, .map (some bqw2)), (7, .ptr (some (h3.size, 0))), (9, .str x10), (18, rowV r1 ((sortT (x2.map Prod.fst)).length)), (19, .int .i64 ((sortT (x2.map Prod.fst)).length : Int)), (20, .int .i64 x6), (53, rowV r3 x4.length), (55, rowV (some h11.size) (([x10] : List (List UInt8)).length))] H (fun fr => by kernel_rfl) (fun fr => .of (s_n' (by kernel_rfl) (congrArg some e5.symm))) ?_
            intro fr t H
            obtain ⟨hb, hm⟩ := need_some hm
            obtain ⟨r9, h13, hx, A1⟩ := HH.appO encS (by decide) A 2 (xs := x4) (ys := ([x10] : List (List UInt8))) rfl (row_first A 0 rfl (n := ([x10] : List (List UInt8)).length) (z := 1) rfl (by decide)) rfl rfl hb
            replace A : HH g h13 [.lst (some h11.size) 9 ([.str x10]), .lst r2 9 (lst eS x3), .lst r9 9 (lst eS (x4 ++ ([x10] : List (List UInt8)))), .lst r1 9 (lst eS (sortT (x2.map Prod.fst))), .obj h4.size (.cells none 2 [.map (some bqw2)]), .obj bqw2 (.map 2 (encM (fun k : List UInt8 => .str k) (fun v : Int => .int .i64 v) x2)), .obj h3.size (.cells none 2 [rowV r2 x3.length, .slice none 0, rowV r3 x4.length]), .obj bqw1 (.map 2 (encM (fun k : List UInt8 => .str k) (fun v : Int => .int .i64 v) x5)), .obj h.size (.cells none 2 [.slice none 0, .slice none 0, .slice none 0])] F := A1
            replace A : HH g h13 [.lst r2 9 (lst eS x3), .lst r9 9 (lst eS (x4 ++ ([x10] : List (List UInt8)))), .lst r1 9 (lst eS (sortT (x2.map Prod.fst))), .obj h4.size (.cells none 2 [.map (some bqw2)]), .obj bqw2 (.map 2 (encM (fun k : List UInt8 => .str k) (fun v : Int => .int .i64 v) x2)), .obj h3.size (.cells none 2 [rowV r2 x3.length, .slice none 0, rowV r3 x4.length]), .obj bqw1 (.map 2 (encM (fun k : List UInt8 => .str k) (fun v : Int => .int .i64 v) x5)), .obj h.size (.cells none 2 [.slice none 0, .slice none 0, .slice none 0])] F := (HH.dropF ((((((((A.front 8 rfl).front 8 rfl).front 8 rfl).front 8 rfl).front 8 rfl).front 8 rfl).front 8 rfl).front 8 rfl) 8)
            refine at_step (v := rowV r9 ((x4 ++ ([x10] : List (List UInt8))).length)) (h1 := h13) [(0, vs e_S_api_Member p0), (1, vs e_S_api_Member p1), (4, .ptr (some (h.size, 0))), (5, .map (some bqw1)), (6, .map (some bqw2)), (7, .ptr (some (h3.size, 0))), (9, .str x10), (18, rowV r1 ((sortT (x2.map Prod.fst)).length)), (19, .int .i64 ((sortT (x2.map Prod.fst)).length : Int)), (20, .int .i64 x6), (56, rowV r9 ((x4 ++ ([x10] : List (List UInt8))).length))] H (fun fr => by kernel_rfl) (fun fr => .of (s_app (s := rowS r3 x4.length) (by kernel_rfl) hx)) ?_
            intro fr t H
            refine at_seg [(5, [])] [(0, vs e_S_api_Member p0), (1, vs e_S_api_Member p1), (4, .ptr (some (h.size, 0))), (5, .map (some bqw1)), (6, .map (some bqw2)), (7, .ptr (some (h3.size, 0))), (9, .str x10), (18, rowV r1 ((sortT (x2.map Prod.fst)).length)), (19, .int .i64 ((sortT (x2.map Prod.fst)).length : Int)), (20, .int .i64 x6), (56, rowV r9 ((x4 ++ ([x10] : List (List UInt8))).length)), (57, .ptr (some (h3.size, 2)))] H (noU_all rfl) (fun fr => by kernel_rfl) ?_
            intro fr H
            obtain ⟨h14, hx, A1⟩ := A.st 5 rfl (o := 2) (new := [rowV r9 ((x4 ++ ([x10] : List (List UInt8))).length)]) (ds := [rowV r2 x3.length, .slice none 0, rowV r9 ((x4 ++ ([x10] : List (List UInt8))).length)]) (Nat.le_of_ble_eq_true rfl) rfl rfl
            replace A : HH g h14 [.lst r2 9 (lst eS x3), .lst r9 9 (lst eS (x4 ++ ([x10] : List (List UInt8)))), .lst r1 9 (lst eS (sortT (x2.map Prod.fst))), .obj h4.size (.cells none 2 [.map (some bqw2)]), .obj bqw2 (.map 2 (encM (fun k : List UInt8 => .str k) (fun v : Int => .int .i64 v) x2)), .obj h3.size (.cells none 2 [rowV r2 x3.length, .slice none 0, rowV r9 ((x4 ++ ([x10] : List (List UInt8))).length)]), .obj bqw1 (.map 2 (encM (fun k : List UInt8 => .str k) (fun v : Int => .int .i64 v) x5)), .obj h.size (.cells none 2 [.slice none 0, .slice none 0, .slice none 0])] F := A1
            refine at_step (v := .tuple []) (h1 := h14) [(0, vs e_S_api_Member p0), (1, vs e_S_api_Member p1), (4, .ptr (some (h.size, 0))), (5, .map (some bqw1)), (6, .map (some bqw2)), (7, .ptr (some (h3.size, 0))), (9, .str x10), (18, rowV r1 ((sortT (x2.map Prod.fst)).length)), (19, .int .i64 ((sortT (x2.map Prod.fst)).length : Int)), (20, .int .i64 x6)] H (fun fr => by kernel_rfl) (fun fr => .of (s_st (by kernel_rfl) rfl hx)) ?_
            intro fr t H
            refine at_nil ?_
            exact Or.inl ⟨x3, (x4 ++ ([x10] : List (List UInt8))), rfl, Option.some.inj hm, r2, r9, H.less _ (fun fr => by kernel_rfl), A⟩
          · replace H := H.know 39 hb (by kernel_rfl)
            refine aw_false (x := .tmp 39) (by kernel_rfl) H (fun fr => by kernel_rfl) ?_
            refine aw_skip (by kernel_rfl) ?_
            exact Or.inl ⟨x3, x4, rfl, Option.some.inj hm, r2, r3, H.less _ (fun fr => by kernel_rfl), A⟩
      · clear ho
        clear A
        intro e fr h15 hQ
        rcases hQ with ⟨x11, x12, rfl, rfl, r6, r7, H, A⟩ | hF
        · skip
          show AW cfg 25 g (right (right (right (left (left (right (right (left (left (right (left (right (right (right (bodyC cfg.P 25))))))))))))))) fr h15 _
          refine aw_reg (id := 11) (n := 3) [(0, []), (1, []), (2, [])] (by kernel_rfl) (by kernel_rfl) ?_
          refine at_seg [(0, []), (1, [])] [(0, vs e_S_api_Member p0), (1, vs e_S_api_Member p1), (4, .ptr (some (h.size, 0))), (5, .map (some bqw1)), (6, .map (some bqw2)), (7, .ptr (some (h3.size, 0))), (18, rowV r1 ((sortT (x2.map Prod.fst)).length)), (19, .int .i64 ((sortT (x2.map Prod.fst)).length : Int)), (20, .int .i64 x6), (58, .map (some bqw1)), (59, .str x10)] H (noU_all rfl) (fun fr => by kernel_rfl) ?_
          intro fr H
          obtain ⟨h16, hx, A1⟩ := HH.mdel' (kt := 9) (et := 3) (ek := fun k : List UInt8 => .str k) (ev := fun v : Int => .int .i64 v) (keyS (by kernel_rfl)) A 6 rfl (t := 68) (ts := #[68, 9]) rfl (by kernel_rfl) x10
          replace A : HH g h16 [.lst r6 9 (lst eS x11), .lst r7 9 (lst eS x12), .lst r1 9 (lst eS (sortT (x2.map Prod.fst))), .obj h4.size (.cells none 2 [.map (some bqw2)]), .obj bqw2 (.map 2 (encM (fun k : List UInt8 => .str k) (fun v : Int => .int .i64 v) x2)), .obj h3.size (.cells none 2 [rowV r6 x11.length, .slice none 0, rowV r7 x12.length]), .obj bqw1 (.map 2 (encM (fun k : List UInt8 => .str k) (fun v : Int => .int .i64 v) (mdel x5 x10))), .obj h.size (.cells none 2 [.slice none 0, .slice none 0, .slice none 0])] F := A1
          refine at_step (v := .tuple []) (h1 := h16) [(0, vs e_S_api_Member p0), (1, vs e_S_api_Member p1), (4, .ptr (some (h.size, 0))), (5, .map (some bqw1)), (6, .map (some bqw2)), (7, .ptr (some (h3.size, 0))), (18, rowV r1 ((sortT (x2.map Prod.fst)).length)), (19, .int .i64 ((sortT (x2.map Prod.fst)).length : Int)), (20, .int .i64 x6)] H (fun fr => by kernel_rfl) (fun fr => .of (s_del (by kernel_rfl) hx)) ?_
          intro fr t H
          refine at_nil ?_
          show AW cfg 25 g (right (right (right (left (left (right (left (right (right (right (bodyC cfg.P 25))))))))))) fr h16 _
          refine aw_reg (id := 12) (n := 2) [(0, []), (1, [])] (by kernel_rfl) (by kernel_rfl) ?_
          refine at_seg [(0, []), (1, [])] [(0, vs e_S_api_Member p0), (1, vs e_S_api_Member p1), (4, .ptr (some (h.size, 0))), (5, .map (some bqw1)), (6, .map (some bqw2)), (7, .ptr (some (h3.size, 0))), (18, rowV r1 ((sortT (x2.map Prod.fst)).length)), (19, .int .i64 ((sortT (x2.map Prod.fst)).length : Int)), (20, .int .i64 (IntKind.i64.wrap (x6 + (1 : Int))))] H (noU_all rfl) (fun fr => by kernel_rfl) ?_
          intro fr H
          refine at_nil ?_
          exact Exists.intro (x11, x12, (mdel x5 x10), IntKind.i64.wrap (x6 + (1 : Int))) (And.intro (Option.some.inj hm).symm ⟨x11, x12, (mdel x5 x10), IntKind.i64.wrap (x6 + (1 : Int)), rfl, r6, r7, H.less _ (fun fr => by kernel_rfl), A⟩)
        · exact hF.elim
    · replace H := H.know 21 hb (by kernel_rfl)
      refine aw_false (x := .tmp 21) (by kernel_rfl) H (fun fr => by kernel_rfl) ?_
      refine aw_exit (i := 0) (by kernel_rfl) ?_
      replace A : HH g h7 [.lst r2 9 (lst eS x3), .lst r3 9 (lst eS x4), .obj h4.size (.cells none 2 [.map (some bqw2)]), .obj bqw2 (.map 2 (encM (fun k : List UInt8 => .str k) (fun v : Int => .int .i64 v) x2)), .obj h3.size (.cells none 2 [rowV r2 x3.length, .slice none 0, rowV r3 x4.length]), .obj bqw1 (.map 2 (encM (fun k : List UInt8 => .str k) (fun v : Int => .int .i64 v) x5)), .obj h.size (.cells none 2 [.slice none 0, .slice none 0, .slice none 0])] F := (HH.dropF (((((((A.front 7 rfl).front 7 rfl).front 7 rfl).front 7 rfl).front 7 rfl).front 6 rfl).front 6 rfl) 7)
      exact Exists.intro _ (And.intro (Option.some.inj hm).symm (fun e => Or.inl ⟨x3, x4, x5, rfl, e, r2, r3, H.less _ (fun fr => by kernel_rfl), A⟩))
  · clear ho
    clear A
    intro e fr h17 hQ
    rcases hQ with ⟨x7, x8, x9, rfl, rfl, r4, r5, H, A⟩ | hF
    · skip
      show AW cfg 25 g (right (right (right (right (bodyC cfg.P 25))))) fr h17 _
      refine aw_seq (by kernel_rfl) ?_
      refine aw_reg (id := 13) (n := 5) [(0, []), (1, []), (2, []), (3, []), (4, [])] (by kernel_rfl) (by kernel_rfl) ?_
      refine at_seg [(0, [])] [(4, .ptr (some (h.size, 0))), (7, .ptr (some (h3.size, 0))), (61, .map (some bqw1))] H (noU_all rfl) (fun fr => by kernel_rfl) ?_
      intro fr H
      obtain ⟨h18, e6⟩ : ∃ x, x = h17.push (.cells none 2 [.map (some bqw1)]) := ⟨_, rfl⟩
      replace A := (A.push _).to e6
      have hr : ∀ g, Runs cfg g h17 50 [.map (some bqw1)] (.func (.func 70) [] [.ptr (some (h17.size, 0))]) h18 := fun g => by rw [e6]; exact ⟨2, by kernel_rfl⟩
      refine at_step (v := .func (.func 70) [] [.ptr (some (h17.size, 0))]) (h1 := h18) [(4, .ptr (some (h.size, 0))), (7, .ptr (some (h3.size, 0))), (62, .func (.func 70) [] [.ptr (some (h17.size, 0))])] H (fun fr => by kernel_rfl) (fun fr => Steps.call (by kernel_rfl) (hr _)) ?_
      intro fr t H
      replace A : HH g h18 [.obj h17.size (.cells none 2 [.map (some bqw1)]), .obj bqw1 (.map 2 (encM (fun k : List UInt8 => .str k) (fun v : Int => .int .i64 v) x9)), .lst r4 9 (lst eS x7), .lst r5 9 (lst eS x8), .obj h4.size (.cells none 2 [.map (some bqw2)]), .obj bqw2 (.map 2 (encM (fun k : List UInt8 => .str k) (fun v : Int => .int .i64 v) x2)), .obj h3.size (.cells none 2 [rowV r4 x7.length, .slice none 0, rowV r5 x8.length]), .obj h.size (.cells none 2 [.slice none 0, .slice none 0, .slice none 0])] F := ((A.front 6 rfl).front 1 rfl)
      have A1 := A.cut 2
      obtain ⟨hb, hm⟩ := need_some hm
      obtain ⟨r10, h19, hr, A1⟩ := HH.sorted (C := cfg) (f := 49) (it := 70) (t := 9) (ev := fun v : Int => .int .i64 v) (m := x9) A1 (by kernel_rfl) (l := exts) rfl (by kernel_rfl) 0 1 rfl rfl hb
      replace A : HH g h19 [.lst r10 9 (lst eS (sortT (x9.map Prod.fst))), .obj h17.size (.cells none 2 [.map (some bqw1)]), .obj bqw1 (.map 2 (encM (fun k : List UInt8 => .str k) (fun v : Int => .int .i64 v) x9)), .lst r4 9 (lst eS x7), .lst r5 9 (lst eS x8), .obj h4.size (.cells none 2 [.map (some bqw2)]), .obj bqw2 (.map 2 (encM (fun k : List UInt8 => .str k) (fun v : Int => .int .i64 v) x2)), .obj h3.size (.cells none 2 [rowV r4 x7.length, .slice none 0, rowV r5 x8.length]), .obj h.size (.cells none 2 [.slice none 0, .slice none 0, .slice none 0])] F := A.glue0 (n := 2) A1
      refine at_step (v := rowV r10 ((sortT (x9.map Prod.fst)).length)) (h1 := h19) [(4, .ptr (some (h.size, 0))), (7, .ptr (some (h3.size, 0))), (63, rowV r10 ((sortT (x9.map Prod.fst)).length))] H (fun fr => by kernel_rfl) (fun fr => Steps.call (by kernel_rfl) hr) ?_
      intro fr t H
      refine at_seg [(3, [])] [(4, .ptr (some (h.size, 0))), (7, .ptr (some (h3.size, 0))), (63, rowV r10 ((sortT (x9.map Prod.fst)).length)), (64, .ptr (some (h3.size, 1)))] H (noU_all rfl) (fun fr => by kernel_rfl) ?_
      intro fr H
      obtain ⟨h20, hx, A1⟩ := A.st 7 rfl (o := 1) (new := [rowV r10 ((sortT (x9.map Prod.fst)).length)]) (ds := [rowV r4 x7.length, rowV r10 ((sortT (x9.map Prod.fst)).length), rowV r5 x8.length]) (Nat.le_of_ble_eq_true rfl) rfl rfl
      replace A : HH g h20 [.lst r10 9 (lst eS (sortT (x9.map Prod.fst))), .obj h17.size (.cells none 2 [.map (some bqw1)]), .obj bqw1 (.map 2 (encM (fun k : List UInt8 => .str k) (fun v : Int => .int .i64 v) x9)), .lst r4 9 (lst eS x7), .lst r5 9 (lst eS x8), .obj h4.size (.cells none 2 [.map (some bqw2)]), .obj bqw2 (.map 2 (encM (fun k : List UInt8 => .str k) (fun v : Int => .int .i64 v) x2)), .obj h3.size (.cells none 2 [rowV r4 x7.length, rowV r10 ((sortT (x9.map Prod.fst)).length), rowV r5 x8.length]), .obj h.size (.cells none 2 [.slice none 0, .slice none 0, .slice none 0])] F := A1
      refine at_step (v := .tuple []) (h1 := h20) [(4, .ptr (some (h.size, 0))), (7, .ptr (some (h3.size, 0)))] H (fun fr => by kernel_rfl) (fun fr => .of (s_st (by kernel_rfl) rfl hx)) ?_
      intro fr t H
      refine at_nil ?_
      show AW cfg 25 g (right (right (right (right (right (bodyC cfg.P 25)))))) fr h20 _
      refine aw_seq (by kernel_rfl) ?_
      refine aw_reg (id := 14) (n := 2) [(0, []), (1, [])] (by kernel_rfl) (by kernel_rfl) ?_
      refine at_step (v := .agg [rowV r4 x7.length, rowV r10 ((sortT (x9.map Prod.fst)).length), rowV r5 x8.length]) (h1 := h20) [(4, .ptr (some (h.size, 0))), (65, .agg [rowV r4 x7.length, rowV r10 ((sortT (x9.map Prod.fst)).length), rowV r5 x8.length])] H (fun fr => by kernel_rfl) (fun fr => .of (s_ldA (by kernel_rfl) (A.ldA 7 rfl (o := 0) (n := 3) ⟨Nat.le_of_ble_eq_true rfl, rfl⟩))) ?_
      intro fr t H
      obtain ⟨h21, hx, A1⟩ := A.st 8 rfl (o := 0) (new := [rowV r4 x7.length, rowV r10 ((sortT (x9.map Prod.fst)).length), rowV r5 x8.length]) (ds := [rowV r4 x7.length, rowV r10 ((sortT (x9.map Prod.fst)).length), rowV r5 x8.length]) (Nat.le_of_ble_eq_true rfl) rfl rfl
      replace A : HH g h21 [.lst r10 9 (lst eS (sortT (x9.map Prod.fst))), .obj h17.size (.cells none 2 [.map (some bqw1)]), .obj bqw1 (.map 2 (encM (fun k : List UInt8 => .str k) (fun v : Int => .int .i64 v) x9)), .lst r4 9 (lst eS x7), .lst r5 9 (lst eS x8), .obj h4.size (.cells none 2 [.map (some bqw2)]), .obj bqw2 (.map 2 (encM (fun k : List UInt8 => .str k) (fun v : Int => .int .i64 v) x2)), .obj h3.size (.cells none 2 [rowV r4 x7.length, rowV r10 ((sortT (x9.map Prod.fst)).length), rowV r5 x8.length]), .obj h.size (.cells none 2 [rowV r4 x7.length, rowV r10 ((sortT (x9.map Prod.fst)).length), rowV r5 x8.length])] F := A1
      refine at_step (v := .tuple []) (h1 := h21) [(4, .ptr (some (h.size, 0)))] H (fun fr => by kernel_rfl) (fun fr => .of (s_stG (by kernel_rfl) (stG_st hx rfl))) ?_
      intro fr t H
      refine at_nil ?_
      show AW cfg 25 g (right (right (right (right (right (right (bodyC cfg.P 25))))))) fr h21 _
      refine aw_ret (by kernel_rfl) ?_
      have e1 := Option.some.inj hm
      subst e1
      refine ⟨.inl rfl, .agg [rowV r4 x7.length, rowV r10 ((sortT (x9.map Prod.fst)).length), rowV r5 x8.length], resL_one (.cell (resT H (fun fr => by kernel_rfl)) (load_ldA (by kernel_rfl) (by kernel_rfl) (A.ldA 8 rfl (o := 0) (n := 3) ⟨Nat.le_of_ble_eq_true rfl, rfl⟩)) .nil), ?_⟩
      obtain ⟨h22, hz0, A1⟩ := (A.front 3 rfl).frz (n := x7.length) (z := 1) (encS.lenL _) (by decide)
      replace A : HH g h22 [.lst r10 9 (lst eS (sortT (x9.map Prod.fst))), .obj h17.size (.cells none 2 [.map (some bqw1)]), .obj bqw1 (.map 2 (encM (fun k : List UInt8 => .str k) (fun v : Int => .int .i64 v) x9)), .lst r5 9 (lst eS x8), .obj h4.size (.cells none 2 [.map (some bqw2)]), .obj bqw2 (.map 2 (encM (fun k : List UInt8 => .str k) (fun v : Int => .int .i64 v) x2)), .obj h3.size (.cells none 2 [rowV r4 x7.length, rowV r10 ((sortT (x9.map Prod.fst)).length), rowV r5 x8.length]), .obj h.size (.cells none 2 [rowV r4 x7.length, rowV r10 ((sortT (x9.map Prod.fst)).length), rowV r5 x8.length])] F := A1
      obtain ⟨h23, hz1, A1⟩ := (A.front 0 rfl).frz (n := (sortT (x9.map Prod.fst)).length) (z := 1) (encS.lenL _) (by decide)
      replace A : HH g h23 [.obj h17.size (.cells none 2 [.map (some bqw1)]), .obj bqw1 (.map 2 (encM (fun k : List UInt8 => .str k) (fun v : Int => .int .i64 v) x9)), .lst r5 9 (lst eS x8), .obj h4.size (.cells none 2 [.map (some bqw2)]), .obj bqw2 (.map 2 (encM (fun k : List UInt8 => .str k) (fun v : Int => .int .i64 v) x2)), .obj h3.size (.cells none 2 [rowV r4 x7.length, rowV r10 ((sortT (x9.map Prod.fst)).length), rowV r5 x8.length]), .obj h.size (.cells none 2 [rowV r4 x7.length, rowV r10 ((sortT (x9.map Prod.fst)).length), rowV r5 x8.length])] F := A1
      obtain ⟨h24, hz2, A1⟩ := (A.front 2 rfl).frz (n := x8.length) (z := 1) (encS.lenL _) (by decide)
      replace A : HH g h24 [.obj h17.size (.cells none 2 [.map (some bqw1)]), .obj bqw1 (.map 2 (encM (fun k : List UInt8 => .str k) (fun v : Int => .int .i64 v) x9)), .obj h4.size (.cells none 2 [.map (some bqw2)]), .obj bqw2 (.map 2 (encM (fun k : List UInt8 => .str k) (fun v : Int => .int .i64 v) x2)), .obj h3.size (.cells none 2 [rowV r4 x7.length, rowV r10 ((sortT (x9.map Prod.fst)).length), rowV r5 x8.length]), .obj h.size (.cells none 2 [rowV r4 x7.length, rowV r10 ((sortT (x9.map Prod.fst)).length), rowV r5 x8.length])] F := A1
      refine ⟨.agg [vs eS x7, vs eS (sortT (x9.map Prod.fst)), vs eS x8], h24, by first | rfl | (simp only [fz3T, fz3A, fz3B, fz3R, fz2A, fz2R, fz2V, fz2I, fz2B, fz2S, fz2N, fzL0, fzL1, fz1I, fz1B, fz1S, fz1V, fz1N, Option.map_some, hz0, hz1, hz2] <;> rfl), ?_⟩
      replace A : HH g h24 [] F := (HH.dropF A 0)
      exact ⟨rfl, A⟩
    · exact hF.elim
/-! ### boulter/boulterlaw38.DeltaApplies -/
noncomputable def M_boulterlaw38_DeltaApplies_L1 (x7 : List (List UInt8)) (s : Int) : Option ((Int) ⊕ ((Unit) ⊕ (Bool))) :=
  match s with
  | x8 => iteB (decide (x8 < (x7.length : Int))) ((ixV x7 x8).bind fun x10 => iteB (decide ((x10.length : Int) > (600 : Int))) ((M_boulterlaw38_awake).bind fun x11 => some (.inr (.inr x11))) (some (.inl (IntKind.i64.wrap (x8 + (1 : Int)))))) (some (.inr (.inl ())))
noncomputable def M_boulterlaw38_DeltaApplies_L0 (p2 : S_delta_Diff) (s : Int) : Option ((Int) ⊕ ((Unit) ⊕ (Bool))) :=
  match s with
  | x5 => iteB (decide (x5 < (([p2.Added, p2.Removed, p2.Changed] : List (List (List UInt8))).length : Int))) ((ixV ([p2.Added, p2.Removed, p2.Changed] : List (List (List UInt8))) x5).bind fun x7 => (loop (M_boulterlaw38_DeltaApplies_L1 x7) (0 : Int)).bind fun o2 => (match o2 with | .inl _ => some (.inl (IntKind.i64.wrap (x5 + (1 : Int)))) | .inr x9 => some (.inr (.inr x9)))) (some (.inr (.inl ())))
noncomputable def M_boulterlaw38_DeltaApplies (p0 : List S_api_Member) (p1 : List S_api_Member) (p2 : S_delta_Diff) : Option (Bool) :=
 (M_boulterlaw38_long p0).bind fun x1 => (iteB x1 (some true) ((M_boulterlaw38_long p1).bind fun x3 => some x3) : Option (Bool)).bind fun x2 => iteB (x2 || (decide ((IntKind.i64.wrap ((IntKind.i64.wrap ((p2.Added.length : Int) + (p2.Removed.length : Int))) + (p2.Changed.length : Int))) > (20 : Int)))) ((M_boulterlaw38_awake).bind fun x4 => some x4) ((loop (M_boulterlaw38_DeltaApplies_L0 p2) (0 : Int)).bind fun o1 => (match o1 with | .inl _ => (M_boulterref38_Apply p0 (⟨p2.Added, p2.Removed, p2.Changed⟩ : S_boulterref38_Diff) p1).bind fun x12 => (M_delta_Apply p0 p2 p1).bind fun x13 => (M_boulterref12_Same_sOO x13 x12).bind fun x14 => (iteB x14 ((M_delta_Of p0 p1).bind fun x16 => (M_delta_Apply p0 x16 p1).bind fun x17 => (M_boulterref38_Sorted p1).bind fun x18 => (M_boulterref12_Same_sOO x17 x18).bind fun x19 => some x19) (some false) : Option (Bool)).bind fun x15 => (iteB x15 ((M_boulterlaw38_awake).bind fun x21 => some x21) (some false) : Option (Bool)).bind fun x20 => some x20 | .inr x6 => some x6))
theorem ok_boulterlaw38_DeltaApplies {g : Gd} {h : AHeap} {F : List Ck} {p0 : List S_api_Member} {p1 : List S_api_Member} {p2 : S_delta_Diff} {q0 : Bool} {av : List AVal} (hm : M_boulterlaw38_DeltaApplies p0 p1 p2 = some q0) (hc : canL (cfg.still 7) av = [vs e_S_api_Member p0, vs e_S_api_Member p1, .agg [vs eS p2.Added, vs eS p2.Removed, vs eS p2.Changed]]) (A : HH g h [] F) : ∃ v h', Runs cfg g h 7 av v h' ∧ v = .bool q0 ∧ HH g h' [] F := by
  refine runsQ1 (n := 87) (rs := [.tmp 6]) (by kernel_rfl) hc (by kernel_rfl) ?_
  clear hc
  unfold M_boulterlaw38_DeltaApplies at hm
  refine start (n := 87) [(0, vs e_S_api_Member p0), (1, vs e_S_api_Member p1), (2, .agg [vs eS p2.Added, vs eS p2.Removed, vs eS p2.Changed])] (by kernel_rfl) (by kernel_rfl) ?_
  intro fr H
  refine aw_seq (by kernel_rfl) ?_
  refine aw_reg (id := 0) (n := 2) [(0, []), (1, [])] (by kernel_rfl) (by kernel_rfl) ?_
  obtain ⟨h1, e1⟩ : ∃ x, x = h.push (.cells none 2 [vs eS p2.Added, vs eS p2.Removed, vs eS p2.Changed]) := ⟨_, rfl⟩
  replace A := (A.push _).to e1
  refine at_step (v := .ptr (some (h.size, 0))) (h1 := h1) [(0, vs e_S_api_Member p0), (1, vs e_S_api_Member p1), (5, .ptr (some (h.size, 0)))] H (fun fr => by kernel_rfl) (fun fr => .of (s_n' (by kernel_rfl) (congrArg some e1.symm))) ?_
  intro fr t H
  refine at_seg [(1, [])] [(0, vs e_S_api_Member p0), (1, vs e_S_api_Member p1), (5, .ptr (some (h.size, 0)))] H (noU_all rfl) (fun fr => by kernel_rfl) ?_
  intro fr H
  refine at_nil ?_
  show AW cfg 7 g (right (bodyC cfg.P 7)) fr h1 _
  refine aw_seq (by kernel_rfl) ?_
  refine aw_seq (by kernel_rfl) ?_
  refine aw_reg (id := 1) (n := 20) [(0, []), (1, []), (2, []), (3, []), (4, []), (5, []), (6, []), (7, []), (8, []), (9, []), (10, []), (11, []), (12, []), (13, []), (14, []), (15, []), (16, []), (17, []), (18, []), (19, [])] (by kernel_rfl) (by kernel_rfl) ?_
  refine at_seg [(0, [])] [(0, vs e_S_api_Member p0), (1, vs e_S_api_Member p1), (5, .ptr (some (h.size, 0))), (12, vs e_S_api_Member p0)] H (noU_all rfl) (fun fr => by kernel_rfl) ?_
  intro fr H
  have A1 := A.cut 0
  obtain ⟨x1, hx, hm⟩ := bind_some hm
  obtain ⟨v1, h2, hr, rfl, A1⟩ := ok_boulterlaw38_long (av := [vs e_S_api_Member p0]) hx (by kernel_rfl) A1
  replace A : HH g h2 [.obj h.size (.cells none 2 [vs eS p2.Added, vs eS p2.Removed, vs eS p2.Changed])] F := A.glue0 (n := 0) A1
  refine at_step (v := .bool x1) (h1 := h2) [(0, vs e_S_api_Member p0), (1, vs e_S_api_Member p1), (5, .ptr (some (h.size, 0))), (13, .bool x1)] H (fun fr => by kernel_rfl) (fun fr => Steps.call (by kernel_rfl) hr) ?_
  intro fr t H
  refine at_seg [(2, [])] [(0, vs e_S_api_Member p0), (1, vs e_S_api_Member p1), (5, .ptr (some (h.size, 0))), (14, .bool x1)] H (noU_all rfl) (fun fr => by kernel_rfl) ?_
  intro fr H
  obtain ⟨x2, ho, hm⟩ := bind_some hm
  refine at_cut [(3, []), (4, []), (5, [])] (fun fr' h' => Has fr' 87 [(0, vs e_S_api_Member p0), (1, vs e_S_api_Member p1), (5, .ptr (some (h.size, 0))), (17, .bool x2)] ∧ HH g h' [.obj h.size (.cells none 2 [vs eS p2.Added, vs eS p2.Removed, vs eS p2.Changed])] F) ?_ ?_
  · rcases iteB_some ho with ⟨hb, hm⟩ | ⟨hb, hm⟩
    · replace H := H.know 14 hb (by kernel_rfl)
      refine at_seg [(3, []), (4, []), (5, [])] [(0, vs e_S_api_Member p0), (1, vs e_S_api_Member p1), (5, .ptr (some (h.size, 0))), (17, .bool true)] H (noU_all rfl) (fun fr => by kernel_rfl) ?_
      intro fr H
      have e1 := Option.some.inj hm
      subst e1
      exact at_nil ⟨H.less _ (fun fr => by kernel_rfl), A⟩
    · replace H := H.know 14 hb (by kernel_rfl)
      refine at_seg [(3, [])] [(0, vs e_S_api_Member p0), (1, vs e_S_api_Member p1), (5, .ptr (some (h.size, 0))), (14, .bool false), (15, vs e_S_api_Member p1)] H (noU_all rfl) (fun fr => by kernel_rfl) ?_
      intro fr H
      have A1 := A.cut 0
      obtain ⟨x3, hx, hm⟩ := bind_some hm
      obtain ⟨v1, h4, hr, rfl, A1⟩ := ok_boulterlaw38_long (av := [vs e_S_api_Member p1]) hx (by kernel_rfl) A1
      replace A : HH g h4 [.obj h.size (.cells none 2 [vs eS p2.Added, vs eS p2.Removed, vs eS p2.Changed])] F := A.glue0 (n := 0) A1
      refine at_step (v := .bool x3) (h1 := h4) [(0, vs e_S_api_Member p0), (1, vs e_S_api_Member p1), (5, .ptr (some (h.size, 0))), (14, .bool false), (16, .bool x3)] H (fun fr => by kernel_rfl) (fun fr => Steps.call (by kernel_rfl) hr) ?_
      intro fr t H
      refine at_seg [(5, [])] [(0, vs e_S_api_Member p0), (1, vs e_S_api_Member p1), (5, .ptr (some (h.size, 0))), (17, .bool x3)] H (noU_all rfl) (fun fr => by kernel_rfl) ?_
      intro fr H
      have e1 := Option.some.inj hm
      subst e1
      exact at_nil ⟨H.less _ (fun fr => by kernel_rfl), A⟩
  · clear A
    intro t fr h3 hK
    obtain ⟨H, A⟩ := hK
    refine at_seg [(6, [])] [(0, vs e_S_api_Member p0), (1, vs e_S_api_Member p1), (5, .ptr (some (h.size, 0))), (18, .bool x2)] H (noU_all rfl) (fun fr => by kernel_rfl) ?_
    intro fr H
    refine at_cut [(7, []), (8, []), (9, []), (10, []), (11, []), (12, []), (13, []), (14, []), (15, []), (16, []), (17, []), (18, []), (19, [])] (fun fr' h' => h3 = h' ∧ Has fr' 87 [(0, vs e_S_api_Member p0), (1, vs e_S_api_Member p1), (5, .ptr (some (h.size, 0))), (31, .bool (x2 || (decide ((IntKind.i64.wrap ((IntKind.i64.wrap ((p2.Added.length : Int) + (p2.Removed.length : Int))) + (p2.Changed.length : Int))) > (20 : Int)))))]) ?_ ?_
    · cases hb : (x2 : Bool) with
      | true =>
        replace H := H.know 18 hb (by kernel_rfl)
        refine at_seg [(7, []), (8, []), (9, []), (10, []), (11, []), (12, []), (13, []), (14, []), (15, []), (16, []), (17, []), (18, []), (19, [])] [(0, vs e_S_api_Member p0), (1, vs e_S_api_Member p1), (5, .ptr (some (h.size, 0))), (31, .bool true)] H (noU_all rfl) (fun fr => by kernel_rfl) ?_
        intro fr H
        exact at_nil ⟨rfl, by first | exact H.less _ (fun fr => by rfl) | exact H.less _ (fun fr => by rw [hb]; rfl)⟩
      | false =>
        replace H := H.know 18 hb (by kernel_rfl)
        refine at_seg [(7, [])] [(0, vs e_S_api_Member p0), (1, vs e_S_api_Member p1), (5, .ptr (some (h.size, 0))), (18, .bool false), (19, .ptr (some (h.size, 0)))] H (noU_all rfl) (fun fr => by kernel_rfl) ?_
        intro fr H
        refine at_step (v := vs eS p2.Added) (h1 := h3) [(0, vs e_S_api_Member p0), (1, vs e_S_api_Member p1), (5, .ptr (some (h.size, 0))), (18, .bool false), (20, vs eS p2.Added)] H (fun fr => by kernel_rfl) (fun fr => .of (s_ld (by kernel_rfl) (A.ld1 0 rfl (o := 0) rfl))) ?_
        intro fr t H
        refine at_seg [(9, []), (10, [])] [(0, vs e_S_api_Member p0), (1, vs e_S_api_Member p1), (5, .ptr (some (h.size, 0))), (18, .bool false), (21, .int .i64 (p2.Added.length : Int)), (22, .ptr (some (h.size, 1)))] H (noU_all rfl) (fun fr => by kernel_rfl) ?_
        intro fr H
        refine at_step (v := vs eS p2.Removed) (h1 := h3) [(0, vs e_S_api_Member p0), (1, vs e_S_api_Member p1), (5, .ptr (some (h.size, 0))), (18, .bool false), (21, .int .i64 (p2.Added.length : Int)), (23, vs eS p2.Removed)] H (fun fr => by kernel_rfl) (fun fr => .of (s_ld (by kernel_rfl) (A.ld1 0 rfl (o := 1) rfl))) ?_
        intro fr t H
        refine at_seg [(12, []), (13, []), (14, [])] [(0, vs e_S_api_Member p0), (1, vs e_S_api_Member p1), (5, .ptr (some (h.size, 0))), (18, .bool false), (25, .int .i64 (IntKind.i64.wrap ((p2.Added.length : Int) + (p2.Removed.length : Int)))), (26, .ptr (some (h.size, 2)))] H (noU_all rfl) (fun fr => by kernel_rfl) ?_
        intro fr H
        refine at_step (v := vs eS p2.Changed) (h1 := h3) [(0, vs e_S_api_Member p0), (1, vs e_S_api_Member p1), (5, .ptr (some (h.size, 0))), (18, .bool false), (25, .int .i64 (IntKind.i64.wrap ((p2.Added.length : Int) + (p2.Removed.length : Int)))), (27, vs eS p2.Changed)] H (fun fr => by kernel_rfl) (fun fr => .of (s_ld (by kernel_rfl) (A.ld1 0 rfl (o := 2) rfl))) ?_
        intro fr t H
        refine at_seg [(16, []), (17, []), (18, []), (19, [])] [(0, vs e_S_api_Member p0), (1, vs e_S_api_Member p1), (5, .ptr (some (h.size, 0))), (31, .bool (decide ((IntKind.i64.wrap ((IntKind.i64.wrap ((p2.Added.length : Int) + (p2.Removed.length : Int))) + (p2.Changed.length : Int))) > (20 : Int))))] H (noU_all rfl) (fun fr => by kernel_rfl) ?_
        intro fr H
        exact at_nil ⟨rfl, by first | exact H.less _ (fun fr => by rfl) | exact H.less _ (fun fr => by rw [hb]; rfl)⟩
    · intro t fr h' hK
      obtain ⟨e, H⟩ := hK
      subst e
      refine at_nil ?_
      show AW cfg 7 g (right (left (right (bodyC cfg.P 7)))) fr h3 _
      rcases iteB_some hm with ⟨hb, hm⟩ | ⟨hb, hm⟩
      · replace H := H.know 31 hb (by kernel_rfl)
        refine aw_true (x := .tmp 31) (by kernel_rfl) H (fun fr => by kernel_rfl) ?_
        refine aw_seq (by kernel_rfl) ?_
        refine aw_reg (id := 2) (n := 2) [(0, []), (1, [])] (by kernel_rfl) (by kernel_rfl) ?_
        obtain ⟨x4, hx, hm⟩ := bind_some hm
        refine at_step (v := .bool x4) (h1 := h3) [(32, .bool x4)] H (fun fr => by kernel_rfl) (fun fr => Steps.call (by kernel_rfl) (ok_boulterlaw38_awake hx)) ?_
        intro fr t H
        refine at_seg [(1, [])] [(6, .bool x4)] H (noU_all rfl) (fun fr => by kernel_rfl) ?_
        intro fr H
        refine at_nil ?_
        show AW cfg 7 g (right (left (right (left (right (bodyC cfg.P 7)))))) fr h3 _
        refine aw_ret (by kernel_rfl) ?_
        have e1 := Option.some.inj hm
        subst e1
        refine ⟨.inl rfl, .bool x4, resH H (fun fr => by kernel_rfl), ?_⟩
        replace A : HH g h3 [] F := (HH.dropF A 0)
        exact ⟨rfl, A⟩
      · replace H := H.know 31 hb (by kernel_rfl)
        refine aw_false (x := .tmp 31) (by kernel_rfl) H (fun fr => by kernel_rfl) ?_
        refine aw_skip (by kernel_rfl) ?_
        show AW cfg 7 g (right (right (bodyC cfg.P 7))) fr h3 _
        refine aw_seq (by kernel_rfl) ?_
        refine aw_seq (by kernel_rfl) ?_
        refine aw_reg (id := 3) (n := 9) [(0, []), (1, []), (2, []), (3, []), (4, []), (5, []), (6, []), (7, []), (8, [])] (by kernel_rfl) (by kernel_rfl) ?_
        refine at_seg [(0, [])] [(0, vs e_S_api_Member p0), (1, vs e_S_api_Member p1), (5, .ptr (some (h.size, 0))), (33, .ptr (some (h.size, 0)))] H (noU_all rfl) (fun fr => by kernel_rfl) ?_
        intro fr H
        refine at_step (v := vs eS p2.Added) (h1 := h3) [(0, vs e_S_api_Member p0), (1, vs e_S_api_Member p1), (5, .ptr (some (h.size, 0))), (34, vs eS p2.Added)] H (fun fr => by kernel_rfl) (fun fr => .of (s_ld (by kernel_rfl) (A.ld1 0 rfl (o := 0) rfl))) ?_
        intro fr t H
        refine at_seg [(2, [])] [(0, vs e_S_api_Member p0), (1, vs e_S_api_Member p1), (5, .ptr (some (h.size, 0))), (34, vs eS p2.Added), (35, .ptr (some (h.size, 1)))] H (noU_all rfl) (fun fr => by kernel_rfl) ?_
        intro fr H
        refine at_step (v := vs eS p2.Removed) (h1 := h3) [(0, vs e_S_api_Member p0), (1, vs e_S_api_Member p1), (5, .ptr (some (h.size, 0))), (34, vs eS p2.Added), (36, vs eS p2.Removed)] H (fun fr => by kernel_rfl) (fun fr => .of (s_ld (by kernel_rfl) (A.ld1 0 rfl (o := 1) rfl))) ?_
        intro fr t H
        refine at_seg [(4, [])] [(0, vs e_S_api_Member p0), (1, vs e_S_api_Member p1), (5, .ptr (some (h.size, 0))), (34, vs eS p2.Added), (36, vs eS p2.Removed), (37, .ptr (some (h.size, 2)))] H (noU_all rfl) (fun fr => by kernel_rfl) ?_
        intro fr H
        refine at_step (v := vs eS p2.Changed) (h1 := h3) [(0, vs e_S_api_Member p0), (1, vs e_S_api_Member p1), (5, .ptr (some (h.size, 0))), (34, vs eS p2.Added), (36, vs eS p2.Removed), (38, vs eS p2.Changed)] H (fun fr => by kernel_rfl) (fun fr => .of (s_ld (by kernel_rfl) (A.ld1 0 rfl (o := 2) rfl))) ?_
        intro fr t H
        obtain ⟨h5, e2⟩ : ∃ x, x = h3.push (.cells (some 27) 2 [vs eS p2.Added, vs eS p2.Removed, vs eS p2.Changed]) := ⟨_, rfl⟩
        replace A := (A.pushL _ _).to e2
        refine at_step (v := rowV (some h3.size) (([p2.Added, p2.Removed, p2.Changed] : List (List (List UInt8))).length)) (h1 := h5) [(0, vs e_S_api_Member p0), (1, vs e_S_api_Member p1), (5, .ptr (some (h.size, 0))), (39, rowV (some h3.size) (([p2.Added, p2.Removed, p2.Changed] : List (List (List UInt8))).length))] H (fun fr => by kernel_rfl) (fun fr => .of (s_n' (by kernel_rfl) (congrArg some e2.symm))) ?_
        intro fr t H
        refine at_seg [(7, []), (8, [])] [(0, vs e_S_api_Member p0), (1, vs e_S_api_Member p1), (5, .ptr (some (h.size, 0))), (39, rowV (some h3.size) (([p2.Added, p2.Removed, p2.Changed] : List (List (List UInt8))).length)), (40, .int .i64 (([p2.Added, p2.Removed, p2.Changed] : List (List (List UInt8))).length : Int)), (41, .int .i64 (0 : Int))] H (noU_all rfl) (fun fr => by kernel_rfl) ?_
        intro fr H
        refine at_nil ?_
        show AW cfg 7 g (right (left (right (right (bodyC cfg.P 7))))) fr h5 _
        refine aw_block (id := 0) (by kernel_rfl) ?_
        replace A : HH g h5 [.lst (some h3.size) 27 (lst (eL eS) ([p2.Added, p2.Removed, p2.Changed] : List (List (List UInt8)))), .obj h.size (.cells none 2 [vs eS p2.Added, vs eS p2.Removed, vs eS p2.Changed])] F := A
        obtain ⟨o1, ho, hm⟩ := bind_some hm
        refine aw_mono (Q' := fun e fr' h' => (e = .exit 0 ∧ .inl () = o1 ∧ Has fr' 87 [(0, vs e_S_api_Member p0), (1, vs e_S_api_Member p1), (5, .ptr (some (h.size, 0)))] ∧ HH g h' [.obj h.size (.cells none 2 [vs eS p2.Added, vs eS p2.Removed, vs eS p2.Changed])] F) ∨ (∃ (x6 : Bool), e = .ret ∧ .inr x6 = o1 ∧ Has fr' 87 [(6, .bool x6)] ∧ HH g h' [.obj h.size (.cells none 2 [vs eS p2.Added, vs eS p2.Removed, vs eS p2.Changed])] F) ∨ False) ?_ ?_
        · refine aw_loop (by kernel_rfl) (fun (s : Int) fr' h' => ∃ (x5 : Int), x5 = s ∧ Has fr' 87 [(0, vs e_S_api_Member p0), (1, vs e_S_api_Member p1), (5, .ptr (some (h.size, 0))), (39, rowV (some h3.size) (([p2.Added, p2.Removed, p2.Changed] : List (List (List UInt8))).length)), (40, .int .i64 (([p2.Added, p2.Removed, p2.Changed] : List (List (List UInt8))).length : Int)), (41, .int .i64 x5)] ∧ HH g h' [.lst (some h3.size) 27 (lst (eL eS) ([p2.Added, p2.Removed, p2.Changed] : List (List (List UInt8)))), .obj h.size (.cells none 2 [vs eS p2.Added, vs eS p2.Removed, vs eS p2.Changed])] F) ho ⟨(0 : Int), rfl, H.less _ (fun fr => by kernel_rfl), A⟩ ?_
          clear ho hm H A
          intro s q fr h6 hI hm
          obtain ⟨x5, rfl, H, A⟩ := hI
          unfold M_boulterlaw38_DeltaApplies_L0 at hm
          refine aw_seq (by kernel_rfl) ?_
          refine aw_reg (id := 4) (n := 1) [(0, [])] (by kernel_rfl) (by kernel_rfl) ?_
          refine at_seg [(0, [])] [(0, vs e_S_api_Member p0), (1, vs e_S_api_Member p1), (5, .ptr (some (h.size, 0))), (39, rowV (some h3.size) (([p2.Added, p2.Removed, p2.Changed] : List (List (List UInt8))).length)), (40, .int .i64 (([p2.Added, p2.Removed, p2.Changed] : List (List (List UInt8))).length : Int)), (41, .int .i64 x5), (42, .bool (decide (x5 < (([p2.Added, p2.Removed, p2.Changed] : List (List (List UInt8))).length : Int))))] H (noU_all rfl) (fun fr => by kernel_rfl) ?_
          intro fr H
          refine at_nil ?_
          show AW cfg 7 g (right (left (left (right (left (right (right (bodyC cfg.P 7)))))))) fr h6 _
          refine aw_seq (by kernel_rfl) ?_
          rcases iteB_some hm with ⟨hb, hm⟩ | ⟨hb, hm⟩
          · replace H := H.know 42 hb (by kernel_rfl)
            refine aw_true (x := .tmp 42) (by kernel_rfl) H (fun fr => by kernel_rfl) ?_
            refine aw_skip (by kernel_rfl) ?_
            show AW cfg 7 g (right (right (left (left (right (left (right (right (bodyC cfg.P 7))))))))) fr h6 _
            refine aw_seq (by kernel_rfl) ?_
            refine aw_block (id := 1) (by kernel_rfl) ?_
            refine aw_seq (by kernel_rfl) ?_
            refine aw_reg (id := 5) (n := 3) [(0, []), (1, []), (2, [])] (by kernel_rfl) (by kernel_rfl) ?_
            obtain ⟨x7, hx, hm⟩ := bind_some hm
            obtain ⟨i1, er1, _, hx, hq1⟩ := HH.ixO (encL _) (by decide) A 0 (xs := ([p2.Added, p2.Removed, p2.Changed] : List (List (List UInt8)))) rfl hx
            refine at_step (v := .ptr (some (i1, x5.toNat * 1))) (h1 := h6) [(0, vs e_S_api_Member p0), (1, vs e_S_api_Member p1), (5, .ptr (some (h.size, 0))), (39, rowV (some h3.size) (([p2.Added, p2.Removed, p2.Changed] : List (List (List UInt8))).length)), (40, .int .i64 (([p2.Added, p2.Removed, p2.Changed] : List (List (List UInt8))).length : Int)), (41, .int .i64 x5), (43, .ptr (some (i1, x5.toNat * 1)))] H (fun fr => by kernel_rfl) (fun fr => .of (s_ixL (s := rowS (some h3.size) (([p2.Added, p2.Removed, p2.Changed] : List (List (List UInt8))).length)) (by kernel_rfl) hx)) ?_
            intro fr t H
            refine at_step (v := vs eS x7) (h1 := h6) [(0, vs e_S_api_Member p0), (1, vs e_S_api_Member p1), (5, .ptr (some (h.size, 0))), (39, rowV (some h3.size) (([p2.Added, p2.Removed, p2.Changed] : List (List (List UInt8))).length)), (40, .int .i64 (([p2.Added, p2.Removed, p2.Changed] : List (List (List UInt8))).length : Int)), (41, .int .i64 x5), (44, vs eS x7)] H (fun fr => by kernel_rfl) (fun fr => .of (s_ld (by kernel_rfl) (row_ld1 (encL _) (HH.row A 0 rfl er1) hq1 (o := 0) rfl))) ?_
            intro fr t H
            refine at_seg [(2, [])] [(0, vs e_S_api_Member p0), (1, vs e_S_api_Member p1), (5, .ptr (some (h.size, 0))), (8, vs eS x7), (39, rowV (some h3.size) (([p2.Added, p2.Removed, p2.Changed] : List (List (List UInt8))).length)), (40, .int .i64 (([p2.Added, p2.Removed, p2.Changed] : List (List (List UInt8))).length : Int)), (41, .int .i64 x5)] H (noU_all rfl) (fun fr => by kernel_rfl) ?_
            intro fr H
            refine at_nil ?_
            show AW cfg 7 g (right (left (left (right (right (left (left (right (left (right (right (bodyC cfg.P 7)))))))))))) fr h6 _
            refine aw_seq (by kernel_rfl) ?_
            refine aw_reg (id := 6) (n := 3) [(0, []), (1, []), (2, [])] (by kernel_rfl) (by kernel_rfl) ?_
            refine at_seg [(0, []), (1, []), (2, [])] [(0, vs e_S_api_Member p0), (1, vs e_S_api_Member p1), (5, .ptr (some (h.size, 0))), (39, rowV (some h3.size) (([p2.Added, p2.Removed, p2.Changed] : List (List (List UInt8))).length)), (40, .int .i64 (([p2.Added, p2.Removed, p2.Changed] : List (List (List UInt8))).length : Int)), (41, .int .i64 x5), (45, vs eS x7), (46, .int .i64 (x7.length : Int)), (47, .int .i64 (0 : Int))] H (noU_all rfl) (fun fr => by kernel_rfl) ?_
            intro fr H
            refine at_nil ?_
            show AW cfg 7 g (right (right (left (left (right (right (left (left (right (left (right (right (bodyC cfg.P 7))))))))))))) fr h6 _
            refine aw_block (id := 2) (by kernel_rfl) ?_
            obtain ⟨o2, ho, hm⟩ := bind_some hm
            refine aw_mono (Q' := fun e fr' h' => (e = .exit 2 ∧ .inl () = o2 ∧ Has fr' 87 [(0, vs e_S_api_Member p0), (1, vs e_S_api_Member p1), (5, .ptr (some (h.size, 0))), (39, rowV (some h3.size) (([p2.Added, p2.Removed, p2.Changed] : List (List (List UInt8))).length)), (40, .int .i64 (([p2.Added, p2.Removed, p2.Changed] : List (List (List UInt8))).length : Int)), (41, .int .i64 x5)] ∧ HH g h' [.lst (some h3.size) 27 (lst (eL eS) ([p2.Added, p2.Removed, p2.Changed] : List (List (List UInt8)))), .obj h.size (.cells none 2 [vs eS p2.Added, vs eS p2.Removed, vs eS p2.Changed])] F) ∨ (∃ (x9 : Bool), e = .ret ∧ .inr x9 = o2 ∧ Has fr' 87 [(6, .bool x9)] ∧ HH g h' [.obj h.size (.cells none 2 [vs eS p2.Added, vs eS p2.Removed, vs eS p2.Changed])] F) ∨ False) ?_ ?_
            · refine aw_loop (by kernel_rfl) (fun (s : Int) fr' h' => ∃ (x8 : Int), x8 = s ∧ Has fr' 87 [(0, vs e_S_api_Member p0), (1, vs e_S_api_Member p1), (5, .ptr (some (h.size, 0))), (39, rowV (some h3.size) (([p2.Added, p2.Removed, p2.Changed] : List (List (List UInt8))).length)), (40, .int .i64 (([p2.Added, p2.Removed, p2.Changed] : List (List (List UInt8))).length : Int)), (41, .int .i64 x5), (45, vs eS x7), (46, .int .i64 (x7.length : Int)), (47, .int .i64 x8)] ∧ HH g h' [.lst (some h3.size) 27 (lst (eL eS) ([p2.Added, p2.Removed, p2.Changed] : List (List (List UInt8)))), .obj h.size (.cells none 2 [vs eS p2.Added, vs eS p2.Removed, vs eS p2.Changed])] F) ho ⟨(0 : Int), rfl, H.less _ (fun fr => by kernel_rfl), A⟩ ?_
              clear ho hm H A
              intro s q fr h7 hI hm
              obtain ⟨x8, rfl, H, A⟩ := hI
              unfold M_boulterlaw38_DeltaApplies_L1 at hm
              refine aw_seq (by kernel_rfl) ?_
              refine aw_reg (id := 7) (n := 1) [(0, [])] (by kernel_rfl) (by kernel_rfl) ?_
              refine at_seg [(0, [])] [(0, vs e_S_api_Member p0), (1, vs e_S_api_Member p1), (5, .ptr (some (h.size, 0))), (39, rowV (some h3.size) (([p2.Added, p2.Removed, p2.Changed] : List (List (List UInt8))).length)), (40, .int .i64 (([p2.Added, p2.Removed, p2.Changed] : List (List (List UInt8))).length : Int)), (41, .int .i64 x5), (45, vs eS x7), (46, .int .i64 (x7.length : Int)), (47, .int .i64 x8), (48, .bool (decide (x8 < (x7.length : Int))))] H (noU_all rfl) (fun fr => by kernel_rfl) ?_
              intro fr H
              refine at_nil ?_
              show AW cfg 7 g (right (left (left (right (right (left (left (right (right (left (left (right (left (right (right (bodyC cfg.P 7)))))))))))))))) fr h7 _
              refine aw_seq (by kernel_rfl) ?_
              rcases iteB_some hm with ⟨hb, hm⟩ | ⟨hb, hm⟩
              · replace H := H.know 48 hb (by kernel_rfl)
                refine aw_true (x := .tmp 48) (by kernel_rfl) H (fun fr => by kernel_rfl) ?_
                refine aw_skip (by kernel_rfl) ?_
                show AW cfg 7 g (right (right (left (left (right (right (left (left (right (right (left (left (right (left (right (right (bodyC cfg.P 7))))))))))))))))) fr h7 _
                refine aw_seq (by kernel_rfl) ?_
                refine aw_block (id := 3) (by kernel_rfl) ?_
                refine aw_seq (by kernel_rfl) ?_
                refine aw_reg (id := 8) (n := 3) [(0, []), (1, []), (2, [])] (by kernel_rfl) (by kernel_rfl) ?_
                obtain ⟨x10, hx, hm⟩ := bind_some hm
                refine at_step (v := .vptr [.str x10]) (h1 := h7) [(0, vs e_S_api_Member p0), (1, vs e_S_api_Member p1), (5, .ptr (some (h.size, 0))), (39, rowV (some h3.size) (([p2.Added, p2.Removed, p2.Changed] : List (List (List UInt8))).length)), (40, .int .i64 (([p2.Added, p2.Removed, p2.Changed] : List (List (List UInt8))).length : Int)), (41, .int .i64 x5), (45, vs eS x7), (46, .int .i64 (x7.length : Int)), (47, .int .i64 x8), (49, .vptr [.str x10])] H (fun fr => by kernel_rfl) (fun fr => .of (s_ixV (e := eS) (x := x10) encS (by decide) (by kernel_rfl) hx)) ?_
                intro fr t H
                refine at_step (v := .str x10) (h1 := h7) [(0, vs e_S_api_Member p0), (1, vs e_S_api_Member p1), (5, .ptr (some (h.size, 0))), (39, rowV (some h3.size) (([p2.Added, p2.Removed, p2.Changed] : List (List (List UInt8))).length)), (40, .int .i64 (([p2.Added, p2.Removed, p2.Changed] : List (List (List UInt8))).length : Int)), (41, .int .i64 x5), (45, vs eS x7), (46, .int .i64 (x7.length : Int)), (47, .int .i64 x8), (50, .str x10)] H (fun fr => by kernel_rfl) (fun fr => .of (s_lv (by kernel_rfl))) ?_
                intro fr t H
                refine at_seg [(2, [])] [(0, vs e_S_api_Member p0), (1, vs e_S_api_Member p1), (5, .ptr (some (h.size, 0))), (10, .str x10), (39, rowV (some h3.size) (([p2.Added, p2.Removed, p2.Changed] : List (List (List UInt8))).length)), (40, .int .i64 (([p2.Added, p2.Removed, p2.Changed] : List (List (List UInt8))).length : Int)), (41, .int .i64 x5), (45, vs eS x7), (46, .int .i64 (x7.length : Int)), (47, .int .i64 x8)] H (noU_all rfl) (fun fr => by kernel_rfl) ?_
                intro fr H
                refine at_nil ?_
                show AW cfg 7 g (right (left (left (right (right (left (left (right (right (left (left (right (right (left (left (right (left (right (right (bodyC cfg.P 7)))))))))))))))))))) fr h7 _
                refine aw_seq (by kernel_rfl) ?_
                refine aw_reg (id := 9) (n := 3) [(0, []), (1, []), (2, [])] (by kernel_rfl) (by kernel_rfl) ?_
                refine at_seg [(0, []), (1, []), (2, [])] [(0, vs e_S_api_Member p0), (1, vs e_S_api_Member p1), (5, .ptr (some (h.size, 0))), (39, rowV (some h3.size) (([p2.Added, p2.Removed, p2.Changed] : List (List (List UInt8))).length)), (40, .int .i64 (([p2.Added, p2.Removed, p2.Changed] : List (List (List UInt8))).length : Int)), (41, .int .i64 x5), (45, vs eS x7), (46, .int .i64 (x7.length : Int)), (47, .int .i64 x8), (53, .bool (decide ((x10.length : Int) > (600 : Int))))] H (noU_all rfl) (fun fr => by kernel_rfl) ?_
                intro fr H
                refine at_nil ?_
                show AW cfg 7 g (right (right (left (left (right (right (left (left (right (right (left (left (right (right (left (left (right (left (right (right (bodyC cfg.P 7))))))))))))))))))))) fr h7 _
                rcases iteB_some hm with ⟨hb, hm⟩ | ⟨hb, hm⟩
                · replace H := H.know 53 hb (by kernel_rfl)
                  refine aw_true (x := .tmp 53) (by kernel_rfl) H (fun fr => by kernel_rfl) ?_
                  refine aw_seq (by kernel_rfl) ?_
                  refine aw_reg (id := 10) (n := 2) [(0, []), (1, [])] (by kernel_rfl) (by kernel_rfl) ?_
                  obtain ⟨x11, hx, hm⟩ := bind_some hm
                  refine at_step (v := .bool x11) (h1 := h7) [(54, .bool x11)] H (fun fr => by kernel_rfl) (fun fr => Steps.call (by kernel_rfl) (ok_boulterlaw38_awake hx)) ?_
                  intro fr t H
                  refine at_seg [(1, [])] [(6, .bool x11)] H (noU_all rfl) (fun fr => by kernel_rfl) ?_
                  intro fr H
                  refine at_nil ?_
                  show AW cfg 7 g (right (left (right (right (left (left (right (right (left (left (right (right (left (left (right (right (left (left (right (left (right (right (bodyC cfg.P 7))))))))))))))))))))))) fr h7 _
                  refine aw_ret (by kernel_rfl) ?_
                  replace A : HH g h7 [.obj h.size (.cells none 2 [vs eS p2.Added, vs eS p2.Removed, vs eS p2.Changed])] F := (HH.dropF (A.front 1 rfl) 1)
                  exact Exists.intro _ (And.intro (Option.some.inj hm).symm (fun e => Or.inr (Or.inl ⟨x11, rfl, e, H.less _ (fun fr => by kernel_rfl), A⟩)))
                · replace H := H.know 53 hb (by kernel_rfl)
                  refine aw_false (x := .tmp 53) (by kernel_rfl) H (fun fr => by kernel_rfl) ?_
                  refine aw_skip (by kernel_rfl) ?_
                  show AW cfg 7 g (right (right (right (left (left (right (right (left (left (right (right (left (left (right (left (right (right (bodyC cfg.P 7)))))))))))))))))) fr h7 _
                  refine aw_reg (id := 11) (n := 2) [(0, []), (1, [])] (by kernel_rfl) (by kernel_rfl) ?_
                  refine at_seg [(0, []), (1, [])] [(0, vs e_S_api_Member p0), (1, vs e_S_api_Member p1), (5, .ptr (some (h.size, 0))), (39, rowV (some h3.size) (([p2.Added, p2.Removed, p2.Changed] : List (List (List UInt8))).length)), (40, .int .i64 (([p2.Added, p2.Removed, p2.Changed] : List (List (List UInt8))).length : Int)), (41, .int .i64 x5), (45, vs eS x7), (46, .int .i64 (x7.length : Int)), (47, .int .i64 (IntKind.i64.wrap (x8 + (1 : Int))))] H (noU_all rfl) (fun fr => by kernel_rfl) ?_
                  intro fr H
                  refine at_nil ?_
                  exact Exists.intro (IntKind.i64.wrap (x8 + (1 : Int))) (And.intro (Option.some.inj hm).symm ⟨IntKind.i64.wrap (x8 + (1 : Int)), rfl, H.less _ (fun fr => by kernel_rfl), A⟩)
              · replace H := H.know 48 hb (by kernel_rfl)
                refine aw_false (x := .tmp 48) (by kernel_rfl) H (fun fr => by kernel_rfl) ?_
                refine aw_exit (i := 2) (by kernel_rfl) ?_
                exact Exists.intro _ (And.intro (Option.some.inj hm).symm (fun e => Or.inl ⟨rfl, e, H.less _ (fun fr => by kernel_rfl), A⟩))
            · clear ho
              clear A
              intro e fr h8 hQ
              rcases hQ with ⟨rfl, rfl, H, A⟩ | ⟨x9, rfl, rfl, H, A⟩ | hF
              · skip
                show AW cfg 7 g (right (right (right (left (left (right (left (right (right (bodyC cfg.P 7)))))))))) fr h8 _
                refine aw_reg (id := 12) (n := 2) [(0, []), (1, [])] (by kernel_rfl) (by kernel_rfl) ?_
                refine at_seg [(0, []), (1, [])] [(0, vs e_S_api_Member p0), (1, vs e_S_api_Member p1), (5, .ptr (some (h.size, 0))), (39, rowV (some h3.size) (([p2.Added, p2.Removed, p2.Changed] : List (List (List UInt8))).length)), (40, .int .i64 (([p2.Added, p2.Removed, p2.Changed] : List (List (List UInt8))).length : Int)), (41, .int .i64 (IntKind.i64.wrap (x5 + (1 : Int))))] H (noU_all rfl) (fun fr => by kernel_rfl) ?_
                intro fr H
                refine at_nil ?_
                exact Exists.intro (IntKind.i64.wrap (x5 + (1 : Int))) (And.intro (Option.some.inj hm).symm ⟨IntKind.i64.wrap (x5 + (1 : Int)), rfl, H.less _ (fun fr => by kernel_rfl), A⟩)
              · skip
                exact Exists.intro _ (And.intro (Option.some.inj hm).symm (fun e => Or.inr (Or.inl ⟨x9, rfl, e, H.less _ (fun fr => by kernel_rfl), A⟩)))
              · exact hF.elim
          · replace H := H.know 42 hb (by kernel_rfl)
            refine aw_false (x := .tmp 42) (by kernel_rfl) H (fun fr => by kernel_rfl) ?_
            refine aw_exit (i := 0) (by kernel_rfl) ?_
            replace A : HH g h6 [.obj h.size (.cells none 2 [vs eS p2.Added, vs eS p2.Removed, vs eS p2.Changed])] F := (HH.dropF (A.front 1 rfl) 1)
            exact Exists.intro _ (And.intro (Option.some.inj hm).symm (fun e => Or.inl ⟨rfl, e, H.less _ (fun fr => by kernel_rfl), A⟩))
        · clear ho
          clear A
          intro e fr h9 hQ
          rcases hQ with ⟨rfl, rfl, H, A⟩ | ⟨x6, rfl, rfl, H, A⟩ | hF
          · skip
            show AW cfg 7 g (right (right (right (bodyC cfg.P 7)))) fr h9 _
            refine aw_seq (by kernel_rfl) ?_
            refine aw_reg (id := 13) (n := 11) [(0, []), (1, []), (2, []), (3, []), (4, []), (5, []), (6, []), (7, []), (8, []), (9, []), (10, [])] (by kernel_rfl) (by kernel_rfl) ?_
            refine at_seg [(0, []), (1, [])] [(0, vs e_S_api_Member p0), (1, vs e_S_api_Member p1), (5, .ptr (some (h.size, 0))), (57, vs e_S_api_Member p0), (58, .ptr (some (h.size, 0)))] H (noU_all rfl) (fun fr => by kernel_rfl) ?_
            intro fr H
            refine at_step (v := vs eS p2.Added) (h1 := h9) [(0, vs e_S_api_Member p0), (1, vs e_S_api_Member p1), (5, .ptr (some (h.size, 0))), (57, vs e_S_api_Member p0), (59, vs eS p2.Added)] H (fun fr => by kernel_rfl) (fun fr => .of (s_ld (by kernel_rfl) (A.ld1 0 rfl (o := 0) rfl))) ?_
            intro fr t H
            refine at_seg [(3, [])] [(0, vs e_S_api_Member p0), (1, vs e_S_api_Member p1), (5, .ptr (some (h.size, 0))), (57, vs e_S_api_Member p0), (59, vs eS p2.Added), (60, .ptr (some (h.size, 1)))] H (noU_all rfl) (fun fr => by kernel_rfl) ?_
            intro fr H
            refine at_step (v := vs eS p2.Removed) (h1 := h9) [(0, vs e_S_api_Member p0), (1, vs e_S_api_Member p1), (5, .ptr (some (h.size, 0))), (57, vs e_S_api_Member p0), (59, vs eS p2.Added), (61, vs eS p2.Removed)] H (fun fr => by kernel_rfl) (fun fr => .of (s_ld (by kernel_rfl) (A.ld1 0 rfl (o := 1) rfl))) ?_
            intro fr t H
            refine at_seg [(5, [])] [(0, vs e_S_api_Member p0), (1, vs e_S_api_Member p1), (5, .ptr (some (h.size, 0))), (57, vs e_S_api_Member p0), (59, vs eS p2.Added), (61, vs eS p2.Removed), (62, .ptr (some (h.size, 2)))] H (noU_all rfl) (fun fr => by kernel_rfl) ?_
            intro fr H
            refine at_step (v := vs eS p2.Changed) (h1 := h9) [(0, vs e_S_api_Member p0), (1, vs e_S_api_Member p1), (5, .ptr (some (h.size, 0))), (57, vs e_S_api_Member p0), (59, vs eS p2.Added), (61, vs eS p2.Removed), (63, vs eS p2.Changed)] H (fun fr => by kernel_rfl) (fun fr => .of (s_ld (by kernel_rfl) (A.ld1 0 rfl (o := 2) rfl))) ?_
            intro fr t H
            refine at_seg [(7, []), (8, [])] [(0, vs e_S_api_Member p0), (1, vs e_S_api_Member p1), (5, .ptr (some (h.size, 0))), (57, vs e_S_api_Member p0), (64, .agg [vs eS p2.Added, vs eS p2.Removed, vs eS p2.Changed]), (65, vs e_S_api_Member p1)] H (noU_all rfl) (fun fr => by kernel_rfl) ?_
            intro fr H
            have A1 := A.cut 0
            obtain ⟨x12, hx, hm⟩ := bind_some hm
            obtain ⟨v1, h10, hr, rqw3, rfl, A1⟩ := ok_boulterref38_Apply (av := [vs e_S_api_Member p0, .agg [vs eS p2.Added, vs eS p2.Removed, vs eS p2.Changed], vs e_S_api_Member p1]) hx (by kernel_rfl) A1
            replace A : HH g h10 [.lst rqw3 63 (lst e_S_api_Member x12), .obj h.size (.cells none 2 [vs eS p2.Added, vs eS p2.Removed, vs eS p2.Changed])] F := A.glue0 (n := 0) A1
            refine at_step (v := rowV rqw3 x12.length) (h1 := h10) [(0, vs e_S_api_Member p0), (1, vs e_S_api_Member p1), (5, .ptr (some (h.size, 0))), (66, rowV rqw3 x12.length)] H (fun fr => by kernel_rfl) (fun fr => Steps.call (by kernel_rfl) hr) ?_
            intro fr t H
            refine at_seg [(10, [])] [(0, vs e_S_api_Member p0), (1, vs e_S_api_Member p1), (5, .ptr (some (h.size, 0))), (11, rowV rqw3 x12.length)] H (noU_all rfl) (fun fr => by kernel_rfl) ?_
            intro fr H
            refine at_nil ?_
            show AW cfg 7 g (right (right (right (right (bodyC cfg.P 7))))) fr h10 _
            refine aw_seq (by kernel_rfl) ?_
            refine aw_reg (id := 14) (n := 21) [(0, []), (1, []), (2, []), (3, []), (4, []), (5, []), (6, []), (7, []), (8, []), (9, []), (10, []), (11, []), (12, []), (13, []), (14, []), (15, []), (16, []), (17, []), (18, []), (19, []), (20, [])] (by kernel_rfl) (by kernel_rfl) ?_
            refine at_seg [(0, [])] [(0, vs e_S_api_Member p0), (1, vs e_S_api_Member p1), (5, .ptr (some (h.size, 0))), (11, rowV rqw3 x12.length), (67, vs e_S_api_Member p0)] H (noU_all rfl) (fun fr => by kernel_rfl) ?_
            intro fr H
            refine at_step (v := .agg [vs eS p2.Added, vs eS p2.Removed, vs eS p2.Changed]) (h1 := h10) [(0, vs e_S_api_Member p0), (1, vs e_S_api_Member p1), (11, rowV rqw3 x12.length), (67, vs e_S_api_Member p0), (68, .agg [vs eS p2.Added, vs eS p2.Removed, vs eS p2.Changed])] H (fun fr => by kernel_rfl) (fun fr => .of (s_ldA (by kernel_rfl) (A.ldA 1 rfl (o := 0) (n := 3) ⟨Nat.le_of_ble_eq_true rfl, rfl⟩))) ?_
            intro fr t H
            refine at_seg [(2, [])] [(0, vs e_S_api_Member p0), (1, vs e_S_api_Member p1), (11, rowV rqw3 x12.length), (67, vs e_S_api_Member p0), (68, .agg [vs eS p2.Added, vs eS p2.Removed, vs eS p2.Changed]), (69, vs e_S_api_Member p1)] H (noU_all rfl) (fun fr => by kernel_rfl) ?_
            intro fr H
            have A1 := A.cut 0
            obtain ⟨x13, hx, hm⟩ := bind_some hm
            obtain ⟨v1, h11, hr, rqw4, rfl, A1⟩ := ok_delta_Apply (av := [vs e_S_api_Member p0, .agg [vs eS p2.Added, vs eS p2.Removed, vs eS p2.Changed], vs e_S_api_Member p1]) hx (by kernel_rfl) A1
            replace A : HH g h11 [.lst rqw4 63 (lst e_S_api_Member x13), .lst rqw3 63 (lst e_S_api_Member x12), .obj h.size (.cells none 2 [vs eS p2.Added, vs eS p2.Removed, vs eS p2.Changed])] F := A.glue0 (n := 0) A1
            refine at_step (v := rowV rqw4 x13.length) (h1 := h11) [(0, vs e_S_api_Member p0), (1, vs e_S_api_Member p1), (11, rowV rqw3 x12.length), (70, rowV rqw4 x13.length)] H (fun fr => by kernel_rfl) (fun fr => Steps.call (by kernel_rfl) hr) ?_
            intro fr t H
            refine at_seg [(4, [])] [(0, vs e_S_api_Member p0), (1, vs e_S_api_Member p1), (70, rowV rqw4 x13.length), (71, rowV rqw3 x12.length)] H (noU_all rfl) (fun fr => by kernel_rfl) ?_
            intro fr H
            have A1 := A.cut 2
            obtain ⟨x14, hx, hm⟩ := bind_some hm
            obtain ⟨v1, h12, hr, rfl, A1⟩ := ok_boulterref12_Same_sOO (av := [rowV rqw4 x13.length, rowV rqw3 x12.length]) hx (by kernel_rfl) A1
            replace A : HH g h12 [.lst rqw4 63 (lst e_S_api_Member x13), .lst rqw3 63 (lst e_S_api_Member x12), .obj h.size (.cells none 2 [vs eS p2.Added, vs eS p2.Removed, vs eS p2.Changed])] F := A.glue0 (n := 2) A1
            refine at_step (v := .bool x14) (h1 := h12) [(0, vs e_S_api_Member p0), (1, vs e_S_api_Member p1), (72, .bool x14)] H (fun fr => by kernel_rfl) (fun fr => Steps.call (by kernel_rfl) hr) ?_
            intro fr t H
            refine at_seg [(6, [])] [(0, vs e_S_api_Member p0), (1, vs e_S_api_Member p1), (73, .bool x14)] H (noU_all rfl) (fun fr => by kernel_rfl) ?_
            intro fr H
            obtain ⟨x15, ho, hm⟩ := bind_some hm
            refine at_cut [(7, []), (8, []), (9, []), (10, []), (11, []), (12, []), (13, []), (14, []), (15, []), (16, [])] (fun fr' h' => Has fr' 87 [(83, .bool x15)] ∧ HH g h' [.obj h.size (.cells none 2 [vs eS p2.Added, vs eS p2.Removed, vs eS p2.Changed])] F) ?_ ?_
            · rcases iteB_some ho with ⟨hb, hm⟩ | ⟨hb, hm⟩
              · replace H := H.know 73 hb (by kernel_rfl)
                refine at_seg [(7, []), (8, []), (9, [])] [(1, vs e_S_api_Member p1), (73, .bool true), (74, vs e_S_api_Member p0), (75, vs e_S_api_Member p0), (76, vs e_S_api_Member p1)] H (noU_all rfl) (fun fr => by kernel_rfl) ?_
                intro fr H
                have A1 := A.cut 0
                obtain ⟨x16, hx, hm⟩ := bind_some hm
                obtain ⟨v1, h14, hr, rfl, A1⟩ := ok_delta_Of (av := [vs e_S_api_Member p0, vs e_S_api_Member p1]) hx (by kernel_rfl) A1
                replace A : HH g h14 [.lst rqw4 63 (lst e_S_api_Member x13), .lst rqw3 63 (lst e_S_api_Member x12), .obj h.size (.cells none 2 [vs eS p2.Added, vs eS p2.Removed, vs eS p2.Changed])] F := A.glue0 (n := 0) A1
                refine at_step (v := .agg [vs eS x16.Added, vs eS x16.Removed, vs eS x16.Changed]) (h1 := h14) [(1, vs e_S_api_Member p1), (73, .bool true), (74, vs e_S_api_Member p0), (77, .agg [vs eS x16.Added, vs eS x16.Removed, vs eS x16.Changed])] H (fun fr => by kernel_rfl) (fun fr => Steps.call (by kernel_rfl) hr) ?_
                intro fr t H
                refine at_seg [(11, [])] [(1, vs e_S_api_Member p1), (73, .bool true), (74, vs e_S_api_Member p0), (77, .agg [vs eS x16.Added, vs eS x16.Removed, vs eS x16.Changed]), (78, vs e_S_api_Member p1)] H (noU_all rfl) (fun fr => by kernel_rfl) ?_
                intro fr H
                have A1 := A.cut 0
                obtain ⟨x17, hx, hm⟩ := bind_some hm
                obtain ⟨v1, h15, hr, rqw7, rfl, A1⟩ := ok_delta_Apply (av := [vs e_S_api_Member p0, .agg [vs eS x16.Added, vs eS x16.Removed, vs eS x16.Changed], vs e_S_api_Member p1]) hx (by kernel_rfl) A1
                replace A : HH g h15 [.lst rqw7 63 (lst e_S_api_Member x17), .lst rqw4 63 (lst e_S_api_Member x13), .lst rqw3 63 (lst e_S_api_Member x12), .obj h.size (.cells none 2 [vs eS p2.Added, vs eS p2.Removed, vs eS p2.Changed])] F := A.glue0 (n := 0) A1
                refine at_step (v := rowV rqw7 x17.length) (h1 := h15) [(1, vs e_S_api_Member p1), (73, .bool true), (79, rowV rqw7 x17.length)] H (fun fr => by kernel_rfl) (fun fr => Steps.call (by kernel_rfl) hr) ?_
                intro fr t H
                refine at_seg [(13, [])] [(73, .bool true), (79, rowV rqw7 x17.length), (80, vs e_S_api_Member p1)] H (noU_all rfl) (fun fr => by kernel_rfl) ?_
                intro fr H
                have A1 := A.cut 0
                obtain ⟨x18, hx, hm⟩ := bind_some hm
                obtain ⟨v1, h16, hr, rqw8, rfl, A1⟩ := ok_boulterref38_Sorted (av := [vs e_S_api_Member p1]) hx (by kernel_rfl) A1
                replace A : HH g h16 [.lst rqw8 63 (lst e_S_api_Member x18), .lst rqw7 63 (lst e_S_api_Member x17), .lst rqw4 63 (lst e_S_api_Member x13), .lst rqw3 63 (lst e_S_api_Member x12), .obj h.size (.cells none 2 [vs eS p2.Added, vs eS p2.Removed, vs eS p2.Changed])] F := A.glue0 (n := 0) A1
                refine at_step (v := rowV rqw8 x18.length) (h1 := h16) [(73, .bool true), (79, rowV rqw7 x17.length), (81, rowV rqw8 x18.length)] H (fun fr => by kernel_rfl) (fun fr => Steps.call (by kernel_rfl) hr) ?_
                intro fr t H
                replace A : HH g h16 [.lst rqw7 63 (lst e_S_api_Member x17), .lst rqw8 63 (lst e_S_api_Member x18), .lst rqw4 63 (lst e_S_api_Member x13), .lst rqw3 63 (lst e_S_api_Member x12), .obj h.size (.cells none 2 [vs eS p2.Added, vs eS p2.Removed, vs eS p2.Changed])] F := ((A.front 0 rfl).front 1 rfl)
                have A1 := A.cut 2
                obtain ⟨x19, hx, hm⟩ := bind_some hm
                obtain ⟨v1, h17, hr, rfl, A1⟩ := ok_boulterref12_Same_sOO (av := [rowV rqw7 x17.length, rowV rqw8 x18.length]) hx (by kernel_rfl) A1
                replace A : HH g h17 [.lst rqw7 63 (lst e_S_api_Member x17), .lst rqw8 63 (lst e_S_api_Member x18), .lst rqw4 63 (lst e_S_api_Member x13), .lst rqw3 63 (lst e_S_api_Member x12), .obj h.size (.cells none 2 [vs eS p2.Added, vs eS p2.Removed, vs eS p2.Changed])] F := A.glue0 (n := 2) A1
                refine at_step (v := .bool x19) (h1 := h17) [(73, .bool true), (82, .bool x19)] H (fun fr => by kernel_rfl) (fun fr => Steps.call (by kernel_rfl) hr) ?_
                intro fr t H
                refine at_seg [(16, [])] [(83, .bool x19)] H (noU_all rfl) (fun fr => by kernel_rfl) ?_
                intro fr H
                have e1 := Option.some.inj hm
                subst e1
                replace A : HH g h17 [.obj h.size (.cells none 2 [vs eS p2.Added, vs eS p2.Removed, vs eS p2.Changed])] F := (HH.dropF (A.front 4 rfl) 1)
                exact at_nil ⟨H.less _ (fun fr => by kernel_rfl), A⟩
              · replace H := H.know 73 hb (by kernel_rfl)
                refine at_seg [(7, []), (8, []), (9, []), (10, []), (11, []), (12, []), (13, []), (14, []), (15, []), (16, [])] [(83, .bool false)] H (noU_all rfl) (fun fr => by kernel_rfl) ?_
                intro fr H
                have e1 := Option.some.inj hm
                subst e1
                replace A : HH g h12 [.obj h.size (.cells none 2 [vs eS p2.Added, vs eS p2.Removed, vs eS p2.Changed])] F := (HH.dropF (A.front 2 rfl) 1)
                exact at_nil ⟨H.less _ (fun fr => by kernel_rfl), A⟩
            · clear A
              intro t fr h13 hK
              obtain ⟨H, A⟩ := hK
              refine at_seg [(17, [])] [(84, .bool x15)] H (noU_all rfl) (fun fr => by kernel_rfl) ?_
              intro fr H
              obtain ⟨x20, ho, hm⟩ := bind_some hm
              refine at_cut [(18, []), (19, [])] (fun fr' h' => Has fr' 87 [(86, .bool x20)] ∧ HH g h' [.obj h.size (.cells none 2 [vs eS p2.Added, vs eS p2.Removed, vs eS p2.Changed])] F) ?_ ?_
              · rcases iteB_some ho with ⟨hb, hm⟩ | ⟨hb, hm⟩
                · replace H := H.know 84 hb (by kernel_rfl)
                  obtain ⟨x21, hx, hm⟩ := bind_some hm
                  refine at_step (v := .bool x21) (h1 := h13) [(84, .bool true), (85, .bool x21)] H (fun fr => by kernel_rfl) (fun fr => Steps.call (by kernel_rfl) (ok_boulterlaw38_awake hx)) ?_
                  intro fr t H
                  refine at_seg [(19, [])] [(86, .bool x21)] H (noU_all rfl) (fun fr => by kernel_rfl) ?_
                  intro fr H
                  have e1 := Option.some.inj hm
                  subst e1
                  exact at_nil ⟨H.less _ (fun fr => by kernel_rfl), A⟩
                · replace H := H.know 84 hb (by kernel_rfl)
                  refine at_seg [(18, []), (19, [])] [(86, .bool false)] H (noU_all rfl) (fun fr => by kernel_rfl) ?_
                  intro fr H
                  have e1 := Option.some.inj hm
                  subst e1
                  exact at_nil ⟨H.less _ (fun fr => by kernel_rfl), A⟩
              · clear A
                intro t fr h18 hK
                obtain ⟨H, A⟩ := hK
                refine at_seg [(20, [])] [(6, .bool x20)] H (noU_all rfl) (fun fr => by kernel_rfl) ?_
                intro fr H
                refine at_nil ?_
                show AW cfg 7 g (right (right (right (right (right (bodyC cfg.P 7)))))) fr h18 _
                refine aw_ret (by kernel_rfl) ?_
                have e1 := Option.some.inj hm
                subst e1
                refine ⟨.inl rfl, .bool x20, resH H (fun fr => by kernel_rfl), ?_⟩
                replace A : HH g h18 [] F := (HH.dropF A 0)
                exact ⟨rfl, A⟩
          · skip
            have e1 := Option.some.inj hm
            subst e1
            refine ⟨.inl rfl, .bool x6, resH H (fun fr => by kernel_rfl), ?_⟩
            replace A : HH g h9 [] F := (HH.dropF A 0)
            exact ⟨rfl, A⟩
          · exact hF.elim
end Go.Av.L
