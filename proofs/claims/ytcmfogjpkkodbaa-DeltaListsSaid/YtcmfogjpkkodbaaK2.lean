/-
  Models of functions, and that the abstract run tells them. Written by lift2.py.
-/
import Derived.Test.YtcmfogjpkkodbaaKCfg
import Derived.Test.YtcmfogjpkkodbaaK0
import Derived.Test.YtcmfogjpkkodbaaK1
namespace Go.Av.L
open Go.Av Go.Lib
set_option maxRecDepth 10000
set_option linter.unusedVariables false
set_option linter.unusedSimpArgs false
/-! ### boulter/delta.byName -/
noncomputable def M_delta_byName_sO (p0 : List S_api_Member) : Option ((List S_api_Member)) :=
 (M_slices_SortStableFunc_boulter_api_Member_boulter_api_Member_sOF_c496 p0).bind fun x1 => some x1
theorem ok_delta_byName_sO {g : Gd} {h : AHeap} {F : List Ck} {p0 : List S_api_Member} {rp0 : Option Nat} {u0 : List S_api_Member} {av : List AVal} (hm : M_delta_byName_sO p0 = some u0) (hc : canL (cfg.still 55) av = [rowV rp0 p0.length]) (A : HH g h [.lst rp0 63 (lst e_S_api_Member p0)] F) : ∃ v h', Runs cfg g h 55 av v h' ∧ ∃ (hl'0 : u0.length = p0.length), v = rowV rp0 u0.length ∧ HH g h' [.lst rp0 63 (lst e_S_api_Member u0)] F := by
  refine runsQ1 (n := 6) (rs := [.tmp 2]) (by kernel_rfl) hc (by kernel_rfl) ?_
  clear hc
  unfold M_delta_byName_sO at hm
  refine start (n := 6) [(0, rowV rp0 p0.length)] (by kernel_rfl) (by kernel_rfl) ?_
  intro fr H
  refine aw_seq (by kernel_rfl) ?_
  refine aw_reg (id := 0) (n := 1) [(0, [])] (by kernel_rfl) (by kernel_rfl) ?_
  refine at_seg [(0, [])] [(0, rowV rp0 p0.length)] H (noU_all rfl) (fun fr => by kernel_rfl) ?_
  intro fr H
  refine at_nil ?_
  show AW cfg 55 g (right (bodyC cfg.P 55)) fr h _
  refine aw_seq (by kernel_rfl) ?_
  refine aw_reg (id := 1) (n := 2) [(0, []), (1, [])] (by kernel_rfl) (by kernel_rfl) ?_
  refine at_seg [(0, [])] [(0, rowV rp0 p0.length), (3, rowV rp0 p0.length)] H (noU_all rfl) (fun fr => by kernel_rfl) ?_
  intro fr H
  have A1 := A.cut 1
  obtain ⟨x1, hx, hm⟩ := bind_some hm
  obtain ⟨v1, h1, hr, hl1, rfl, A1⟩ := ok_slices_SortStableFunc_boulter_api_Member_boulter_api_Member_sOF_c496 (av := [rowV rp0 p0.length, .func (.func 74) [] []]) hx (by kernel_rfl) A1
  have hl2 : x1.length = p0.length := hl1
  have el : rowV rp0 p0.length = rowV rp0 x1.length := congrArg _ hl1.symm
  try rw [el] at H
  try rw [el] at hr
  try rw [el] at A1
  replace A : HH g h1 [.lst rp0 63 (lst e_S_api_Member x1)] F := A.glue0 (n := 1) A1
  refine at_step (v := .tuple []) (h1 := h1) [(0, rowV rp0 x1.length)] H (fun fr => by kernel_rfl) (fun fr => Steps.call (by kernel_rfl) hr) ?_
  intro fr t H
  refine at_nil ?_
  show AW cfg 55 g (right (right (bodyC cfg.P 55))) fr h1 _
  refine aw_seq (by kernel_rfl) ?_
  refine aw_reg (id := 2) (n := 2) [(0, []), (1, [])] (by kernel_rfl) (by kernel_rfl) ?_
  refine at_seg [(0, []), (1, [])] [(2, rowV rp0 x1.length)] H (noU_all rfl) (fun fr => by kernel_rfl) ?_
  intro fr H
  refine at_nil ?_
  show AW cfg 55 g (right (right (right (bodyC cfg.P 55)))) fr h1 _
  refine aw_ret (by kernel_rfl) ?_
  have e1 := Option.some.inj hm
  subst e1
  refine ⟨.inl rfl, rowV rp0 x1.length, resH H (fun fr => by kernel_rfl), ?_⟩
  exact ⟨hl2, rfl, A⟩
/-! ### boulter/delta.Sorted -/
noncomputable def M_delta_Sorted (p0 : List S_api_Member) : Option ((List S_api_Member)) :=
 (M_delta_Last p0).bind fun x1 => (M_delta_byName_sO x1).bind fun x3 => some x3
theorem ok_delta_Sorted {g : Gd} {h : AHeap} {F : List Ck} {p0 : List S_api_Member} {q0 : List S_api_Member} {av : List AVal} (hm : M_delta_Sorted p0 = some q0) (hc : canL (cfg.still 30) av = [vs e_S_api_Member p0]) (A : HH g h [] F) : ∃ v h', Runs cfg g h 30 av v h' ∧ ∃ (rq0 : Option Nat), v = rowV rq0 q0.length ∧ HH g h' [.lst rq0 63 (lst e_S_api_Member q0)] F := by
  refine runsQ1 (n := 6) (rs := [.tmp 2]) (by kernel_rfl) hc (by kernel_rfl) ?_
  clear hc
  unfold M_delta_Sorted at hm
  refine start (n := 6) [(0, vs e_S_api_Member p0)] (by kernel_rfl) (by kernel_rfl) ?_
  intro fr H
  refine aw_seq (by kernel_rfl) ?_
  refine aw_reg (id := 0) (n := 1) [(0, [])] (by kernel_rfl) (by kernel_rfl) ?_
  refine at_seg [(0, [])] [(0, vs e_S_api_Member p0)] H (noU_all rfl) (fun fr => by kernel_rfl) ?_
  intro fr H
  refine at_nil ?_
  show AW cfg 30 g (right (bodyC cfg.P 30)) fr h _
  refine aw_seq (by kernel_rfl) ?_
  refine aw_reg (id := 1) (n := 4) [(0, []), (1, []), (2, []), (3, [])] (by kernel_rfl) (by kernel_rfl) ?_
  refine at_seg [(0, [])] [(3, vs e_S_api_Member p0)] H (noU_all rfl) (fun fr => by kernel_rfl) ?_
  intro fr H
  have A1 := A.cut 0
  obtain ⟨x1, hx, hm⟩ := bind_some hm
  obtain ⟨v1, h1, hr, rqw1, rfl, A1⟩ := ok_delta_Last (av := [vs e_S_api_Member p0]) hx (by kernel_rfl) A1
  replace A : HH g h1 [.lst rqw1 63 (lst e_S_api_Member x1)] F := A.glue0 (n := 0) A1
  refine at_step (v := rowV rqw1 x1.length) (h1 := h1) [(4, rowV rqw1 x1.length)] H (fun fr => by kernel_rfl) (fun fr => Steps.call (by kernel_rfl) hr) ?_
  intro fr t H
  have A1 := A.cut 1
  obtain ⟨x3, hx, hm⟩ := bind_some hm
  obtain ⟨v1, h2, hr, hl1, rfl, A1⟩ := ok_delta_byName_sO (av := [rowV rqw1 x1.length]) hx (by kernel_rfl) A1
  have hl2 : x3.length = x1.length := hl1
  have el : rowV rqw1 x1.length = rowV rqw1 x3.length := congrArg _ hl1.symm
  try rw [el] at H
  try rw [el] at hr
  try rw [el] at A1
  replace A : HH g h2 [.lst rqw1 63 (lst e_S_api_Member x3)] F := A.glue0 (n := 1) A1
  refine at_step (v := rowV rqw1 x3.length) (h1 := h2) [(5, rowV rqw1 x3.length)] H (fun fr => by kernel_rfl) (fun fr => Steps.call (by kernel_rfl) hr) ?_
  intro fr t H
  refine at_seg [(3, [])] [(2, rowV rqw1 x3.length)] H (noU_all rfl) (fun fr => by kernel_rfl) ?_
  intro fr H
  refine at_nil ?_
  show AW cfg 30 g (right (right (bodyC cfg.P 30))) fr h2 _
  refine aw_ret (by kernel_rfl) ?_
  have e1 := Option.some.inj hm
  subst e1
  refine ⟨.inl rfl, rowV rqw1 x3.length, resH H (fun fr => by kernel_rfl), ?_⟩
  exact ⟨rqw1, rfl, A⟩
/-! ### boulter/boulterref38.insert -/
noncomputable def M_boulterref38_insert_sOR_L0 (p0 : List S_api_Member) (p1 : S_api_Member) (s : (List S_api_Member) × Bool × Int) : Option (((List S_api_Member) × Bool × Int) ⊕ (((List S_api_Member) × Bool))) :=
  match s with
  | (x1, x2, x3) => iteB (decide (x3 < (p0.length : Int))) (((iteB (!x2) ((ixV p0 x3).bind fun x9 => some (Op.bytesLess p1.Name x9.Name)) (some false) : Option (Bool)).bind fun x8 => iteB x8 (need (okN 168 (x1.length + ([p1] : List S_api_Member).length)) <| some ((x1 ++ ([p1] : List S_api_Member)), true)) (some (x1, x2)) : Option (((List S_api_Member) × Bool))).bind fun (x6, x7) => (ixV p0 x3).bind fun x10 => need (okN 168 (x6.length + ([x10] : List S_api_Member).length)) <| some (.inl ((x6 ++ ([x10] : List S_api_Member)), x7, IntKind.i64.wrap (x3 + (1 : Int))))) (some (.inr (x1, x2)))
noncomputable def M_boulterref38_insert_sOR (p0 : List S_api_Member) (p1 : S_api_Member) : Option ((List S_api_Member)) :=
 (loop (M_boulterref38_insert_sOR_L0 p0 p1) (([] : List S_api_Member), false, (0 : Int))).bind fun (x4, x5) => (iteB (!x5) (need (okN 168 (x4.length + ([p1] : List S_api_Member).length)) <| some (x4 ++ ([p1] : List S_api_Member))) (some x4) : Option (((List S_api_Member)))).bind fun x11 => some x11
theorem ok_boulterref38_insert_sOR {g : Gd} {h : AHeap} {F : List Ck} {p0 : List S_api_Member} {p1 : S_api_Member} {rp0 : Option Nat} {q0 : List S_api_Member} {av : List AVal} (hm : M_boulterref38_insert_sOR p0 p1 = some q0) (hc : canL (cfg.still 57) av = [rowV rp0 p0.length, .agg (e_S_api_Member p1)]) (A : HH g h [.lst rp0 63 (lst e_S_api_Member p0)] F) : ∃ v h', Runs cfg g h 57 av v h' ∧ ∃ (rq0 : Option Nat), v = rowV rq0 q0.length ∧ HH g h' [.lst rq0 63 (lst e_S_api_Member q0), .lst rp0 63 (lst e_S_api_Member p0)] F := by
  refine runsQ1 (n := 45) (rs := [.tmp 4]) (by kernel_rfl) hc (by kernel_rfl) ?_
  clear hc
  unfold M_boulterref38_insert_sOR at hm
  refine start (n := 45) [(0, rowV rp0 p0.length), (1, .agg (e_S_api_Member p1))] (by kernel_rfl) (by kernel_rfl) ?_
  intro fr H
  refine aw_seq (by kernel_rfl) ?_
  refine aw_reg (id := 0) (n := 2) [(0, []), (1, [])] (by kernel_rfl) (by kernel_rfl) ?_
  obtain ⟨h1, e1⟩ : ∃ x, x = h.push (.cells none 2 (e_S_api_Member p1)) := ⟨_, rfl⟩
  replace A := (A.push _).to e1
  refine at_step (v := .ptr (some (h.size, 0))) (h1 := h1) [(0, rowV rp0 p0.length), (3, .ptr (some (h.size, 0)))] H (fun fr => by kernel_rfl) (fun fr => .of (s_n' (by kernel_rfl) (congrArg some e1.symm))) ?_
  intro fr t H
  refine at_seg [(1, [])] [(0, rowV rp0 p0.length), (3, .ptr (some (h.size, 0)))] H (noU_all rfl) (fun fr => by kernel_rfl) ?_
  intro fr H
  refine at_nil ?_
  show AW cfg 57 g (right (bodyC cfg.P 57)) fr h1 _
  refine aw_seq (by kernel_rfl) ?_
  refine aw_reg (id := 1) (n := 2) [(0, []), (1, [])] (by kernel_rfl) (by kernel_rfl) ?_
  obtain ⟨h2, e2⟩ : ∃ x, x = h1.push (.cells (some 63) 2 []) := ⟨_, rfl⟩
  replace A := (A.pushL _ _).to e2
  refine at_step (v := rowV (some h1.size) (([] : List S_api_Member).length)) (h1 := h2) [(0, rowV rp0 p0.length), (3, .ptr (some (h.size, 0))), (8, rowV (some h1.size) (([] : List S_api_Member).length))] H (fun fr => by kernel_rfl) (fun fr => .of (s_n' (by kernel_rfl) (congrArg some e2.symm))) ?_
  intro fr t H
  refine at_seg [(1, [])] [(0, rowV rp0 p0.length), (3, .ptr (some (h.size, 0))), (5, rowV (some h1.size) (([] : List S_api_Member).length))] H (noU_all rfl) (fun fr => by kernel_rfl) ?_
  intro fr H
  refine at_nil ?_
  show AW cfg 57 g (right (right (bodyC cfg.P 57))) fr h2 _
  refine aw_seq (by kernel_rfl) ?_
  refine aw_reg (id := 2) (n := 1) [(0, [])] (by kernel_rfl) (by kernel_rfl) ?_
  refine at_seg [(0, [])] [(0, rowV rp0 p0.length), (3, .ptr (some (h.size, 0))), (5, rowV (some h1.size) (([] : List S_api_Member).length)), (6, .bool false)] H (noU_all rfl) (fun fr => by kernel_rfl) ?_
  intro fr H
  refine at_nil ?_
  show AW cfg 57 g (right (right (right (bodyC cfg.P 57)))) fr h2 _
  refine aw_seq (by kernel_rfl) ?_
  refine aw_seq (by kernel_rfl) ?_
  refine aw_reg (id := 3) (n := 1) [(0, [])] (by kernel_rfl) (by kernel_rfl) ?_
  refine at_seg [(0, [])] [(0, rowV rp0 p0.length), (3, .ptr (some (h.size, 0))), (5, rowV (some h1.size) (([] : List S_api_Member).length)), (6, .bool false), (7, .int .i64 (0 : Int))] H (noU_all rfl) (fun fr => by kernel_rfl) ?_
  intro fr H
  refine at_nil ?_
  show AW cfg 57 g (right (left (right (right (right (bodyC cfg.P 57)))))) fr h2 _
  refine aw_block (id := 0) (by kernel_rfl) ?_
  replace A : HH g h2 [.lst (some h1.size) 63 (lst e_S_api_Member ([] : List S_api_Member)), .obj h.size (.cells none 2 (e_S_api_Member p1)), .lst rp0 63 (lst e_S_api_Member p0)] F := A
  obtain ⟨o1, ho, hm⟩ := bind_some hm
  refine aw_mono (Q' := fun e fr' h' => (∃ (x4 : List S_api_Member) (x5 : Bool), e = .exit 0 ∧ (x4, x5) = o1 ∧ ∃ (r2 : Option Nat), Has fr' 45 [(3, .ptr (some (h.size, 0))), (5, rowV r2 x4.length), (6, .bool x5)] ∧ HH g h' [.lst r2 63 (lst e_S_api_Member x4), .obj h.size (.cells none 2 (e_S_api_Member p1)), .lst rp0 63 (lst e_S_api_Member p0)] F) ∨ False) ?_ ?_
  · refine aw_loop (by kernel_rfl) (fun (s : (List S_api_Member) × Bool × Int) fr' h' => ∃ (x1 : List S_api_Member) (x2 : Bool) (x3 : Int), (x1, x2, x3) = s ∧ ∃ (r1 : Option Nat), Has fr' 45 [(0, rowV rp0 p0.length), (3, .ptr (some (h.size, 0))), (5, rowV r1 x1.length), (6, .bool x2), (7, .int .i64 x3)] ∧ HH g h' [.lst r1 63 (lst e_S_api_Member x1), .obj h.size (.cells none 2 (e_S_api_Member p1)), .lst rp0 63 (lst e_S_api_Member p0)] F) ho ⟨([] : List S_api_Member), false, (0 : Int), rfl, some h1.size, H.less _ (fun fr => by kernel_rfl), A⟩ ?_
    clear ho hm H A
    intro s q fr h3 hI hm
    obtain ⟨x1, x2, x3, rfl, r1, H, A⟩ := hI
    unfold M_boulterref38_insert_sOR_L0 at hm
    refine aw_seq (by kernel_rfl) ?_
    refine aw_seq (by kernel_rfl) ?_
    refine aw_reg (id := 4) (n := 4) [(0, []), (1, []), (2, []), (3, [])] (by kernel_rfl) (by kernel_rfl) ?_
    refine at_seg [(0, []), (1, []), (2, []), (3, [])] [(0, rowV rp0 p0.length), (3, .ptr (some (h.size, 0))), (5, rowV r1 x1.length), (6, .bool x2), (7, .int .i64 x3), (12, .bool (decide (x3 < (p0.length : Int))))] H (noU_all rfl) (fun fr => by kernel_rfl) ?_
    intro fr H
    refine at_nil ?_
    show AW cfg 57 g (right (left (left (left (right (left (right (right (right (bodyC cfg.P 57)))))))))) fr h3 _
    rcases iteB_some hm with ⟨hb, hm⟩ | ⟨hb, hm⟩
    · replace H := H.know 12 hb (by kernel_rfl)
      refine aw_true (x := .tmp 12) (by kernel_rfl) H (fun fr => by kernel_rfl) ?_
      refine aw_skip (by kernel_rfl) ?_
      show AW cfg 57 g (right (left (left (right (left (right (right (right (bodyC cfg.P 57))))))))) fr h3 _
      refine aw_seq (by kernel_rfl) ?_
      refine aw_block (id := 1) (by kernel_rfl) ?_
      refine aw_seq (by kernel_rfl) ?_
      obtain ⟨o2, ho, hm⟩ := bind_some hm
      refine aw_mono (Q' := fun e fr' h' => (∃ (x6 : List S_api_Member) (x7 : Bool), e = .normal ∧ (x6, x7) = o2 ∧ ∃ (r3 : Option Nat), Has fr' 45 [(0, rowV rp0 p0.length), (3, .ptr (some (h.size, 0))), (5, rowV r3 x6.length), (6, .bool x7), (7, .int .i64 x3)] ∧ HH g h' [.lst r3 63 (lst e_S_api_Member x6), .obj h.size (.cells none 2 (e_S_api_Member p1)), .lst rp0 63 (lst e_S_api_Member p0)] F) ∨ False) ?_ ?_
      · replace hm := ho
        clear ho
        refine aw_seq (by kernel_rfl) ?_
        refine aw_draw (id := 6) (n := 12) (by kernel_rfl) [(0, []), (1, []), (2, []), (3, []), (4, []), (5, []), (6, []), (7, []), (8, []), (9, []), (10, []), (11, [])] (by kernel_rfl) ?_
        refine at_seg [(0, []), (1, []), (2, [])] [(0, rowV rp0 p0.length), (3, .ptr (some (h.size, 0))), (5, rowV r1 x1.length), (6, .bool x2), (7, .int .i64 x3), (17, .bool (!x2))] H (noU_all rfl) (fun fr => by kernel_rfl) ?_
        intro fr H
        obtain ⟨x8, ho, hm⟩ := bind_some hm
        refine at_cut [(3, []), (4, []), (5, []), (6, []), (7, []), (8, []), (9, []), (10, []), (11, [])] (fun fr' h' => Has fr' 45 [(0, rowV rp0 p0.length), (3, .ptr (some (h.size, 0))), (5, rowV r1 x1.length), (6, .bool x2), (7, .int .i64 x3), (26, .bool x8)] ∧ HH g h' [.lst r1 63 (lst e_S_api_Member x1), .obj h.size (.cells none 2 (e_S_api_Member p1)), .lst rp0 63 (lst e_S_api_Member p0)] F) ?_ ?_
        · rcases iteB_some ho with ⟨hb, hm⟩ | ⟨hb, hm⟩
          · replace H := H.know 17 hb (by kernel_rfl)
            refine at_seg [(3, [])] [(0, rowV rp0 p0.length), (3, .ptr (some (h.size, 0))), (5, rowV r1 x1.length), (6, .bool x2), (7, .int .i64 x3), (17, .bool true), (18, .ptr (some (h.size, 0)))] H (noU_all rfl) (fun fr => by kernel_rfl) ?_
            intro fr H
            refine at_step (v := .str p1.Name) (h1 := h3) [(0, rowV rp0 p0.length), (3, .ptr (some (h.size, 0))), (5, rowV r1 x1.length), (6, .bool x2), (7, .int .i64 x3), (17, .bool true), (19, .str p1.Name)] H (fun fr => by kernel_rfl) (fun fr => .of (s_ld (by kernel_rfl) (A.ld1 1 rfl (o := 0) rfl))) ?_
            intro fr t H
            refine at_seg [(5, []), (6, [])] [(0, rowV rp0 p0.length), (3, .ptr (some (h.size, 0))), (5, rowV r1 x1.length), (6, .bool x2), (7, .int .i64 x3), (17, .bool true), (19, .str p1.Name), (20, rowV rp0 p0.length), (21, .int .i64 x3)] H (noU_all rfl) (fun fr => by kernel_rfl) ?_
            intro fr H
            obtain ⟨x9, hx, hm⟩ := bind_some hm
            obtain ⟨i1, er1, _, hx, hq1⟩ := HH.ixO enc_S_api_Member (by decide) A 2 (xs := p0) rfl hx
            refine at_step (v := .ptr (some (i1, x3.toNat * 14))) (h1 := h3) [(0, rowV rp0 p0.length), (3, .ptr (some (h.size, 0))), (5, rowV r1 x1.length), (6, .bool x2), (7, .int .i64 x3), (17, .bool true), (19, .str p1.Name), (22, .ptr (some (i1, x3.toNat * 14)))] H (fun fr => by kernel_rfl) (fun fr => .of (s_ixL (s := rowS rp0 p0.length) (by kernel_rfl) hx)) ?_
            intro fr t H
            refine at_seg [(8, [])] [(0, rowV rp0 p0.length), (3, .ptr (some (h.size, 0))), (5, rowV r1 x1.length), (6, .bool x2), (7, .int .i64 x3), (17, .bool true), (19, .str p1.Name), (23, .ptr (some (i1, x3.toNat * 14)))] H (noU_all rfl) (fun fr => by kernel_rfl) ?_
            intro fr H
            refine at_step (v := .str x9.Name) (h1 := h3) [(0, rowV rp0 p0.length), (3, .ptr (some (h.size, 0))), (5, rowV r1 x1.length), (6, .bool x2), (7, .int .i64 x3), (17, .bool true), (19, .str p1.Name), (24, .str x9.Name)] H (fun fr => by kernel_rfl) (fun fr => .of (s_ld (by kernel_rfl) (row_ld1 enc_S_api_Member (HH.row A 2 rfl er1) hq1 (o := 0) rfl))) ?_
            intro fr t H
            refine at_seg [(10, []), (11, [])] [(0, rowV rp0 p0.length), (3, .ptr (some (h.size, 0))), (5, rowV r1 x1.length), (6, .bool x2), (7, .int .i64 x3), (26, .bool (Op.bytesLess p1.Name x9.Name))] H (noU_all rfl) (fun fr => by kernel_rfl) ?_
            intro fr H
            have e1 := Option.some.inj hm
            subst e1
            exact at_nil ⟨H.less _ (fun fr => by kernel_rfl), A⟩
          · replace H := H.know 17 hb (by kernel_rfl)
            refine at_seg [(3, []), (4, []), (5, []), (6, []), (7, []), (8, []), (9, []), (10, []), (11, [])] [(0, rowV rp0 p0.length), (3, .ptr (some (h.size, 0))), (5, rowV r1 x1.length), (6, .bool x2), (7, .int .i64 x3), (26, .bool false)] H (noU_all rfl) (fun fr => by kernel_rfl) ?_
            intro fr H
            have e1 := Option.some.inj hm
            subst e1
            exact at_nil ⟨H.less _ (fun fr => by kernel_rfl), A⟩
        · clear A
          intro t fr h4 hK
          obtain ⟨H, A⟩ := hK
          refine at_nil ?_
          show AW cfg 57 g (right (left (left (left (right (left (left (right (left (right (right (right (bodyC cfg.P 57))))))))))))) fr h4 _
          rcases iteB_some hm with ⟨hb, hm⟩ | ⟨hb, hm⟩
          · replace H := H.know 26 hb (by kernel_rfl)
            refine aw_true (x := .tmp 26) (by kernel_rfl) H (fun fr => by kernel_rfl) ?_
            refine aw_seq (by kernel_rfl) ?_
            refine aw_reg (id := 7) (n := 5) [(0, []), (1, []), (2, []), (3, []), (4, [])] (by kernel_rfl) (by kernel_rfl) ?_
            refine at_seg [(0, [])] [(0, rowV rp0 p0.length), (3, .ptr (some (h.size, 0))), (7, .int .i64 x3), (27, rowV r1 x1.length)] H (noU_all rfl) (fun fr => by kernel_rfl) ?_
            intro fr H
            refine at_step (v := .agg (e_S_api_Member p1)) (h1 := h4) [(0, rowV rp0 p0.length), (3, .ptr (some (h.size, 0))), (7, .int .i64 x3), (27, rowV r1 x1.length), (28, .agg (e_S_api_Member p1))] H (fun fr => by kernel_rfl) (fun fr => .of (s_ldA (by kernel_rfl) (A.ldA 1 rfl (o := 0) (n := 14) ⟨Nat.le_of_ble_eq_true rfl, rfl⟩))) ?_
            intro fr t H
            obtain ⟨h5, e3⟩ : ∃ x, x = h4.push (.cells (some 63) 2 [.str p1.Name, .str p1.Link, .int .u8 p1.Kind, .int .i64 p1.Mode, .int .i64 p1.Uid, .int .i64 p1.Gid, .str p1.Uname, .str p1.Gname, .int .i64 p1.Major, .int .i64 p1.Minor, .int .i64 p1.Time.Sec, .int .i64 p1.Time.Nsec, vs e_S_api_Pair p1.Extra, .str p1.Data]) := ⟨_, rfl⟩
            replace A := (A.pushL _ _).to e3
            refine at_step (v := rowV (some h4.size) (([p1] : List S_api_Member).length)) (h1 := h5) [(0, rowV rp0 p0.length), (3, .ptr (some (h.size, 0))), (7, .int .i64 x3), (27, rowV r1 x1.length), (29, rowV (some h4.size) (([p1] : List S_api_Member).length))] H (fun fr => by kernel_rfl) (fun fr => .of (s_n' (by kernel_rfl) (congrArg some e3.symm))) ?_
            intro fr t H
            obtain ⟨hb, hm⟩ := need_some hm
            obtain ⟨r4, h6, hx, A1⟩ := HH.appO enc_S_api_Member (by decide) A 1 (xs := x1) (ys := ([p1] : List S_api_Member)) rfl (row_first A 0 rfl (n := ([p1] : List S_api_Member).length) (z := 14) rfl (by decide)) rfl rfl hb
            replace A : HH g h6 [.lst (some h4.size) 63 ([.str p1.Name, .str p1.Link, .int .u8 p1.Kind, .int .i64 p1.Mode, .int .i64 p1.Uid, .int .i64 p1.Gid, .str p1.Uname, .str p1.Gname, .int .i64 p1.Major, .int .i64 p1.Minor, .int .i64 p1.Time.Sec, .int .i64 p1.Time.Nsec, vs e_S_api_Pair p1.Extra, .str p1.Data]), .lst r4 63 (lst e_S_api_Member (x1 ++ ([p1] : List S_api_Member))), .obj h.size (.cells none 2 (e_S_api_Member p1)), .lst rp0 63 (lst e_S_api_Member p0)] F := A1
            replace A : HH g h6 [.lst r4 63 (lst e_S_api_Member (x1 ++ ([p1] : List S_api_Member))), .obj h.size (.cells none 2 (e_S_api_Member p1)), .lst rp0 63 (lst e_S_api_Member p0)] F := (HH.dropF (((A.front 3 rfl).front 3 rfl).front 3 rfl) 3)
            refine at_step (v := rowV r4 ((x1 ++ ([p1] : List S_api_Member)).length)) (h1 := h6) [(0, rowV rp0 p0.length), (3, .ptr (some (h.size, 0))), (7, .int .i64 x3), (30, rowV r4 ((x1 ++ ([p1] : List S_api_Member)).length))] H (fun fr => by kernel_rfl) (fun fr => .of (s_app (s := rowS r1 x1.length) (by kernel_rfl) hx)) ?_
            intro fr t H
            refine at_seg [(4, [])] [(0, rowV rp0 p0.length), (3, .ptr (some (h.size, 0))), (5, rowV r4 ((x1 ++ ([p1] : List S_api_Member)).length)), (7, .int .i64 x3)] H (noU_all rfl) (fun fr => by kernel_rfl) ?_
            intro fr H
            refine at_nil ?_
            show AW cfg 57 g (right (left (right (left (left (left (right (left (left (right (left (right (right (right (bodyC cfg.P 57))))))))))))))) fr h6 _
            refine aw_reg (id := 8) (n := 1) [(0, [])] (by kernel_rfl) (by kernel_rfl) ?_
            refine at_seg [(0, [])] [(0, rowV rp0 p0.length), (3, .ptr (some (h.size, 0))), (5, rowV r4 ((x1 ++ ([p1] : List S_api_Member)).length)), (6, .bool true), (7, .int .i64 x3)] H (noU_all rfl) (fun fr => by kernel_rfl) ?_
            intro fr H
            refine at_nil ?_
            exact Or.inl ⟨(x1 ++ ([p1] : List S_api_Member)), true, rfl, Option.some.inj hm, r4, H.less _ (fun fr => by kernel_rfl), A⟩
          · replace H := H.know 26 hb (by kernel_rfl)
            refine aw_false (x := .tmp 26) (by kernel_rfl) H (fun fr => by kernel_rfl) ?_
            refine aw_skip (by kernel_rfl) ?_
            exact Or.inl ⟨x1, x2, rfl, Option.some.inj hm, r1, H.less _ (fun fr => by kernel_rfl), A⟩
      · clear ho
        clear A
        intro e fr h7 hQ
        rcases hQ with ⟨x6, x7, rfl, rfl, r3, H, A⟩ | hF
        · skip
          show AW cfg 57 g (right (left (left (right (left (left (right (left (right (right (right (bodyC cfg.P 57)))))))))))) fr h7 _
          refine aw_reg (id := 9) (n := 8) [(0, []), (1, []), (2, []), (3, []), (4, []), (5, []), (6, []), (7, [])] (by kernel_rfl) (by kernel_rfl) ?_
          refine at_seg [(0, []), (1, []), (2, [])] [(0, rowV rp0 p0.length), (3, .ptr (some (h.size, 0))), (6, .bool x7), (7, .int .i64 x3), (31, rowV r3 x6.length), (32, rowV rp0 p0.length), (33, .int .i64 x3)] H (noU_all rfl) (fun fr => by kernel_rfl) ?_
          intro fr H
          obtain ⟨x10, hx, hm⟩ := bind_some hm
          obtain ⟨i2, er2, _, hx, hq2⟩ := HH.ixO enc_S_api_Member (by decide) A 2 (xs := p0) rfl hx
          refine at_step (v := .ptr (some (i2, x3.toNat * 14))) (h1 := h7) [(0, rowV rp0 p0.length), (3, .ptr (some (h.size, 0))), (6, .bool x7), (7, .int .i64 x3), (31, rowV r3 x6.length), (34, .ptr (some (i2, x3.toNat * 14)))] H (fun fr => by kernel_rfl) (fun fr => .of (s_ixL (s := rowS rp0 p0.length) (by kernel_rfl) hx)) ?_
          intro fr t H
          refine at_step (v := .agg (e_S_api_Member x10)) (h1 := h7) [(0, rowV rp0 p0.length), (3, .ptr (some (h.size, 0))), (6, .bool x7), (7, .int .i64 x3), (31, rowV r3 x6.length), (35, .agg (e_S_api_Member x10))] H (fun fr => by kernel_rfl) (fun fr => .of (s_ldA (by kernel_rfl) (row_ldA enc_S_api_Member (HH.row A 2 rfl er2) hq2 0 14 (Nat.le_of_ble_eq_true rfl)))) ?_
          intro fr t H
          obtain ⟨h8, e4⟩ : ∃ x, x = h7.push (.cells (some 63) 2 [.str x10.Name, .str x10.Link, .int .u8 x10.Kind, .int .i64 x10.Mode, .int .i64 x10.Uid, .int .i64 x10.Gid, .str x10.Uname, .str x10.Gname, .int .i64 x10.Major, .int .i64 x10.Minor, .int .i64 x10.Time.Sec, .int .i64 x10.Time.Nsec, vs e_S_api_Pair x10.Extra, .str x10.Data]) := ⟨_, rfl⟩
          replace A := (A.pushL _ _).to e4
          refine at_step (v := rowV (some h7.size) (([x10] : List S_api_Member).length)) (h1 := h8) [(0, rowV rp0 p0.length), (3, .ptr (some (h.size, 0))), (6, .bool x7), (7, .int .i64 x3), (31, rowV r3 x6.length), (36, rowV (some h7.size) (([x10] : List S_api_Member).length))] H (fun fr => by kernel_rfl) (fun fr => .of (s_n' (by kernel_rfl) (congrArg some e4.symm))) ?_
          intro fr t H
          obtain ⟨hb, hm⟩ := need_some hm
          obtain ⟨r5, h9, hx, A1⟩ := HH.appO enc_S_api_Member (by decide) A 1 (xs := x6) (ys := ([x10] : List S_api_Member)) rfl (row_first A 0 rfl (n := ([x10] : List S_api_Member).length) (z := 14) rfl (by decide)) rfl rfl hb
          replace A : HH g h9 [.lst (some h7.size) 63 ([.str x10.Name, .str x10.Link, .int .u8 x10.Kind, .int .i64 x10.Mode, .int .i64 x10.Uid, .int .i64 x10.Gid, .str x10.Uname, .str x10.Gname, .int .i64 x10.Major, .int .i64 x10.Minor, .int .i64 x10.Time.Sec, .int .i64 x10.Time.Nsec, vs e_S_api_Pair x10.Extra, .str x10.Data]), .lst r5 63 (lst e_S_api_Member (x6 ++ ([x10] : List S_api_Member))), .obj h.size (.cells none 2 (e_S_api_Member p1)), .lst rp0 63 (lst e_S_api_Member p0)] F := A1
          replace A : HH g h9 [.lst r5 63 (lst e_S_api_Member (x6 ++ ([x10] : List S_api_Member))), .obj h.size (.cells none 2 (e_S_api_Member p1)), .lst rp0 63 (lst e_S_api_Member p0)] F := (HH.dropF (((A.front 3 rfl).front 3 rfl).front 3 rfl) 3)
          refine at_step (v := rowV r5 ((x6 ++ ([x10] : List S_api_Member)).length)) (h1 := h9) [(0, rowV rp0 p0.length), (3, .ptr (some (h.size, 0))), (6, .bool x7), (7, .int .i64 x3), (37, rowV r5 ((x6 ++ ([x10] : List S_api_Member)).length))] H (fun fr => by kernel_rfl) (fun fr => .of (s_app (s := rowS r3 x6.length) (by kernel_rfl) hx)) ?_
          intro fr t H
          refine at_seg [(7, [])] [(0, rowV rp0 p0.length), (3, .ptr (some (h.size, 0))), (5, rowV r5 ((x6 ++ ([x10] : List S_api_Member)).length)), (6, .bool x7), (7, .int .i64 x3)] H (noU_all rfl) (fun fr => by kernel_rfl) ?_
          intro fr H
          refine at_nil ?_
          show AW cfg 57 g (right (right (left (left (right (left (right (right (right (bodyC cfg.P 57)))))))))) fr h9 _
          refine aw_reg (id := 5) (n := 3) [(0, []), (1, []), (2, [])] (by kernel_rfl) (by kernel_rfl) ?_
          refine at_seg [(0, []), (1, []), (2, [])] [(0, rowV rp0 p0.length), (3, .ptr (some (h.size, 0))), (5, rowV r5 ((x6 ++ ([x10] : List S_api_Member)).length)), (6, .bool x7), (7, .int .i64 (IntKind.i64.wrap (x3 + (1 : Int))))] H (noU_all rfl) (fun fr => by kernel_rfl) ?_
          intro fr H
          refine at_nil ?_
          exact Exists.intro ((x6 ++ ([x10] : List S_api_Member)), x7, IntKind.i64.wrap (x3 + (1 : Int))) (And.intro (Option.some.inj hm).symm ⟨(x6 ++ ([x10] : List S_api_Member)), x7, IntKind.i64.wrap (x3 + (1 : Int)), rfl, r5, H.less _ (fun fr => by kernel_rfl), A⟩)
        · exact hF.elim
    · replace H := H.know 12 hb (by kernel_rfl)
      refine aw_false (x := .tmp 12) (by kernel_rfl) H (fun fr => by kernel_rfl) ?_
      refine aw_exit (i := 0) (by kernel_rfl) ?_
      exact Exists.intro _ (And.intro (Option.some.inj hm).symm (fun e => Or.inl ⟨x1, x2, rfl, e, r1, H.less _ (fun fr => by kernel_rfl), A⟩))
  · clear ho
    clear A
    intro e fr h10 hQ
    rcases hQ with ⟨x4, x5, rfl, rfl, r2, H, A⟩ | hF
    · skip
      show AW cfg 57 g (right (right (right (right (bodyC cfg.P 57))))) fr h10 _
      refine aw_seq (by kernel_rfl) ?_
      obtain ⟨o3, ho, hm⟩ := bind_some hm
      refine aw_mono (Q' := fun e fr' h' => (∃ (x11 : List S_api_Member), e = .normal ∧ x11 = o3 ∧ ∃ (r6 : Option Nat), Has fr' 45 [(5, rowV r6 x11.length)] ∧ HH g h' [.lst r6 63 (lst e_S_api_Member x11), .obj h.size (.cells none 2 (e_S_api_Member p1)), .lst rp0 63 (lst e_S_api_Member p0)] F) ∨ False) ?_ ?_
      · replace hm := ho
        clear ho
        refine aw_seq (by kernel_rfl) ?_
        refine aw_reg (id := 10) (n := 2) [(0, []), (1, [])] (by kernel_rfl) (by kernel_rfl) ?_
        refine at_seg [(0, []), (1, [])] [(3, .ptr (some (h.size, 0))), (5, rowV r2 x4.length), (39, .bool (!x5))] H (noU_all rfl) (fun fr => by kernel_rfl) ?_
        intro fr H
        refine at_nil ?_
        show AW cfg 57 g (right (left (right (right (right (right (bodyC cfg.P 57))))))) fr h10 _
        rcases iteB_some hm with ⟨hb, hm⟩ | ⟨hb, hm⟩
        · replace H := H.know 39 hb (by kernel_rfl)
          refine aw_true (x := .tmp 39) (by kernel_rfl) H (fun fr => by kernel_rfl) ?_
          refine aw_reg (id := 11) (n := 5) [(0, []), (1, []), (2, []), (3, []), (4, [])] (by kernel_rfl) (by kernel_rfl) ?_
          refine at_seg [(0, [])] [(3, .ptr (some (h.size, 0))), (40, rowV r2 x4.length)] H (noU_all rfl) (fun fr => by kernel_rfl) ?_
          intro fr H
          refine at_step (v := .agg (e_S_api_Member p1)) (h1 := h10) [(40, rowV r2 x4.length), (41, .agg (e_S_api_Member p1))] H (fun fr => by kernel_rfl) (fun fr => .of (s_ldA (by kernel_rfl) (A.ldA 1 rfl (o := 0) (n := 14) ⟨Nat.le_of_ble_eq_true rfl, rfl⟩))) ?_
          intro fr t H
          obtain ⟨h11, e5⟩ : ∃ x, x = h10.push (.cells (some 63) 2 [.str p1.Name, .str p1.Link, .int .u8 p1.Kind, .int .i64 p1.Mode, .int .i64 p1.Uid, .int .i64 p1.Gid, .str p1.Uname, .str p1.Gname, .int .i64 p1.Major, .int .i64 p1.Minor, .int .i64 p1.Time.Sec, .int .i64 p1.Time.Nsec, vs e_S_api_Pair p1.Extra, .str p1.Data]) := ⟨_, rfl⟩
          replace A := (A.pushL _ _).to e5
          refine at_step (v := rowV (some h10.size) (([p1] : List S_api_Member).length)) (h1 := h11) [(40, rowV r2 x4.length), (42, rowV (some h10.size) (([p1] : List S_api_Member).length))] H (fun fr => by kernel_rfl) (fun fr => .of (s_n' (by kernel_rfl) (congrArg some e5.symm))) ?_
          intro fr t H
          obtain ⟨hb, hm⟩ := need_some hm
          obtain ⟨r7, h12, hx, A1⟩ := HH.appO enc_S_api_Member (by decide) A 1 (xs := x4) (ys := ([p1] : List S_api_Member)) rfl (row_first A 0 rfl (n := ([p1] : List S_api_Member).length) (z := 14) rfl (by decide)) rfl rfl hb
          replace A : HH g h12 [.lst (some h10.size) 63 ([.str p1.Name, .str p1.Link, .int .u8 p1.Kind, .int .i64 p1.Mode, .int .i64 p1.Uid, .int .i64 p1.Gid, .str p1.Uname, .str p1.Gname, .int .i64 p1.Major, .int .i64 p1.Minor, .int .i64 p1.Time.Sec, .int .i64 p1.Time.Nsec, vs e_S_api_Pair p1.Extra, .str p1.Data]), .lst r7 63 (lst e_S_api_Member (x4 ++ ([p1] : List S_api_Member))), .obj h.size (.cells none 2 (e_S_api_Member p1)), .lst rp0 63 (lst e_S_api_Member p0)] F := A1
          replace A : HH g h12 [.lst r7 63 (lst e_S_api_Member (x4 ++ ([p1] : List S_api_Member))), .obj h.size (.cells none 2 (e_S_api_Member p1)), .lst rp0 63 (lst e_S_api_Member p0)] F := (HH.dropF (((A.front 3 rfl).front 3 rfl).front 3 rfl) 3)
          refine at_step (v := rowV r7 ((x4 ++ ([p1] : List S_api_Member)).length)) (h1 := h12) [(43, rowV r7 ((x4 ++ ([p1] : List S_api_Member)).length))] H (fun fr => by kernel_rfl) (fun fr => .of (s_app (s := rowS r2 x4.length) (by kernel_rfl) hx)) ?_
          intro fr t H
          refine at_seg [(4, [])] [(5, rowV r7 ((x4 ++ ([p1] : List S_api_Member)).length))] H (noU_all rfl) (fun fr => by kernel_rfl) ?_
          intro fr H
          refine at_nil ?_
          exact Or.inl ⟨(x4 ++ ([p1] : List S_api_Member)), rfl, Option.some.inj hm, r7, H.less _ (fun fr => by kernel_rfl), A⟩
        · replace H := H.know 39 hb (by kernel_rfl)
          refine aw_false (x := .tmp 39) (by kernel_rfl) H (fun fr => by kernel_rfl) ?_
          refine aw_skip (by kernel_rfl) ?_
          exact Or.inl ⟨x4, rfl, Option.some.inj hm, r2, H.less _ (fun fr => by kernel_rfl), A⟩
      · clear ho
        clear A
        intro e fr h13 hQ
        rcases hQ with ⟨x11, rfl, rfl, r6, H, A⟩ | hF
        · skip
          show AW cfg 57 g (right (right (right (right (right (bodyC cfg.P 57)))))) fr h13 _
          refine aw_seq (by kernel_rfl) ?_
          refine aw_reg (id := 12) (n := 2) [(0, []), (1, [])] (by kernel_rfl) (by kernel_rfl) ?_
          refine at_seg [(0, []), (1, [])] [(4, rowV r6 x11.length)] H (noU_all rfl) (fun fr => by kernel_rfl) ?_
          intro fr H
          refine at_nil ?_
          show AW cfg 57 g (right (right (right (right (right (right (bodyC cfg.P 57))))))) fr h13 _
          refine aw_ret (by kernel_rfl) ?_
          have e1 := Option.some.inj hm
          subst e1
          refine ⟨.inl rfl, rowV r6 x11.length, resH H (fun fr => by kernel_rfl), ?_⟩
          replace A : HH g h13 [.lst r6 63 (lst e_S_api_Member x11), .lst rp0 63 (lst e_S_api_Member p0)] F := (HH.dropF ((A.front 2 rfl).front 1 rfl) 2)
          exact ⟨r6, rfl, A⟩
        · exact hF.elim
    · exact hF.elim
/-! ### boulter/boulterref38.Sorted -/
noncomputable def M_boulterref38_Sorted_L0 (x1 : List S_api_Member) (s : (List S_api_Member) × Int) : Option (((List S_api_Member) × Int) ⊕ (((List S_api_Member)))) :=
  match s with
  | (x2, x3) => iteB (decide (x3 < (x1.length : Int))) ((ixV x1 x3).bind fun x5 => (M_boulterref38_insert_sOR x2 x5).bind fun x6 => some (.inl (x6, IntKind.i64.wrap (x3 + (1 : Int))))) (some (.inr x2))
noncomputable def M_boulterref38_Sorted (p0 : List S_api_Member) : Option ((List S_api_Member)) :=
 (M_boulterref38_Last p0).bind fun x1 => (loop (M_boulterref38_Sorted_L0 x1) (([] : List S_api_Member), (0 : Int))).bind fun x4 => some x4
theorem ok_boulterref38_Sorted {g : Gd} {h : AHeap} {F : List Ck} {p0 : List S_api_Member} {q0 : List S_api_Member} {av : List AVal} (hm : M_boulterref38_Sorted p0 = some q0) (hc : canL (cfg.still 33) av = [vs e_S_api_Member p0]) (A : HH g h [] F) : ∃ v h', Runs cfg g h 33 av v h' ∧ ∃ (rq0 : Option Nat), v = rowV rq0 q0.length ∧ HH g h' [.lst rq0 63 (lst e_S_api_Member q0)] F := by
  refine runsQ1 (n := 22) (rs := [.tmp 2]) (by kernel_rfl) hc (by kernel_rfl) ?_
  clear hc
  unfold M_boulterref38_Sorted at hm
  refine start (n := 22) [(0, vs e_S_api_Member p0)] (by kernel_rfl) (by kernel_rfl) ?_
  intro fr H
  refine aw_seq (by kernel_rfl) ?_
  refine aw_reg (id := 0) (n := 1) [(0, [])] (by kernel_rfl) (by kernel_rfl) ?_
  refine at_seg [(0, [])] [(0, vs e_S_api_Member p0)] H (noU_all rfl) (fun fr => by kernel_rfl) ?_
  intro fr H
  refine at_nil ?_
  show AW cfg 33 g (right (bodyC cfg.P 33)) fr h _
  refine aw_seq (by kernel_rfl) ?_
  refine aw_reg (id := 1) (n := 2) [(0, []), (1, [])] (by kernel_rfl) (by kernel_rfl) ?_
  obtain ⟨h1, e1⟩ : ∃ x, x = h.push (.cells (some 63) 2 []) := ⟨_, rfl⟩
  replace A := (A.pushL _ _).to e1
  refine at_step (v := rowV (some h.size) (([] : List S_api_Member).length)) (h1 := h1) [(0, vs e_S_api_Member p0), (6, rowV (some h.size) (([] : List S_api_Member).length))] H (fun fr => by kernel_rfl) (fun fr => .of (s_n' (by kernel_rfl) (congrArg some e1.symm))) ?_
  intro fr t H
  refine at_seg [(1, [])] [(0, vs e_S_api_Member p0), (3, rowV (some h.size) (([] : List S_api_Member).length))] H (noU_all rfl) (fun fr => by kernel_rfl) ?_
  intro fr H
  refine at_nil ?_
  show AW cfg 33 g (right (right (bodyC cfg.P 33))) fr h1 _
  refine aw_seq (by kernel_rfl) ?_
  refine aw_reg (id := 2) (n := 3) [(0, []), (1, []), (2, [])] (by kernel_rfl) (by kernel_rfl) ?_
  refine at_seg [(0, [])] [(3, rowV (some h.size) (([] : List S_api_Member).length)), (7, vs e_S_api_Member p0)] H (noU_all rfl) (fun fr => by kernel_rfl) ?_
  intro fr H
  have A1 := A.cut 0
  obtain ⟨x1, hx, hm⟩ := bind_some hm
  obtain ⟨v1, h2, hr, rqw1, rfl, A1⟩ := ok_boulterref38_Last (av := [vs e_S_api_Member p0]) hx (by kernel_rfl) A1
  replace A : HH g h2 [.lst rqw1 63 (lst e_S_api_Member x1), .lst (some h.size) 63 ([])] F := A.glue0 (n := 0) A1
  refine at_step (v := rowV rqw1 x1.length) (h1 := h2) [(3, rowV (some h.size) (([] : List S_api_Member).length)), (8, rowV rqw1 x1.length)] H (fun fr => by kernel_rfl) (fun fr => Steps.call (by kernel_rfl) hr) ?_
  intro fr t H
  refine at_seg [(2, [])] [(3, rowV (some h.size) (([] : List S_api_Member).length)), (4, rowV rqw1 x1.length)] H (noU_all rfl) (fun fr => by kernel_rfl) ?_
  intro fr H
  refine at_nil ?_
  show AW cfg 33 g (right (right (right (bodyC cfg.P 33)))) fr h2 _
  refine aw_seq (by kernel_rfl) ?_
  refine aw_seq (by kernel_rfl) ?_
  refine aw_reg (id := 3) (n := 1) [(0, [])] (by kernel_rfl) (by kernel_rfl) ?_
  refine at_seg [(0, [])] [(3, rowV (some h.size) (([] : List S_api_Member).length)), (4, rowV rqw1 x1.length), (5, .int .i64 (0 : Int))] H (noU_all rfl) (fun fr => by kernel_rfl) ?_
  intro fr H
  refine at_nil ?_
  show AW cfg 33 g (right (left (right (right (right (bodyC cfg.P 33)))))) fr h2 _
  refine aw_block (id := 0) (by kernel_rfl) ?_
  replace A : HH g h2 [.lst rqw1 63 (lst e_S_api_Member x1), .lst (some h.size) 63 (lst e_S_api_Member ([] : List S_api_Member))] F := A
  replace A : HH g h2 [.lst (some h.size) 63 (lst e_S_api_Member ([] : List S_api_Member)), .lst rqw1 63 (lst e_S_api_Member x1)] F := ((A.front 0 rfl).front 1 rfl)
  obtain ⟨o1, ho, hm⟩ := bind_some hm
  refine aw_mono (Q' := fun e fr' h' => (∃ (x4 : List S_api_Member), e = .exit 0 ∧ x4 = o1 ∧ ∃ (r2 : Option Nat), Has fr' 22 [(3, rowV r2 x4.length)] ∧ HH g h' [.lst r2 63 (lst e_S_api_Member x4)] F) ∨ False) ?_ ?_
  · refine aw_loop (by kernel_rfl) (fun (s : (List S_api_Member) × Int) fr' h' => ∃ (x2 : List S_api_Member) (x3 : Int), (x2, x3) = s ∧ ∃ (r1 : Option Nat), Has fr' 22 [(3, rowV r1 x2.length), (4, rowV rqw1 x1.length), (5, .int .i64 x3)] ∧ HH g h' [.lst r1 63 (lst e_S_api_Member x2), .lst rqw1 63 (lst e_S_api_Member x1)] F) ho ⟨([] : List S_api_Member), (0 : Int), rfl, some h.size, H.less _ (fun fr => by kernel_rfl), A⟩ ?_
    clear ho hm H A
    intro s q fr h3 hI hm
    obtain ⟨x2, x3, rfl, r1, H, A⟩ := hI
    unfold M_boulterref38_Sorted_L0 at hm
    refine aw_seq (by kernel_rfl) ?_
    refine aw_seq (by kernel_rfl) ?_
    refine aw_reg (id := 4) (n := 4) [(0, []), (1, []), (2, []), (3, [])] (by kernel_rfl) (by kernel_rfl) ?_
    refine at_seg [(0, []), (1, []), (2, []), (3, [])] [(3, rowV r1 x2.length), (4, rowV rqw1 x1.length), (5, .int .i64 x3), (12, .bool (decide (x3 < (x1.length : Int))))] H (noU_all rfl) (fun fr => by kernel_rfl) ?_
    intro fr H
    refine at_nil ?_
    show AW cfg 33 g (right (left (left (left (right (left (right (right (right (bodyC cfg.P 33)))))))))) fr h3 _
    rcases iteB_some hm with ⟨hb, hm⟩ | ⟨hb, hm⟩
    · replace H := H.know 12 hb (by kernel_rfl)
      refine aw_true (x := .tmp 12) (by kernel_rfl) H (fun fr => by kernel_rfl) ?_
      refine aw_skip (by kernel_rfl) ?_
      show AW cfg 33 g (right (left (left (right (left (right (right (right (bodyC cfg.P 33))))))))) fr h3 _
      refine aw_seq (by kernel_rfl) ?_
      refine aw_block (id := 1) (by kernel_rfl) ?_
      refine aw_reg (id := 6) (n := 7) [(0, []), (1, []), (2, []), (3, []), (4, []), (5, []), (6, [])] (by kernel_rfl) (by kernel_rfl) ?_
      refine at_seg [(0, []), (1, []), (2, [])] [(4, rowV rqw1 x1.length), (5, .int .i64 x3), (15, rowV r1 x2.length), (16, rowV rqw1 x1.length), (17, .int .i64 x3)] H (noU_all rfl) (fun fr => by kernel_rfl) ?_
      intro fr H
      obtain ⟨x5, hx, hm⟩ := bind_some hm
      obtain ⟨i1, er1, _, hx, hq1⟩ := HH.ixO enc_S_api_Member (by decide) A 1 (xs := x1) rfl hx
      refine at_step (v := .ptr (some (i1, x3.toNat * 14))) (h1 := h3) [(4, rowV rqw1 x1.length), (5, .int .i64 x3), (15, rowV r1 x2.length), (18, .ptr (some (i1, x3.toNat * 14)))] H (fun fr => by kernel_rfl) (fun fr => .of (s_ixL (s := rowS rqw1 x1.length) (by kernel_rfl) hx)) ?_
      intro fr t H
      refine at_step (v := .agg (e_S_api_Member x5)) (h1 := h3) [(4, rowV rqw1 x1.length), (5, .int .i64 x3), (15, rowV r1 x2.length), (19, .agg (e_S_api_Member x5))] H (fun fr => by kernel_rfl) (fun fr => .of (s_ldA (by kernel_rfl) (row_ldA enc_S_api_Member (HH.row A 1 rfl er1) hq1 0 14 (Nat.le_of_ble_eq_true rfl)))) ?_
      intro fr t H
      have A1 := A.cut 1
      obtain ⟨x6, hx, hm⟩ := bind_some hm
      obtain ⟨v1, h4, hr, rqw2, rfl, A1⟩ := ok_boulterref38_insert_sOR (av := [rowV r1 x2.length, .agg (e_S_api_Member x5)]) hx (by kernel_rfl) A1
      replace A : HH g h4 [.lst rqw2 63 (lst e_S_api_Member x6), .lst r1 63 (lst e_S_api_Member x2), .lst rqw1 63 (lst e_S_api_Member x1)] F := A.glue0 (n := 1) A1
      refine at_step (v := rowV rqw2 x6.length) (h1 := h4) [(4, rowV rqw1 x1.length), (5, .int .i64 x3), (20, rowV rqw2 x6.length)] H (fun fr => by kernel_rfl) (fun fr => Steps.call (by kernel_rfl) hr) ?_
      intro fr t H
      refine at_seg [(6, [])] [(3, rowV rqw2 x6.length), (4, rowV rqw1 x1.length), (5, .int .i64 x3)] H (noU_all rfl) (fun fr => by kernel_rfl) ?_
      intro fr H
      refine at_nil ?_
      show AW cfg 33 g (right (right (left (left (right (left (right (right (right (bodyC cfg.P 33)))))))))) fr h4 _
      refine aw_reg (id := 5) (n := 3) [(0, []), (1, []), (2, [])] (by kernel_rfl) (by kernel_rfl) ?_
      refine at_seg [(0, []), (1, []), (2, [])] [(3, rowV rqw2 x6.length), (4, rowV rqw1 x1.length), (5, .int .i64 (IntKind.i64.wrap (x3 + (1 : Int))))] H (noU_all rfl) (fun fr => by kernel_rfl) ?_
      intro fr H
      refine at_nil ?_
      replace A : HH g h4 [.lst rqw2 63 (lst e_S_api_Member x6), .lst rqw1 63 (lst e_S_api_Member x1)] F := (HH.dropF ((A.front 2 rfl).front 1 rfl) 2)
      exact Exists.intro (x6, IntKind.i64.wrap (x3 + (1 : Int))) (And.intro (Option.some.inj hm).symm ⟨x6, IntKind.i64.wrap (x3 + (1 : Int)), rfl, rqw2, H.less _ (fun fr => by kernel_rfl), A⟩)
    · replace H := H.know 12 hb (by kernel_rfl)
      refine aw_false (x := .tmp 12) (by kernel_rfl) H (fun fr => by kernel_rfl) ?_
      refine aw_exit (i := 0) (by kernel_rfl) ?_
      replace A : HH g h3 [.lst r1 63 (lst e_S_api_Member x2)] F := (HH.dropF (A.front 0 rfl) 1)
      exact Exists.intro _ (And.intro (Option.some.inj hm).symm (fun e => Or.inl ⟨x2, rfl, e, r1, H.less _ (fun fr => by kernel_rfl), A⟩))
  · clear ho
    clear A
    intro e fr h5 hQ
    rcases hQ with ⟨x4, rfl, rfl, r2, H, A⟩ | hF
    · skip
      show AW cfg 33 g (right (right (right (right (bodyC cfg.P 33))))) fr h5 _
      refine aw_seq (by kernel_rfl) ?_
      refine aw_reg (id := 7) (n := 2) [(0, []), (1, [])] (by kernel_rfl) (by kernel_rfl) ?_
      refine at_seg [(0, []), (1, [])] [(2, rowV r2 x4.length)] H (noU_all rfl) (fun fr => by kernel_rfl) ?_
      intro fr H
      refine at_nil ?_
      show AW cfg 33 g (right (right (right (right (right (bodyC cfg.P 33)))))) fr h5 _
      refine aw_ret (by kernel_rfl) ?_
      have e1 := Option.some.inj hm
      subst e1
      refine ⟨.inl rfl, rowV r2 x4.length, resH H (fun fr => by kernel_rfl), ?_⟩
      exact ⟨r2, rfl, A⟩
    · exact hF.elim
/-! ### slices.Concat[[]boulter/api.Member,boulter/api.Member] -/
noncomputable def M_slices_Concat_boulter_api_Member_boulter_api_Member_sO_L0 (p0 : List (List S_api_Member)) (s : Int × Int) : Option ((Int × Int) ⊕ ((Int))) :=
  match s with
  | (x1, x2) => iteB (decide (x2 < (p0.length : Int))) (((ixV p0 x2).bind fun x5 => iteB (decide ((IntKind.i64.wrap (x1 + (x5.length : Int))) < (0 : Int))) (none) (some (IntKind.i64.wrap (x1 + (x5.length : Int)))) : Option ((Int))).bind fun x4 => some (.inl (x4, IntKind.i64.wrap (x2 + (1 : Int))))) (some (.inr x1))
noncomputable def M_slices_Concat_boulter_api_Member_boulter_api_Member_sO_L1 (p0 : List (List S_api_Member)) (s : (List S_api_Member) × Int) : Option (((List S_api_Member) × Int) ⊕ (((List S_api_Member)))) :=
  match s with
  | (x6, x7) => iteB (decide (x7 < (p0.length : Int))) ((ixV p0 x7).bind fun x9 => need (okN 168 (x6.length + x9.length)) <| some (.inl ((x6 ++ x9), IntKind.i64.wrap (x7 + (1 : Int))))) (some (.inr x6))
noncomputable def M_slices_Concat_boulter_api_Member_boulter_api_Member_sO (p0 : List (List S_api_Member)) : Option ((List S_api_Member)) :=
 (loop (M_slices_Concat_boulter_api_Member_boulter_api_Member_sO_L0 p0) ((0 : Int), (0 : Int))).bind fun x3 => need (mkN 168 x3) <| (loop (M_slices_Concat_boulter_api_Member_boulter_api_Member_sO_L1 p0) (([] : List S_api_Member), (0 : Int))).bind fun x8 => some x8
theorem ok_slices_Concat_boulter_api_Member_boulter_api_Member_sO {g : Gd} {h : AHeap} {F : List Ck} {p0 : List (List S_api_Member)} {rp0 : Option Nat} {q0 : List S_api_Member} {av : List AVal} (hm : M_slices_Concat_boulter_api_Member_boulter_api_Member_sO p0 = some q0) (hc : canL (cfg.still 44) av = [rowV rp0 p0.length]) (A : HH g h [.lst rp0 35 (lst (eL e_S_api_Member) p0)] F) : ∃ v h', Runs cfg g h 44 av v h' ∧ ∃ (rq0 : Option Nat), v = rowV rq0 q0.length ∧ HH g h' [.lst rq0 63 (lst e_S_api_Member q0), .lst rp0 35 (lst (eL e_S_api_Member) p0)] F := by
  refine runsQ1 (n := 36) (rs := [.tmp 2]) (by kernel_rfl) hc (by kernel_rfl) ?_
  clear hc
  unfold M_slices_Concat_boulter_api_Member_boulter_api_Member_sO at hm
  refine start (n := 36) [(0, rowV rp0 p0.length)] (by kernel_rfl) (by kernel_rfl) ?_
  intro fr H
  refine aw_seq (by kernel_rfl) ?_
  refine aw_reg (id := 0) (n := 1) [(0, [])] (by kernel_rfl) (by kernel_rfl) ?_
  refine at_seg [(0, [])] [(0, rowV rp0 p0.length)] H (noU_all rfl) (fun fr => by kernel_rfl) ?_
  intro fr H
  refine at_nil ?_
  show AW cfg 44 g (right (bodyC cfg.P 44)) fr h _
  refine aw_seq (by kernel_rfl) ?_
  refine aw_reg (id := 1) (n := 1) [(0, [])] (by kernel_rfl) (by kernel_rfl) ?_
  refine at_seg [(0, [])] [(0, rowV rp0 p0.length), (3, .int .i64 (0 : Int))] H (noU_all rfl) (fun fr => by kernel_rfl) ?_
  intro fr H
  refine at_nil ?_
  show AW cfg 44 g (right (right (bodyC cfg.P 44))) fr h _
  refine aw_seq (by kernel_rfl) ?_
  refine aw_seq (by kernel_rfl) ?_
  refine aw_reg (id := 2) (n := 3) [(0, []), (1, []), (2, [])] (by kernel_rfl) (by kernel_rfl) ?_
  refine at_seg [(0, []), (1, []), (2, [])] [(0, rowV rp0 p0.length), (3, .int .i64 (0 : Int)), (9, rowV rp0 p0.length), (10, .int .i64 (p0.length : Int)), (11, .int .i64 (0 : Int))] H (noU_all rfl) (fun fr => by kernel_rfl) ?_
  intro fr H
  refine at_nil ?_
  show AW cfg 44 g (right (left (right (right (bodyC cfg.P 44))))) fr h _
  refine aw_block (id := 0) (by kernel_rfl) ?_
  obtain ⟨o1, ho, hm⟩ := bind_some hm
  refine aw_mono (Q' := fun e fr' h' => (∃ (x3 : Int), e = .exit 0 ∧ x3 = o1 ∧ Has fr' 36 [(0, rowV rp0 p0.length), (3, .int .i64 x3)] ∧ HH g h' [.lst rp0 35 (lst (eL e_S_api_Member) p0)] F) ∨ False) ?_ ?_
  · refine aw_loop (by kernel_rfl) (fun (s : Int × Int) fr' h' => ∃ (x1 : Int) (x2 : Int), (x1, x2) = s ∧ Has fr' 36 [(0, rowV rp0 p0.length), (3, .int .i64 x1), (9, rowV rp0 p0.length), (10, .int .i64 (p0.length : Int)), (11, .int .i64 x2)] ∧ HH g h' [.lst rp0 35 (lst (eL e_S_api_Member) p0)] F) ho ⟨(0 : Int), (0 : Int), rfl, H.less _ (fun fr => by kernel_rfl), A⟩ ?_
    clear ho hm H A
    intro s q fr h1 hI hm
    obtain ⟨x1, x2, rfl, H, A⟩ := hI
    unfold M_slices_Concat_boulter_api_Member_boulter_api_Member_sO_L0 at hm
    refine aw_seq (by kernel_rfl) ?_
    refine aw_reg (id := 3) (n := 1) [(0, [])] (by kernel_rfl) (by kernel_rfl) ?_
    refine at_seg [(0, [])] [(0, rowV rp0 p0.length), (3, .int .i64 x1), (9, rowV rp0 p0.length), (10, .int .i64 (p0.length : Int)), (11, .int .i64 x2), (12, .bool (decide (x2 < (p0.length : Int))))] H (noU_all rfl) (fun fr => by kernel_rfl) ?_
    intro fr H
    refine at_nil ?_
    show AW cfg 44 g (right (left (left (right (left (right (right (bodyC cfg.P 44)))))))) fr h1 _
    refine aw_seq (by kernel_rfl) ?_
    rcases iteB_some hm with ⟨hb, hm⟩ | ⟨hb, hm⟩
    · replace H := H.know 12 hb (by kernel_rfl)
      refine aw_true (x := .tmp 12) (by kernel_rfl) H (fun fr => by kernel_rfl) ?_
      refine aw_skip (by kernel_rfl) ?_
      show AW cfg 44 g (right (right (left (left (right (left (right (right (bodyC cfg.P 44))))))))) fr h1 _
      refine aw_seq (by kernel_rfl) ?_
      obtain ⟨o2, ho, hm⟩ := bind_some hm
      refine aw_mono (Q' := fun e fr' h' => (∃ (x4 : Int), e = .normal ∧ x4 = o2 ∧ Has fr' 36 [(0, rowV rp0 p0.length), (3, .int .i64 x4), (9, rowV rp0 p0.length), (10, .int .i64 (p0.length : Int)), (11, .int .i64 x2)] ∧ HH g h' [.lst rp0 35 (lst (eL e_S_api_Member) p0)] F) ∨ False) ?_ ?_
      · replace hm := ho
        clear ho
        refine aw_block (id := 1) (by kernel_rfl) ?_
        refine aw_seq (by kernel_rfl) ?_
        refine aw_reg (id := 4) (n := 3) [(0, []), (1, []), (2, [])] (by kernel_rfl) (by kernel_rfl) ?_
        obtain ⟨x5, hx, hm⟩ := bind_some hm
        obtain ⟨i1, er1, _, hx, hq1⟩ := HH.ixO (encL _) (by decide) A 0 (xs := p0) rfl hx
        refine at_step (v := .ptr (some (i1, x2.toNat * 1))) (h1 := h1) [(0, rowV rp0 p0.length), (3, .int .i64 x1), (9, rowV rp0 p0.length), (10, .int .i64 (p0.length : Int)), (11, .int .i64 x2), (13, .ptr (some (i1, x2.toNat * 1)))] H (fun fr => by kernel_rfl) (fun fr => .of (s_ixL (s := rowS rp0 p0.length) (by kernel_rfl) hx)) ?_
        intro fr t H
        refine at_step (v := vs e_S_api_Member x5) (h1 := h1) [(0, rowV rp0 p0.length), (3, .int .i64 x1), (9, rowV rp0 p0.length), (10, .int .i64 (p0.length : Int)), (11, .int .i64 x2), (14, vs e_S_api_Member x5)] H (fun fr => by kernel_rfl) (fun fr => .of (s_ld (by kernel_rfl) (row_ld1 (encL _) (HH.row A 0 rfl er1) hq1 (o := 0) rfl))) ?_
        intro fr t H
        refine at_seg [(2, [])] [(0, rowV rp0 p0.length), (3, .int .i64 x1), (5, vs e_S_api_Member x5), (9, rowV rp0 p0.length), (10, .int .i64 (p0.length : Int)), (11, .int .i64 x2)] H (noU_all rfl) (fun fr => by kernel_rfl) ?_
        intro fr H
        refine at_nil ?_
        show AW cfg 44 g (right (left (left (right (right (left (left (right (left (right (right (bodyC cfg.P 44)))))))))))) fr h1 _
        refine aw_seq (by kernel_rfl) ?_
        refine aw_reg (id := 5) (n := 5) [(0, []), (1, []), (2, []), (3, []), (4, [])] (by kernel_rfl) (by kernel_rfl) ?_
        refine at_seg [(0, []), (1, []), (2, []), (3, []), (4, [])] [(0, rowV rp0 p0.length), (3, .int .i64 (IntKind.i64.wrap (x1 + (x5.length : Int)))), (9, rowV rp0 p0.length), (10, .int .i64 (p0.length : Int)), (11, .int .i64 x2)] H (noU_all rfl) (fun fr => by kernel_rfl) ?_
        intro fr H
        refine at_nil ?_
        show AW cfg 44 g (right (right (left (left (right (right (left (left (right (left (right (right (bodyC cfg.P 44))))))))))))) fr h1 _
        refine aw_seq (by kernel_rfl) ?_
        refine aw_reg (id := 6) (n := 2) [(0, []), (1, [])] (by kernel_rfl) (by kernel_rfl) ?_
        refine at_seg [(0, []), (1, [])] [(0, rowV rp0 p0.length), (3, .int .i64 (IntKind.i64.wrap (x1 + (x5.length : Int)))), (9, rowV rp0 p0.length), (10, .int .i64 (p0.length : Int)), (11, .int .i64 x2), (20, .bool (decide ((IntKind.i64.wrap (x1 + (x5.length : Int))) < (0 : Int))))] H (noU_all rfl) (fun fr => by kernel_rfl) ?_
        intro fr H
        refine at_nil ?_
        show AW cfg 44 g (right (right (right (left (left (right (right (left (left (right (left (right (right (bodyC cfg.P 44)))))))))))))) fr h1 _
        rcases iteB_some hm with ⟨hb, hm⟩ | ⟨hb, hm⟩
        · replace H := H.know 20 hb (by kernel_rfl)
          refine aw_true (x := .tmp 20) (by kernel_rfl) H (fun fr => by kernel_rfl) ?_
          refine aw_reg (id := 7) (n := 2) [(0, []), (1, [])] (by kernel_rfl) (by kernel_rfl) ?_
          cases hm
        · replace H := H.know 20 hb (by kernel_rfl)
          refine aw_false (x := .tmp 20) (by kernel_rfl) H (fun fr => by kernel_rfl) ?_
          refine aw_skip (by kernel_rfl) ?_
          exact Or.inl ⟨IntKind.i64.wrap (x1 + (x5.length : Int)), rfl, Option.some.inj hm, H.less _ (fun fr => by kernel_rfl), A⟩
      · clear ho
        clear A
        intro e fr h2 hQ
        rcases hQ with ⟨x4, rfl, rfl, H, A⟩ | hF
        · skip
          show AW cfg 44 g (right (right (right (left (left (right (left (right (right (bodyC cfg.P 44)))))))))) fr h2 _
          refine aw_reg (id := 8) (n := 2) [(0, []), (1, [])] (by kernel_rfl) (by kernel_rfl) ?_
          refine at_seg [(0, []), (1, [])] [(0, rowV rp0 p0.length), (3, .int .i64 x4), (9, rowV rp0 p0.length), (10, .int .i64 (p0.length : Int)), (11, .int .i64 (IntKind.i64.wrap (x2 + (1 : Int))))] H (noU_all rfl) (fun fr => by kernel_rfl) ?_
          intro fr H
          refine at_nil ?_
          exact Exists.intro (x4, IntKind.i64.wrap (x2 + (1 : Int))) (And.intro (Option.some.inj hm).symm ⟨x4, IntKind.i64.wrap (x2 + (1 : Int)), rfl, H.less _ (fun fr => by kernel_rfl), A⟩)
        · exact hF.elim
    · replace H := H.know 12 hb (by kernel_rfl)
      refine aw_false (x := .tmp 12) (by kernel_rfl) H (fun fr => by kernel_rfl) ?_
      refine aw_exit (i := 0) (by kernel_rfl) ?_
      exact Exists.intro _ (And.intro (Option.some.inj hm).symm (fun e => Or.inl ⟨x1, rfl, e, H.less _ (fun fr => by kernel_rfl), A⟩))
  · clear ho
    clear A
    intro e fr h3 hQ
    rcases hQ with ⟨x3, rfl, rfl, H, A⟩ | hF
    · skip
      show AW cfg 44 g (right (right (right (bodyC cfg.P 44)))) fr h3 _
      refine aw_seq (by kernel_rfl) ?_
      refine aw_reg (id := 9) (n := 3) [(0, []), (1, []), (2, [])] (by kernel_rfl) (by kernel_rfl) ?_
      refine at_seg [(0, [])] [(0, rowV rp0 p0.length), (23, .int .i64 x3)] H (noU_all rfl) (fun fr => by kernel_rfl) ?_
      intro fr H
      have A1 := A.cut 0
      obtain ⟨hb, hm⟩ := need_some hm
      obtain ⟨r1, h4, hr, A1⟩ := HH.grow (C := cfg) (f := 66) (a := 0) (t := 63) (z := 14) A1 (by decide) (by kernel_rfl) (l := exts) rfl (by kernel_rfl) (by kernel_rfl) hb
      replace A : HH g h4 [.lst r1 63 (lst e_S_api_Member ([] : List S_api_Member)), .lst rp0 35 (lst (eL e_S_api_Member) p0)] F := A.glue0 (n := 0) A1
      refine at_step (v := rowV r1 (([] : List S_api_Member).length)) (h1 := h4) [(0, rowV rp0 p0.length), (24, rowV r1 (([] : List S_api_Member).length))] H (fun fr => by kernel_rfl) (fun fr => Steps.call (by kernel_rfl) hr) ?_
      intro fr t H
      refine at_seg [(2, [])] [(0, rowV rp0 p0.length), (6, rowV r1 (([] : List S_api_Member).length))] H (noU_all rfl) (fun fr => by kernel_rfl) ?_
      intro fr H
      refine at_nil ?_
      show AW cfg 44 g (right (right (right (right (bodyC cfg.P 44))))) fr h4 _
      refine aw_seq (by kernel_rfl) ?_
      refine aw_seq (by kernel_rfl) ?_
      refine aw_reg (id := 10) (n := 3) [(0, []), (1, []), (2, [])] (by kernel_rfl) (by kernel_rfl) ?_
      refine at_seg [(0, []), (1, []), (2, [])] [(6, rowV r1 (([] : List S_api_Member).length)), (25, rowV rp0 p0.length), (26, .int .i64 (p0.length : Int)), (27, .int .i64 (0 : Int))] H (noU_all rfl) (fun fr => by kernel_rfl) ?_
      intro fr H
      refine at_nil ?_
      show AW cfg 44 g (right (left (right (right (right (right (bodyC cfg.P 44))))))) fr h4 _
      refine aw_block (id := 2) (by kernel_rfl) ?_
      obtain ⟨o3, ho, hm⟩ := bind_some hm
      refine aw_mono (Q' := fun e fr' h' => (∃ (x8 : List S_api_Member), e = .exit 2 ∧ x8 = o3 ∧ ∃ (r3 : Option Nat), Has fr' 36 [(6, rowV r3 x8.length)] ∧ HH g h' [.lst r3 63 (lst e_S_api_Member x8), .lst rp0 35 (lst (eL e_S_api_Member) p0)] F) ∨ False) ?_ ?_
      · refine aw_loop (by kernel_rfl) (fun (s : (List S_api_Member) × Int) fr' h' => ∃ (x6 : List S_api_Member) (x7 : Int), (x6, x7) = s ∧ ∃ (r2 : Option Nat), Has fr' 36 [(6, rowV r2 x6.length), (25, rowV rp0 p0.length), (26, .int .i64 (p0.length : Int)), (27, .int .i64 x7)] ∧ HH g h' [.lst r2 63 (lst e_S_api_Member x6), .lst rp0 35 (lst (eL e_S_api_Member) p0)] F) ho ⟨([] : List S_api_Member), (0 : Int), rfl, r1, H.less _ (fun fr => by kernel_rfl), A⟩ ?_
        clear ho hm H A
        intro s q fr h5 hI hm
        obtain ⟨x6, x7, rfl, r2, H, A⟩ := hI
        unfold M_slices_Concat_boulter_api_Member_boulter_api_Member_sO_L1 at hm
        refine aw_seq (by kernel_rfl) ?_
        refine aw_reg (id := 11) (n := 1) [(0, [])] (by kernel_rfl) (by kernel_rfl) ?_
        refine at_seg [(0, [])] [(6, rowV r2 x6.length), (25, rowV rp0 p0.length), (26, .int .i64 (p0.length : Int)), (27, .int .i64 x7), (28, .bool (decide (x7 < (p0.length : Int))))] H (noU_all rfl) (fun fr => by kernel_rfl) ?_
        intro fr H
        refine at_nil ?_
        show AW cfg 44 g (right (left (left (right (left (right (right (right (right (bodyC cfg.P 44)))))))))) fr h5 _
        refine aw_seq (by kernel_rfl) ?_
        rcases iteB_some hm with ⟨hb, hm⟩ | ⟨hb, hm⟩
        · replace H := H.know 28 hb (by kernel_rfl)
          refine aw_true (x := .tmp 28) (by kernel_rfl) H (fun fr => by kernel_rfl) ?_
          refine aw_skip (by kernel_rfl) ?_
          show AW cfg 44 g (right (right (left (left (right (left (right (right (right (right (bodyC cfg.P 44))))))))))) fr h5 _
          refine aw_seq (by kernel_rfl) ?_
          refine aw_block (id := 3) (by kernel_rfl) ?_
          refine aw_seq (by kernel_rfl) ?_
          refine aw_reg (id := 12) (n := 3) [(0, []), (1, []), (2, [])] (by kernel_rfl) (by kernel_rfl) ?_
          obtain ⟨x9, hx, hm⟩ := bind_some hm
          obtain ⟨i2, er2, _, hx, hq2⟩ := HH.ixO (encL _) (by decide) A 1 (xs := p0) rfl hx
          refine at_step (v := .ptr (some (i2, x7.toNat * 1))) (h1 := h5) [(6, rowV r2 x6.length), (25, rowV rp0 p0.length), (26, .int .i64 (p0.length : Int)), (27, .int .i64 x7), (29, .ptr (some (i2, x7.toNat * 1)))] H (fun fr => by kernel_rfl) (fun fr => .of (s_ixL (s := rowS rp0 p0.length) (by kernel_rfl) hx)) ?_
          intro fr t H
          refine at_step (v := vs e_S_api_Member x9) (h1 := h5) [(6, rowV r2 x6.length), (25, rowV rp0 p0.length), (26, .int .i64 (p0.length : Int)), (27, .int .i64 x7), (30, vs e_S_api_Member x9)] H (fun fr => by kernel_rfl) (fun fr => .of (s_ld (by kernel_rfl) (row_ld1 (encL _) (HH.row A 1 rfl er2) hq2 (o := 0) rfl))) ?_
          intro fr t H
          refine at_seg [(2, [])] [(6, rowV r2 x6.length), (8, vs e_S_api_Member x9), (25, rowV rp0 p0.length), (26, .int .i64 (p0.length : Int)), (27, .int .i64 x7)] H (noU_all rfl) (fun fr => by kernel_rfl) ?_
          intro fr H
          refine at_nil ?_
          show AW cfg 44 g (right (left (left (right (right (left (left (right (left (right (right (right (right (bodyC cfg.P 44)))))))))))))) fr h5 _
          refine aw_reg (id := 13) (n := 4) [(0, []), (1, []), (2, []), (3, [])] (by kernel_rfl) (by kernel_rfl) ?_
          refine at_seg [(0, []), (1, [])] [(25, rowV rp0 p0.length), (26, .int .i64 (p0.length : Int)), (27, .int .i64 x7), (31, rowV r2 x6.length), (32, vs e_S_api_Member x9)] H (noU_all rfl) (fun fr => by kernel_rfl) ?_
          intro fr H
          obtain ⟨hb, hm⟩ := need_some hm
          obtain ⟨r4, h6, hx, A1⟩ := HH.appO enc_S_api_Member (by decide) A 0 (xs := x6) (ys := x9) rfl (firstV enc_S_api_Member _ x9) (enc_S_api_Member.canL _) rfl hb
          replace A : HH g h6 [.lst r4 63 (lst e_S_api_Member (x6 ++ x9)), .lst rp0 35 (lst (eL e_S_api_Member) p0)] F := A1
          refine at_step (v := rowV r4 ((x6 ++ x9).length)) (h1 := h6) [(25, rowV rp0 p0.length), (26, .int .i64 (p0.length : Int)), (27, .int .i64 x7), (33, rowV r4 ((x6 ++ x9).length))] H (fun fr => by kernel_rfl) (fun fr => .of (s_app (s := rowS r2 x6.length) (by kernel_rfl) hx)) ?_
          intro fr t H
          refine at_seg [(3, [])] [(6, rowV r4 ((x6 ++ x9).length)), (25, rowV rp0 p0.length), (26, .int .i64 (p0.length : Int)), (27, .int .i64 x7)] H (noU_all rfl) (fun fr => by kernel_rfl) ?_
          intro fr H
          refine at_nil ?_
          show AW cfg 44 g (right (right (right (left (left (right (left (right (right (right (right (bodyC cfg.P 44)))))))))))) fr h6 _
          refine aw_reg (id := 14) (n := 2) [(0, []), (1, [])] (by kernel_rfl) (by kernel_rfl) ?_
          refine at_seg [(0, []), (1, [])] [(6, rowV r4 ((x6 ++ x9).length)), (25, rowV rp0 p0.length), (26, .int .i64 (p0.length : Int)), (27, .int .i64 (IntKind.i64.wrap (x7 + (1 : Int))))] H (noU_all rfl) (fun fr => by kernel_rfl) ?_
          intro fr H
          refine at_nil ?_
          exact Exists.intro ((x6 ++ x9), IntKind.i64.wrap (x7 + (1 : Int))) (And.intro (Option.some.inj hm).symm ⟨(x6 ++ x9), IntKind.i64.wrap (x7 + (1 : Int)), rfl, r4, H.less _ (fun fr => by kernel_rfl), A⟩)
        · replace H := H.know 28 hb (by kernel_rfl)
          refine aw_false (x := .tmp 28) (by kernel_rfl) H (fun fr => by kernel_rfl) ?_
          refine aw_exit (i := 2) (by kernel_rfl) ?_
          exact Exists.intro _ (And.intro (Option.some.inj hm).symm (fun e => Or.inl ⟨x6, rfl, e, r2, H.less _ (fun fr => by kernel_rfl), A⟩))
      · clear ho
        clear A
        intro e fr h7 hQ
        rcases hQ with ⟨x8, rfl, rfl, r3, H, A⟩ | hF
        · skip
          show AW cfg 44 g (right (right (right (right (right (bodyC cfg.P 44)))))) fr h7 _
          refine aw_seq (by kernel_rfl) ?_
          refine aw_reg (id := 15) (n := 2) [(0, []), (1, [])] (by kernel_rfl) (by kernel_rfl) ?_
          refine at_seg [(0, []), (1, [])] [(2, rowV r3 x8.length)] H (noU_all rfl) (fun fr => by kernel_rfl) ?_
          intro fr H
          refine at_nil ?_
          show AW cfg 44 g (right (right (right (right (right (right (bodyC cfg.P 44))))))) fr h7 _
          refine aw_ret (by kernel_rfl) ?_
          have e1 := Option.some.inj hm
          subst e1
          refine ⟨.inl rfl, rowV r3 x8.length, resH H (fun fr => by kernel_rfl), ?_⟩
          exact ⟨r3, rfl, A⟩
        · exact hF.elim
    · exact hF.elim
/-! ### boulter/delta.places -/
noncomputable def M_delta_places_sO_L0 (p0 : List S_api_Member) (s : (List ((List UInt8) × Int)) × Int) : Option (((List ((List UInt8) × Int)) × Int) ⊕ (((List ((List UInt8) × Int))))) :=
  match s with
  | (x1, x2) => iteB (decide (x2 < (p0.length : Int))) ((ixV p0 x2).bind fun x4 => some (.inl ((mput x1 x4.Name x2), IntKind.i64.wrap (x2 + (1 : Int))))) (some (.inr x1))
noncomputable def M_delta_places_sO (p0 : List S_api_Member) : Option ((List ((List UInt8) × Int))) :=
 (loop (M_delta_places_sO_L0 p0) (([] : List ((List UInt8) × Int)), (0 : Int))).bind fun x3 => some x3
theorem ok_delta_places_sO {g : Gd} {h : AHeap} {F : List Ck} {p0 : List S_api_Member} {rp0 : Option Nat} {q0 : List ((List UInt8) × Int)} {av : List AVal} (hm : M_delta_places_sO p0 = some q0) (hc : canL (cfg.still 46) av = [rowV rp0 p0.length]) (A : HH g h [.lst rp0 63 (lst e_S_api_Member p0)] F) : ∃ v h', Runs cfg g h 46 av v h' ∧ ∃ (bq0 : Nat), v = .map (some bq0) ∧ HH g h' [.obj bq0 (.map 2 (encM (fun k : List UInt8 => .str k) (fun v : Int => .int .i64 v) q0)), .lst rp0 63 (lst e_S_api_Member p0)] F := by
  refine runsQ1 (n := 20) (rs := [.tmp 2]) (by kernel_rfl) hc (by kernel_rfl) ?_
  clear hc
  unfold M_delta_places_sO at hm
  refine start (n := 20) [(0, rowV rp0 p0.length)] (by kernel_rfl) (by kernel_rfl) ?_
  intro fr H
  refine aw_seq (by kernel_rfl) ?_
  refine aw_reg (id := 0) (n := 1) [(0, [])] (by kernel_rfl) (by kernel_rfl) ?_
  refine at_seg [(0, [])] [(0, rowV rp0 p0.length)] H (noU_all rfl) (fun fr => by kernel_rfl) ?_
  intro fr H
  refine at_nil ?_
  show AW cfg 46 g (right (bodyC cfg.P 46)) fr h _
  refine aw_seq (by kernel_rfl) ?_
  refine aw_reg (id := 1) (n := 2) [(0, []), (1, [])] (by kernel_rfl) (by kernel_rfl) ?_
  obtain ⟨h1, e1⟩ : ∃ x, x = h.push (.map 2 []) := ⟨_, rfl⟩
  replace A : HH g h1 [.obj h.size (.map 2 (encM (fun k : List UInt8 => .str k) (fun v : Int => .int .i64 v) ([] : List ((List UInt8) × Int)))), .lst rp0 63 (lst e_S_api_Member p0)] F := (A.push _).to e1
  refine at_step (v := .map (some h.size)) (h1 := h1) [(0, rowV rp0 p0.length), (6, .map (some h.size))] H (fun fr => by kernel_rfl) (fun fr => .of (s_n' (by kernel_rfl) (congrArg some e1.symm))) ?_
  intro fr t H
  refine at_seg [(1, [])] [(0, rowV rp0 p0.length), (3, .map (some h.size))] H (noU_all rfl) (fun fr => by kernel_rfl) ?_
  intro fr H
  refine at_nil ?_
  show AW cfg 46 g (right (right (bodyC cfg.P 46))) fr h1 _
  refine aw_seq (by kernel_rfl) ?_
  refine aw_seq (by kernel_rfl) ?_
  refine aw_reg (id := 2) (n := 3) [(0, []), (1, []), (2, [])] (by kernel_rfl) (by kernel_rfl) ?_
  refine at_seg [(0, []), (1, []), (2, [])] [(3, .map (some h.size)), (7, rowV rp0 p0.length), (8, .int .i64 (p0.length : Int)), (9, .int .i64 (0 : Int))] H (noU_all rfl) (fun fr => by kernel_rfl) ?_
  intro fr H
  refine at_nil ?_
  show AW cfg 46 g (right (left (right (right (bodyC cfg.P 46))))) fr h1 _
  refine aw_block (id := 0) (by kernel_rfl) ?_
  obtain ⟨o1, ho, hm⟩ := bind_some hm
  refine aw_mono (Q' := fun e fr' h' => (∃ (x3 : List ((List UInt8) × Int)), e = .exit 0 ∧ x3 = o1 ∧ Has fr' 20 [(3, .map (some h.size))] ∧ HH g h' [.obj h.size (.map 2 (encM (fun k : List UInt8 => .str k) (fun v : Int => .int .i64 v) x3)), .lst rp0 63 (lst e_S_api_Member p0)] F) ∨ False) ?_ ?_
  · refine aw_loop (by kernel_rfl) (fun (s : (List ((List UInt8) × Int)) × Int) fr' h' => ∃ (x1 : List ((List UInt8) × Int)) (x2 : Int), (x1, x2) = s ∧ Has fr' 20 [(3, .map (some h.size)), (7, rowV rp0 p0.length), (8, .int .i64 (p0.length : Int)), (9, .int .i64 x2)] ∧ HH g h' [.obj h.size (.map 2 (encM (fun k : List UInt8 => .str k) (fun v : Int => .int .i64 v) x1)), .lst rp0 63 (lst e_S_api_Member p0)] F) ho ⟨([] : List ((List UInt8) × Int)), (0 : Int), rfl, H.less _ (fun fr => by kernel_rfl), A⟩ ?_
    clear ho hm H A
    intro s q fr h2 hI hm
    obtain ⟨x1, x2, rfl, H, A⟩ := hI
    unfold M_delta_places_sO_L0 at hm
    refine aw_seq (by kernel_rfl) ?_
    refine aw_reg (id := 3) (n := 1) [(0, [])] (by kernel_rfl) (by kernel_rfl) ?_
    refine at_seg [(0, [])] [(3, .map (some h.size)), (7, rowV rp0 p0.length), (8, .int .i64 (p0.length : Int)), (9, .int .i64 x2), (10, .bool (decide (x2 < (p0.length : Int))))] H (noU_all rfl) (fun fr => by kernel_rfl) ?_
    intro fr H
    refine at_nil ?_
    show AW cfg 46 g (right (left (left (right (left (right (right (bodyC cfg.P 46)))))))) fr h2 _
    refine aw_seq (by kernel_rfl) ?_
    rcases iteB_some hm with ⟨hb, hm⟩ | ⟨hb, hm⟩
    · replace H := H.know 10 hb (by kernel_rfl)
      refine aw_true (x := .tmp 10) (by kernel_rfl) H (fun fr => by kernel_rfl) ?_
      refine aw_skip (by kernel_rfl) ?_
      show AW cfg 46 g (right (right (left (left (right (left (right (right (bodyC cfg.P 46))))))))) fr h2 _
      refine aw_seq (by kernel_rfl) ?_
      refine aw_block (id := 1) (by kernel_rfl) ?_
      refine aw_seq (by kernel_rfl) ?_
      refine aw_reg (id := 4) (n := 6) [(0, []), (1, []), (2, []), (3, []), (4, []), (5, [])] (by kernel_rfl) (by kernel_rfl) ?_
      refine at_seg [(0, [])] [(3, .map (some h.size)), (7, rowV rp0 p0.length), (8, .int .i64 (p0.length : Int)), (9, .int .i64 x2), (11, .int .i64 x2)] H (noU_all rfl) (fun fr => by kernel_rfl) ?_
      intro fr H
      obtain ⟨x4, hx, hm⟩ := bind_some hm
      obtain ⟨i1, er1, _, hx, hq1⟩ := HH.ixO enc_S_api_Member (by decide) A 1 (xs := p0) rfl hx
      refine at_step (v := .ptr (some (i1, x2.toNat * 14))) (h1 := h2) [(3, .map (some h.size)), (7, rowV rp0 p0.length), (8, .int .i64 (p0.length : Int)), (9, .int .i64 x2), (11, .int .i64 x2), (12, .ptr (some (i1, x2.toNat * 14)))] H (fun fr => by kernel_rfl) (fun fr => .of (s_ixL (s := rowS rp0 p0.length) (by kernel_rfl) hx)) ?_
      intro fr t H
      refine at_step (v := .agg (e_S_api_Member x4)) (h1 := h2) [(3, .map (some h.size)), (7, rowV rp0 p0.length), (8, .int .i64 (p0.length : Int)), (9, .int .i64 x2), (11, .int .i64 x2), (13, .agg (e_S_api_Member x4))] H (fun fr => by kernel_rfl) (fun fr => .of (s_ldA (by kernel_rfl) (row_ldA enc_S_api_Member (HH.row A 1 rfl er1) hq1 0 14 (Nat.le_of_ble_eq_true rfl)))) ?_
      intro fr t H
      obtain ⟨h3, e2⟩ : ∃ x, x = h2.push (.cells none 2 [.str ([] : List UInt8), .str ([] : List UInt8), .int .u8 (0 : Int), .int .i64 (0 : Int), .int .i64 (0 : Int), .int .i64 (0 : Int), .str ([] : List UInt8), .str ([] : List UInt8), .int .i64 (0 : Int), .int .i64 (0 : Int), .int .i64 (0 : Int), .int .i64 (0 : Int), .slice none 0, .str ([] : List UInt8)]) := ⟨_, rfl⟩
      replace A := (A.push _).to e2
      refine at_step (v := .ptr (some (h2.size, 0))) (h1 := h3) [(3, .map (some h.size)), (5, .ptr (some (h2.size, 0))), (7, rowV rp0 p0.length), (8, .int .i64 (p0.length : Int)), (9, .int .i64 x2), (11, .int .i64 x2), (13, .agg (e_S_api_Member x4))] H (fun fr => by kernel_rfl) (fun fr => .of (s_n' (by kernel_rfl) (congrArg some e2.symm))) ?_
      intro fr t H
      refine at_seg [(4, [])] [(3, .map (some h.size)), (4, .int .i64 x2), (5, .ptr (some (h2.size, 0))), (7, rowV rp0 p0.length), (8, .int .i64 (p0.length : Int)), (9, .int .i64 x2), (13, .agg (e_S_api_Member x4))] H (noU_all rfl) (fun fr => by kernel_rfl) ?_
      intro fr H
      obtain ⟨h4, hx, A1⟩ := A.st 0 rfl (o := 0) (new := [.str x4.Name, .str x4.Link, .int .u8 x4.Kind, .int .i64 x4.Mode, .int .i64 x4.Uid, .int .i64 x4.Gid, .str x4.Uname, .str x4.Gname, .int .i64 x4.Major, .int .i64 x4.Minor, .int .i64 x4.Time.Sec, .int .i64 x4.Time.Nsec, vs e_S_api_Pair x4.Extra, .str x4.Data]) (ds := [.str x4.Name, .str x4.Link, .int .u8 x4.Kind, .int .i64 x4.Mode, .int .i64 x4.Uid, .int .i64 x4.Gid, .str x4.Uname, .str x4.Gname, .int .i64 x4.Major, .int .i64 x4.Minor, .int .i64 x4.Time.Sec, .int .i64 x4.Time.Nsec, vs e_S_api_Pair x4.Extra, .str x4.Data]) (Nat.le_of_ble_eq_true rfl) rfl rfl
      replace A : HH g h4 [.obj h2.size (.cells none 2 (e_S_api_Member x4)), .obj h.size (.map 2 (encM (fun k : List UInt8 => .str k) (fun v : Int => .int .i64 v) x1)), .lst rp0 63 (lst e_S_api_Member p0)] F := A1
      refine at_step (v := .tuple []) (h1 := h4) [(3, .map (some h.size)), (4, .int .i64 x2), (5, .ptr (some (h2.size, 0))), (7, rowV rp0 p0.length), (8, .int .i64 (p0.length : Int)), (9, .int .i64 x2)] H (fun fr => by kernel_rfl) (fun fr => .of (s_stG (by kernel_rfl) (stG_st hx rfl))) ?_
      intro fr t H
      refine at_nil ?_
      show AW cfg 46 g (right (left (left (right (right (left (left (right (left (right (right (bodyC cfg.P 46)))))))))))) fr h4 _
      refine aw_reg (id := 5) (n := 5) [(0, []), (1, []), (2, []), (3, []), (4, [])] (by kernel_rfl) (by kernel_rfl) ?_
      refine at_seg [(0, []), (1, [])] [(3, .map (some h.size)), (4, .int .i64 x2), (7, rowV rp0 p0.length), (8, .int .i64 (p0.length : Int)), (9, .int .i64 x2), (14, .map (some h.size)), (15, .ptr (some (h2.size, 0)))] H (noU_all rfl) (fun fr => by kernel_rfl) ?_
      intro fr H
      refine at_step (v := .str x4.Name) (h1 := h4) [(3, .map (some h.size)), (4, .int .i64 x2), (7, rowV rp0 p0.length), (8, .int .i64 (p0.length : Int)), (9, .int .i64 x2), (14, .map (some h.size)), (16, .str x4.Name)] H (fun fr => by kernel_rfl) (fun fr => .of (s_ld (by kernel_rfl) (A.ld1 0 rfl (o := 0) rfl))) ?_
      intro fr t H
      refine at_seg [(3, [])] [(3, .map (some h.size)), (7, rowV rp0 p0.length), (8, .int .i64 (p0.length : Int)), (9, .int .i64 x2), (14, .map (some h.size)), (16, .str x4.Name), (17, .int .i64 x2)] H (noU_all rfl) (fun fr => by kernel_rfl) ?_
      intro fr H
      obtain ⟨h5, hx, A1⟩ := HH.mset (kt := 9) (et := 3) (ek := fun k : List UInt8 => .str k) (ev := fun v : Int => .int .i64 v) (keyS (by kernel_rfl)) A 1 rfl (t := 68) (by kernel_rfl) x4.Name x2
      replace A : HH g h5 [.obj h2.size (.cells none 2 (e_S_api_Member x4)), .obj h.size (.map 2 (encM (fun k : List UInt8 => .str k) (fun v : Int => .int .i64 v) (mput x1 x4.Name x2))), .lst rp0 63 (lst e_S_api_Member p0)] F := A1
      refine at_step (v := .tuple []) (h1 := h5) [(3, .map (some h.size)), (7, rowV rp0 p0.length), (8, .int .i64 (p0.length : Int)), (9, .int .i64 x2)] H (fun fr => by kernel_rfl) (fun fr => .of (s_ms (by kernel_rfl) hx)) ?_
      intro fr t H
      refine at_nil ?_
      show AW cfg 46 g (right (right (right (left (left (right (left (right (right (bodyC cfg.P 46)))))))))) fr h5 _
      refine aw_reg (id := 6) (n := 2) [(0, []), (1, [])] (by kernel_rfl) (by kernel_rfl) ?_
      refine at_seg [(0, []), (1, [])] [(3, .map (some h.size)), (7, rowV rp0 p0.length), (8, .int .i64 (p0.length : Int)), (9, .int .i64 (IntKind.i64.wrap (x2 + (1 : Int))))] H (noU_all rfl) (fun fr => by kernel_rfl) ?_
      intro fr H
      refine at_nil ?_
      replace A : HH g h5 [.obj h.size (.map 2 (encM (fun k : List UInt8 => .str k) (fun v : Int => .int .i64 v) (mput x1 x4.Name x2))), .lst rp0 63 (lst e_S_api_Member p0)] F := (HH.dropF ((A.front 2 rfl).front 2 rfl) 2)
      exact Exists.intro ((mput x1 x4.Name x2), IntKind.i64.wrap (x2 + (1 : Int))) (And.intro (Option.some.inj hm).symm ⟨(mput x1 x4.Name x2), IntKind.i64.wrap (x2 + (1 : Int)), rfl, H.less _ (fun fr => by kernel_rfl), A⟩)
    · replace H := H.know 10 hb (by kernel_rfl)
      refine aw_false (x := .tmp 10) (by kernel_rfl) H (fun fr => by kernel_rfl) ?_
      refine aw_exit (i := 0) (by kernel_rfl) ?_
      exact Exists.intro _ (And.intro (Option.some.inj hm).symm (fun e => Or.inl ⟨x1, rfl, e, H.less _ (fun fr => by kernel_rfl), A⟩))
  · clear ho
    clear A
    intro e fr h6 hQ
    rcases hQ with ⟨x3, rfl, rfl, H, A⟩ | hF
    · skip
      show AW cfg 46 g (right (right (right (bodyC cfg.P 46)))) fr h6 _
      refine aw_seq (by kernel_rfl) ?_
      refine aw_reg (id := 7) (n := 2) [(0, []), (1, [])] (by kernel_rfl) (by kernel_rfl) ?_
      refine at_seg [(0, []), (1, [])] [(2, .map (some h.size))] H (noU_all rfl) (fun fr => by kernel_rfl) ?_
      intro fr H
      refine at_nil ?_
      show AW cfg 46 g (right (right (right (right (bodyC cfg.P 46))))) fr h6 _
      refine aw_ret (by kernel_rfl) ?_
      have e1 := Option.some.inj hm
      subst e1
      refine ⟨.inl rfl, .map (some h.size), resH H (fun fr => by kernel_rfl), ?_⟩
      exact ⟨h.size, rfl, A⟩
    · exact hF.elim
/-! ### boulter/delta.kept -/
noncomputable def M_delta_kept_sOM_L0 (p0 : List S_api_Member) (p1 : List ((List UInt8) × Int)) (s : (List S_api_Member) × Int) : Option (((List S_api_Member) × Int) ⊕ (((List S_api_Member)))) :=
  match s with
  | (x1, x2) => iteB (decide (x2 < (p0.length : Int))) (((ixV p0 x2).bind fun x5 => iteB (((mfind p1 x5.Name).isSome) && (((mfind p1 x5.Name).getD (0 : Int)) == x2)) (need (okN 32 x5.Extra.length) <| need (okN 168 (x1.length + ([x5] : List S_api_Member).length)) <| some (x1 ++ ([x5] : List S_api_Member))) (some x1) : Option (((List S_api_Member)))).bind fun x4 => some (.inl (x4, IntKind.i64.wrap (x2 + (1 : Int))))) (some (.inr x1))
noncomputable def M_delta_kept_sOM (p0 : List S_api_Member) (p1 : List ((List UInt8) × Int)) : Option ((List S_api_Member)) :=
 (loop (M_delta_kept_sOM_L0 p0 p1) (([] : List S_api_Member), (0 : Int))).bind fun x3 => some x3
theorem ok_delta_kept_sOM {g : Gd} {h : AHeap} {F : List Ck} {p0 : List S_api_Member} {p1 : List ((List UInt8) × Int)} {rp0 : Option Nat} {bp1 : Nat} {q0 : List S_api_Member} {av : List AVal} (hm : M_delta_kept_sOM p0 p1 = some q0) (hc : canL (cfg.still 45) av = [rowV rp0 p0.length, .map (some bp1)]) (A : HH g h [.lst rp0 63 (lst e_S_api_Member p0), .obj bp1 (.map 2 (encM (fun k : List UInt8 => .str k) (fun v : Int => .int .i64 v) p1))] F) : ∃ v h', Runs cfg g h 45 av v h' ∧ ∃ (rq0 : Option Nat), v = rowV rq0 q0.length ∧ HH g h' [.lst rq0 63 (lst e_S_api_Member q0), .lst rp0 63 (lst e_S_api_Member p0), .obj bp1 (.map 2 (encM (fun k : List UInt8 => .str k) (fun v : Int => .int .i64 v) p1))] F := by
  refine runsQ1 (n := 40) (rs := [.tmp 4]) (by kernel_rfl) hc (by kernel_rfl) ?_
  clear hc
  unfold M_delta_kept_sOM at hm
  refine start (n := 40) [(0, rowV rp0 p0.length), (1, .map (some bp1))] (by kernel_rfl) (by kernel_rfl) ?_
  intro fr H
  refine aw_seq (by kernel_rfl) ?_
  refine aw_reg (id := 0) (n := 1) [(0, [])] (by kernel_rfl) (by kernel_rfl) ?_
  refine at_seg [(0, [])] [(0, rowV rp0 p0.length), (1, .map (some bp1))] H (noU_all rfl) (fun fr => by kernel_rfl) ?_
  intro fr H
  refine at_nil ?_
  show AW cfg 45 g (right (bodyC cfg.P 45)) fr h _
  refine aw_seq (by kernel_rfl) ?_
  refine aw_reg (id := 1) (n := 1) [(0, [])] (by kernel_rfl) (by kernel_rfl) ?_
  refine at_seg [(0, [])] [(0, rowV rp0 p0.length), (1, .map (some bp1)), (5, .slice none 0)] H (noU_all rfl) (fun fr => by kernel_rfl) ?_
  intro fr H
  refine at_nil ?_
  show AW cfg 45 g (right (right (bodyC cfg.P 45))) fr h _
  refine aw_seq (by kernel_rfl) ?_
  refine aw_seq (by kernel_rfl) ?_
  refine aw_reg (id := 2) (n := 3) [(0, []), (1, []), (2, [])] (by kernel_rfl) (by kernel_rfl) ?_
  refine at_seg [(0, []), (1, []), (2, [])] [(1, .map (some bp1)), (5, .slice none 0), (10, rowV rp0 p0.length), (11, .int .i64 (p0.length : Int)), (12, .int .i64 (0 : Int))] H (noU_all rfl) (fun fr => by kernel_rfl) ?_
  intro fr H
  refine at_nil ?_
  show AW cfg 45 g (right (left (right (right (bodyC cfg.P 45))))) fr h _
  refine aw_block (id := 0) (by kernel_rfl) ?_
  replace A : HH g h [.lst none 63 (lst e_S_api_Member ([] : List S_api_Member)), .lst rp0 63 (lst e_S_api_Member p0), .obj bp1 (.map 2 (encM (fun k : List UInt8 => .str k) (fun v : Int => .int .i64 v) p1))] F := A.nilL 63
  obtain ⟨o1, ho, hm⟩ := bind_some hm
  refine aw_mono (Q' := fun e fr' h' => (∃ (x3 : List S_api_Member), e = .exit 0 ∧ x3 = o1 ∧ ∃ (r2 : Option Nat), Has fr' 40 [(5, rowV r2 x3.length)] ∧ HH g h' [.lst r2 63 (lst e_S_api_Member x3), .lst rp0 63 (lst e_S_api_Member p0), .obj bp1 (.map 2 (encM (fun k : List UInt8 => .str k) (fun v : Int => .int .i64 v) p1))] F) ∨ False) ?_ ?_
  · refine aw_loop (by kernel_rfl) (fun (s : (List S_api_Member) × Int) fr' h' => ∃ (x1 : List S_api_Member) (x2 : Int), (x1, x2) = s ∧ ∃ (r1 : Option Nat), Has fr' 40 [(1, .map (some bp1)), (5, rowV r1 x1.length), (10, rowV rp0 p0.length), (11, .int .i64 (p0.length : Int)), (12, .int .i64 x2)] ∧ HH g h' [.lst r1 63 (lst e_S_api_Member x1), .lst rp0 63 (lst e_S_api_Member p0), .obj bp1 (.map 2 (encM (fun k : List UInt8 => .str k) (fun v : Int => .int .i64 v) p1))] F) ho ⟨([] : List S_api_Member), (0 : Int), rfl, none, H.less _ (fun fr => by kernel_rfl), A⟩ ?_
    clear ho hm H A
    intro s q fr h1 hI hm
    obtain ⟨x1, x2, rfl, r1, H, A⟩ := hI
    unfold M_delta_kept_sOM_L0 at hm
    refine aw_seq (by kernel_rfl) ?_
    refine aw_reg (id := 3) (n := 1) [(0, [])] (by kernel_rfl) (by kernel_rfl) ?_
    refine at_seg [(0, [])] [(1, .map (some bp1)), (5, rowV r1 x1.length), (10, rowV rp0 p0.length), (11, .int .i64 (p0.length : Int)), (12, .int .i64 x2), (13, .bool (decide (x2 < (p0.length : Int))))] H (noU_all rfl) (fun fr => by kernel_rfl) ?_
    intro fr H
    refine at_nil ?_
    show AW cfg 45 g (right (left (left (right (left (right (right (bodyC cfg.P 45)))))))) fr h1 _
    refine aw_seq (by kernel_rfl) ?_
    rcases iteB_some hm with ⟨hb, hm⟩ | ⟨hb, hm⟩
    · replace H := H.know 13 hb (by kernel_rfl)
      refine aw_true (x := .tmp 13) (by kernel_rfl) H (fun fr => by kernel_rfl) ?_
      refine aw_skip (by kernel_rfl) ?_
      show AW cfg 45 g (right (right (left (left (right (left (right (right (bodyC cfg.P 45))))))))) fr h1 _
      refine aw_seq (by kernel_rfl) ?_
      obtain ⟨o2, ho, hm⟩ := bind_some hm
      refine aw_mono (Q' := fun e fr' h' => (∃ (x4 : List S_api_Member), e = .normal ∧ x4 = o2 ∧ ∃ (r3 : Option Nat), Has fr' 40 [(1, .map (some bp1)), (5, rowV r3 x4.length), (10, rowV rp0 p0.length), (11, .int .i64 (p0.length : Int)), (12, .int .i64 x2)] ∧ HH g h' [.lst r3 63 (lst e_S_api_Member x4), .lst rp0 63 (lst e_S_api_Member p0), .obj bp1 (.map 2 (encM (fun k : List UInt8 => .str k) (fun v : Int => .int .i64 v) p1))] F) ∨ False) ?_ ?_
      · replace hm := ho
        clear ho
        refine aw_block (id := 1) (by kernel_rfl) ?_
        refine aw_seq (by kernel_rfl) ?_
        refine aw_reg (id := 4) (n := 6) [(0, []), (1, []), (2, []), (3, []), (4, []), (5, [])] (by kernel_rfl) (by kernel_rfl) ?_
        refine at_seg [(0, [])] [(1, .map (some bp1)), (5, rowV r1 x1.length), (10, rowV rp0 p0.length), (11, .int .i64 (p0.length : Int)), (12, .int .i64 x2), (14, .int .i64 x2)] H (noU_all rfl) (fun fr => by kernel_rfl) ?_
        intro fr H
        obtain ⟨x5, hx, hm⟩ := bind_some hm
        obtain ⟨i1, er1, _, hx, hq1⟩ := HH.ixO enc_S_api_Member (by decide) A 1 (xs := p0) rfl hx
        refine at_step (v := .ptr (some (i1, x2.toNat * 14))) (h1 := h1) [(1, .map (some bp1)), (5, rowV r1 x1.length), (10, rowV rp0 p0.length), (11, .int .i64 (p0.length : Int)), (12, .int .i64 x2), (14, .int .i64 x2), (15, .ptr (some (i1, x2.toNat * 14)))] H (fun fr => by kernel_rfl) (fun fr => .of (s_ixL (s := rowS rp0 p0.length) (by kernel_rfl) hx)) ?_
        intro fr t H
        refine at_step (v := .agg (e_S_api_Member x5)) (h1 := h1) [(1, .map (some bp1)), (5, rowV r1 x1.length), (10, rowV rp0 p0.length), (11, .int .i64 (p0.length : Int)), (12, .int .i64 x2), (14, .int .i64 x2), (16, .agg (e_S_api_Member x5))] H (fun fr => by kernel_rfl) (fun fr => .of (s_ldA (by kernel_rfl) (row_ldA enc_S_api_Member (HH.row A 1 rfl er1) hq1 0 14 (Nat.le_of_ble_eq_true rfl)))) ?_
        intro fr t H
        obtain ⟨h2, e1⟩ : ∃ x, x = h1.push (.cells none 2 [.str ([] : List UInt8), .str ([] : List UInt8), .int .u8 (0 : Int), .int .i64 (0 : Int), .int .i64 (0 : Int), .int .i64 (0 : Int), .str ([] : List UInt8), .str ([] : List UInt8), .int .i64 (0 : Int), .int .i64 (0 : Int), .int .i64 (0 : Int), .int .i64 (0 : Int), .slice none 0, .str ([] : List UInt8)]) := ⟨_, rfl⟩
        replace A := (A.push _).to e1
        refine at_step (v := .ptr (some (h1.size, 0))) (h1 := h2) [(1, .map (some bp1)), (5, rowV r1 x1.length), (7, .ptr (some (h1.size, 0))), (10, rowV rp0 p0.length), (11, .int .i64 (p0.length : Int)), (12, .int .i64 x2), (14, .int .i64 x2), (16, .agg (e_S_api_Member x5))] H (fun fr => by kernel_rfl) (fun fr => .of (s_n' (by kernel_rfl) (congrArg some e1.symm))) ?_
        intro fr t H
        refine at_seg [(4, [])] [(1, .map (some bp1)), (5, rowV r1 x1.length), (6, .int .i64 x2), (7, .ptr (some (h1.size, 0))), (10, rowV rp0 p0.length), (11, .int .i64 (p0.length : Int)), (12, .int .i64 x2), (16, .agg (e_S_api_Member x5))] H (noU_all rfl) (fun fr => by kernel_rfl) ?_
        intro fr H
        obtain ⟨h3, hx, A1⟩ := A.st 0 rfl (o := 0) (new := [.str x5.Name, .str x5.Link, .int .u8 x5.Kind, .int .i64 x5.Mode, .int .i64 x5.Uid, .int .i64 x5.Gid, .str x5.Uname, .str x5.Gname, .int .i64 x5.Major, .int .i64 x5.Minor, .int .i64 x5.Time.Sec, .int .i64 x5.Time.Nsec, vs e_S_api_Pair x5.Extra, .str x5.Data]) (ds := [.str x5.Name, .str x5.Link, .int .u8 x5.Kind, .int .i64 x5.Mode, .int .i64 x5.Uid, .int .i64 x5.Gid, .str x5.Uname, .str x5.Gname, .int .i64 x5.Major, .int .i64 x5.Minor, .int .i64 x5.Time.Sec, .int .i64 x5.Time.Nsec, vs e_S_api_Pair x5.Extra, .str x5.Data]) (Nat.le_of_ble_eq_true rfl) rfl rfl
        replace A : HH g h3 [.obj h1.size (.cells none 2 (e_S_api_Member x5)), .lst r1 63 (lst e_S_api_Member x1), .lst rp0 63 (lst e_S_api_Member p0), .obj bp1 (.map 2 (encM (fun k : List UInt8 => .str k) (fun v : Int => .int .i64 v) p1))] F := A1
        refine at_step (v := .tuple []) (h1 := h3) [(1, .map (some bp1)), (5, rowV r1 x1.length), (6, .int .i64 x2), (7, .ptr (some (h1.size, 0))), (10, rowV rp0 p0.length), (11, .int .i64 (p0.length : Int)), (12, .int .i64 x2)] H (fun fr => by kernel_rfl) (fun fr => .of (s_stG (by kernel_rfl) (stG_st hx rfl))) ?_
        intro fr t H
        refine at_nil ?_
        show AW cfg 45 g (right (left (left (right (right (left (left (right (left (right (right (bodyC cfg.P 45)))))))))))) fr h3 _
        refine aw_seq (by kernel_rfl) ?_
        refine aw_reg (id := 5) (n := 9) [(0, []), (1, []), (2, []), (3, []), (4, []), (5, []), (6, []), (7, []), (8, [])] (by kernel_rfl) (by kernel_rfl) ?_
        refine at_seg [(0, []), (1, [])] [(1, .map (some bp1)), (5, rowV r1 x1.length), (6, .int .i64 x2), (7, .ptr (some (h1.size, 0))), (10, rowV rp0 p0.length), (11, .int .i64 (p0.length : Int)), (12, .int .i64 x2), (18, .map (some bp1)), (19, .ptr (some (h1.size, 0)))] H (noU_all rfl) (fun fr => by kernel_rfl) ?_
        intro fr H
        refine at_step (v := .str x5.Name) (h1 := h3) [(1, .map (some bp1)), (5, rowV r1 x1.length), (6, .int .i64 x2), (7, .ptr (some (h1.size, 0))), (10, rowV rp0 p0.length), (11, .int .i64 (p0.length : Int)), (12, .int .i64 x2), (18, .map (some bp1)), (20, .str x5.Name)] H (fun fr => by kernel_rfl) (fun fr => .of (s_ld (by kernel_rfl) (A.ld1 0 rfl (o := 0) rfl))) ?_
        intro fr t H
        refine at_step (v := .tuple [.int .i64 ((mfind p1 x5.Name).getD (0 : Int)), .bool ((mfind p1 x5.Name).isSome)]) (h1 := h3) [(1, .map (some bp1)), (5, rowV r1 x1.length), (6, .int .i64 x2), (7, .ptr (some (h1.size, 0))), (10, rowV rp0 p0.length), (11, .int .i64 (p0.length : Int)), (12, .int .i64 x2), (21, .tuple [.int .i64 ((mfind p1 x5.Name).getD (0 : Int)), .bool ((mfind p1 x5.Name).isSome)])] H (fun fr => by kernel_rfl) (fun fr => .of (s_lkT (by kernel_rfl) (HH.mlook (kt := 9) (et := 3) (ek := fun k : List UInt8 => .str k) (ev := fun v : Int => .int .i64 v) (keyS (by kernel_rfl)) A 3 rfl (t := 68) (by kernel_rfl) (z := (0 : Int)) (by kernel_rfl) x5.Name))) ?_
        intro fr t H
        refine at_seg [(4, []), (5, []), (6, []), (7, []), (8, [])] [(1, .map (some bp1)), (5, rowV r1 x1.length), (6, .int .i64 x2), (7, .ptr (some (h1.size, 0))), (8, .int .i64 ((mfind p1 x5.Name).getD (0 : Int))), (9, .bool ((mfind p1 x5.Name).isSome)), (10, rowV rp0 p0.length), (11, .int .i64 (p0.length : Int)), (12, .int .i64 x2)] H (noU_all rfl) (fun fr => by kernel_rfl) ?_
        intro fr H
        refine at_nil ?_
        show AW cfg 45 g (right (right (left (left (right (right (left (left (right (left (right (right (bodyC cfg.P 45))))))))))))) fr h3 _
        refine aw_seq (by kernel_rfl) ?_
        refine aw_reg (id := 6) (n := 6) [(0, []), (1, []), (2, []), (3, []), (4, []), (5, [])] (by kernel_rfl) (by kernel_rfl) ?_
        refine at_seg [(0, []), (1, [])] [(1, .map (some bp1)), (5, rowV r1 x1.length), (6, .int .i64 x2), (7, .ptr (some (h1.size, 0))), (8, .int .i64 ((mfind p1 x5.Name).getD (0 : Int))), (10, rowV rp0 p0.length), (11, .int .i64 (p0.length : Int)), (12, .int .i64 x2), (25, .bool ((mfind p1 x5.Name).isSome))] H (noU_all rfl) (fun fr => by kernel_rfl) ?_
        intro fr H
        refine at_cut [(2, []), (3, []), (4, []), (5, [])] (fun fr' h' => h3 = h' ∧ Has fr' 40 [(1, .map (some bp1)), (5, rowV r1 x1.length), (7, .ptr (some (h1.size, 0))), (10, rowV rp0 p0.length), (11, .int .i64 (p0.length : Int)), (12, .int .i64 x2), (29, .bool (((mfind p1 x5.Name).isSome) && (((mfind p1 x5.Name).getD (0 : Int)) == x2)))]) ?_ ?_
        · cases hb : ((mfind p1 x5.Name).isSome : Bool) with
          | true =>
            replace H := H.know 25 hb (by kernel_rfl)
            refine at_seg [(2, []), (3, []), (4, []), (5, [])] [(1, .map (some bp1)), (5, rowV r1 x1.length), (7, .ptr (some (h1.size, 0))), (10, rowV rp0 p0.length), (11, .int .i64 (p0.length : Int)), (12, .int .i64 x2), (29, .bool (((mfind p1 x5.Name).getD (0 : Int)) == x2))] H (noU_all rfl) (fun fr => by kernel_rfl) ?_
            intro fr H
            exact at_nil ⟨rfl, by first | exact H.less _ (fun fr => by rfl) | exact H.less _ (fun fr => by rw [hb]; rfl)⟩
          | false =>
            replace H := H.know 25 hb (by kernel_rfl)
            refine at_seg [(2, []), (3, []), (4, []), (5, [])] [(1, .map (some bp1)), (5, rowV r1 x1.length), (7, .ptr (some (h1.size, 0))), (10, rowV rp0 p0.length), (11, .int .i64 (p0.length : Int)), (12, .int .i64 x2), (29, .bool false)] H (noU_all rfl) (fun fr => by kernel_rfl) ?_
            intro fr H
            exact at_nil ⟨rfl, by first | exact H.less _ (fun fr => by rfl) | exact H.less _ (fun fr => by rw [hb]; rfl)⟩
        · intro t fr h' hK
          obtain ⟨e, H⟩ := hK
          subst e
          refine at_nil ?_
          show AW cfg 45 g (right (right (right (left (left (right (right (left (left (right (left (right (right (bodyC cfg.P 45)))))))))))))) fr h3 _
          rcases iteB_some hm with ⟨hb, hm⟩ | ⟨hb, hm⟩
          · replace H := H.know 29 hb (by kernel_rfl)
            refine aw_true (x := .tmp 29) (by kernel_rfl) H (fun fr => by kernel_rfl) ?_
            refine aw_seq (by kernel_rfl) ?_
            refine aw_reg (id := 7) (n := 5) [(0, []), (1, []), (2, []), (3, []), (4, [])] (by kernel_rfl) (by kernel_rfl) ?_
            refine at_seg [(0, [])] [(1, .map (some bp1)), (5, rowV r1 x1.length), (7, .ptr (some (h1.size, 0))), (10, rowV rp0 p0.length), (11, .int .i64 (p0.length : Int)), (12, .int .i64 x2), (30, .ptr (some (h1.size, 12)))] H (noU_all rfl) (fun fr => by kernel_rfl) ?_
            intro fr H
            refine at_step (v := vs e_S_api_Pair x5.Extra) (h1 := h3) [(1, .map (some bp1)), (5, rowV r1 x1.length), (7, .ptr (some (h1.size, 0))), (10, rowV rp0 p0.length), (11, .int .i64 (p0.length : Int)), (12, .int .i64 x2), (31, vs e_S_api_Pair x5.Extra)] H (fun fr => by kernel_rfl) (fun fr => .of (s_ld (by kernel_rfl) (A.ld1 0 rfl (o := 12) rfl))) ?_
            intro fr t H
            have A1 := A.cut 0
            obtain ⟨hb, hm⟩ := need_some hm
            refine at_step (v := vs e_S_api_Pair x5.Extra) (h1 := h3) [(1, .map (some bp1)), (5, rowV r1 x1.length), (7, .ptr (some (h1.size, 0))), (10, rowV rp0 p0.length), (11, .int .i64 (p0.length : Int)), (12, .int .i64 x2), (32, vs e_S_api_Pair x5.Extra)] H (fun fr => by kernel_rfl) (fun fr => Steps.call (by kernel_rfl) (runsCloneF (C := cfg) (f := 67) (a := 0) (t := 88) (xs := x5.Extra) enc_S_api_Pair (by decide) (by kernel_rfl) (l := exts) rfl (by kernel_rfl) (by kernel_rfl) rfl (firstV enc_S_api_Pair _ x5.Extra) (enc_S_api_Pair.canL _) hb)) ?_
            intro fr t H
            refine at_seg [(3, [])] [(1, .map (some bp1)), (5, rowV r1 x1.length), (7, .ptr (some (h1.size, 0))), (10, rowV rp0 p0.length), (11, .int .i64 (p0.length : Int)), (12, .int .i64 x2), (32, vs e_S_api_Pair x5.Extra), (33, .ptr (some (h1.size, 12)))] H (noU_all rfl) (fun fr => by kernel_rfl) ?_
            intro fr H
            obtain ⟨h5, hx, A1⟩ := A.st 0 rfl (o := 12) (new := [vs e_S_api_Pair x5.Extra]) (ds := [.str x5.Name, .str x5.Link, .int .u8 x5.Kind, .int .i64 x5.Mode, .int .i64 x5.Uid, .int .i64 x5.Gid, .str x5.Uname, .str x5.Gname, .int .i64 x5.Major, .int .i64 x5.Minor, .int .i64 x5.Time.Sec, .int .i64 x5.Time.Nsec, vs e_S_api_Pair x5.Extra, .str x5.Data]) (Nat.le_of_ble_eq_true rfl) rfl rfl
            replace A : HH g h5 [.obj h1.size (.cells none 2 (e_S_api_Member x5)), .lst r1 63 (lst e_S_api_Member x1), .lst rp0 63 (lst e_S_api_Member p0), .obj bp1 (.map 2 (encM (fun k : List UInt8 => .str k) (fun v : Int => .int .i64 v) p1))] F := A1
            refine at_step (v := .tuple []) (h1 := h5) [(1, .map (some bp1)), (5, rowV r1 x1.length), (7, .ptr (some (h1.size, 0))), (10, rowV rp0 p0.length), (11, .int .i64 (p0.length : Int)), (12, .int .i64 x2)] H (fun fr => by kernel_rfl) (fun fr => .of (s_st (by kernel_rfl) rfl hx)) ?_
            intro fr t H
            refine at_nil ?_
            show AW cfg 45 g (right (left (right (right (right (left (left (right (right (left (left (right (left (right (right (bodyC cfg.P 45)))))))))))))))) fr h5 _
            refine aw_reg (id := 8) (n := 5) [(0, []), (1, []), (2, []), (3, []), (4, [])] (by kernel_rfl) (by kernel_rfl) ?_
            refine at_seg [(0, [])] [(1, .map (some bp1)), (7, .ptr (some (h1.size, 0))), (10, rowV rp0 p0.length), (11, .int .i64 (p0.length : Int)), (12, .int .i64 x2), (34, rowV r1 x1.length)] H (noU_all rfl) (fun fr => by kernel_rfl) ?_
            intro fr H
            refine at_step (v := .agg (e_S_api_Member x5)) (h1 := h5) [(1, .map (some bp1)), (10, rowV rp0 p0.length), (11, .int .i64 (p0.length : Int)), (12, .int .i64 x2), (34, rowV r1 x1.length), (35, .agg (e_S_api_Member x5))] H (fun fr => by kernel_rfl) (fun fr => .of (s_ldA (by kernel_rfl) (A.ldA 0 rfl (o := 0) (n := 14) ⟨Nat.le_of_ble_eq_true rfl, rfl⟩))) ?_
            intro fr t H
            obtain ⟨h6, e2⟩ : ∃ x, x = h5.push (.cells (some 63) 2 [.str x5.Name, .str x5.Link, .int .u8 x5.Kind, .int .i64 x5.Mode, .int .i64 x5.Uid, .int .i64 x5.Gid, .str x5.Uname, .str x5.Gname, .int .i64 x5.Major, .int .i64 x5.Minor, .int .i64 x5.Time.Sec, .int .i64 x5.Time.Nsec, vs e_S_api_Pair x5.Extra, .str x5.Data]) := ⟨_, rfl⟩
            replace A := (A.pushL _ _).to e2
            refine at_step (v := rowV (some h5.size) (([x5] : List S_api_Member).length)) (h1 := h6) [(1, .map (some bp1)), (10, rowV rp0 p0.length), (11, .int .i64 (p0.length : Int)), (12, .int .i64 x2), (34, rowV r1 x1.length), (36, rowV (some h5.size) (([x5] : List S_api_Member).length))] H (fun fr => by kernel_rfl) (fun fr => .of (s_n' (by kernel_rfl) (congrArg some e2.symm))) ?_
            intro fr t H
            obtain ⟨hb, hm⟩ := need_some hm
            obtain ⟨r5, h7, hx, A1⟩ := HH.appO enc_S_api_Member (by decide) A 2 (xs := x1) (ys := ([x5] : List S_api_Member)) rfl (row_first A 0 rfl (n := ([x5] : List S_api_Member).length) (z := 14) rfl (by decide)) rfl rfl hb
            replace A : HH g h7 [.lst (some h5.size) 63 ([.str x5.Name, .str x5.Link, .int .u8 x5.Kind, .int .i64 x5.Mode, .int .i64 x5.Uid, .int .i64 x5.Gid, .str x5.Uname, .str x5.Gname, .int .i64 x5.Major, .int .i64 x5.Minor, .int .i64 x5.Time.Sec, .int .i64 x5.Time.Nsec, vs e_S_api_Pair x5.Extra, .str x5.Data]), .obj h1.size (.cells none 2 (e_S_api_Member x5)), .lst r5 63 (lst e_S_api_Member (x1 ++ ([x5] : List S_api_Member))), .lst rp0 63 (lst e_S_api_Member p0), .obj bp1 (.map 2 (encM (fun k : List UInt8 => .str k) (fun v : Int => .int .i64 v) p1))] F := A1
            replace A : HH g h7 [.obj h1.size (.cells none 2 (e_S_api_Member x5)), .lst r5 63 (lst e_S_api_Member (x1 ++ ([x5] : List S_api_Member))), .lst rp0 63 (lst e_S_api_Member p0), .obj bp1 (.map 2 (encM (fun k : List UInt8 => .str k) (fun v : Int => .int .i64 v) p1))] F := (HH.dropF ((((A.front 4 rfl).front 4 rfl).front 4 rfl).front 4 rfl) 4)
            refine at_step (v := rowV r5 ((x1 ++ ([x5] : List S_api_Member)).length)) (h1 := h7) [(1, .map (some bp1)), (10, rowV rp0 p0.length), (11, .int .i64 (p0.length : Int)), (12, .int .i64 x2), (37, rowV r5 ((x1 ++ ([x5] : List S_api_Member)).length))] H (fun fr => by kernel_rfl) (fun fr => .of (s_app (s := rowS r1 x1.length) (by kernel_rfl) hx)) ?_
            intro fr t H
            refine at_seg [(4, [])] [(1, .map (some bp1)), (5, rowV r5 ((x1 ++ ([x5] : List S_api_Member)).length)), (10, rowV rp0 p0.length), (11, .int .i64 (p0.length : Int)), (12, .int .i64 x2)] H (noU_all rfl) (fun fr => by kernel_rfl) ?_
            intro fr H
            refine at_nil ?_
            replace A : HH g h7 [.lst r5 63 (lst e_S_api_Member (x1 ++ ([x5] : List S_api_Member))), .lst rp0 63 (lst e_S_api_Member p0), .obj bp1 (.map 2 (encM (fun k : List UInt8 => .str k) (fun v : Int => .int .i64 v) p1))] F := (HH.dropF (((A.front 3 rfl).front 3 rfl).front 3 rfl) 3)
            exact Or.inl ⟨(x1 ++ ([x5] : List S_api_Member)), rfl, Option.some.inj hm, r5, H.less _ (fun fr => by kernel_rfl), A⟩
          · replace H := H.know 29 hb (by kernel_rfl)
            refine aw_false (x := .tmp 29) (by kernel_rfl) H (fun fr => by kernel_rfl) ?_
            refine aw_skip (by kernel_rfl) ?_
            replace A : HH g h3 [.lst r1 63 (lst e_S_api_Member x1), .lst rp0 63 (lst e_S_api_Member p0), .obj bp1 (.map 2 (encM (fun k : List UInt8 => .str k) (fun v : Int => .int .i64 v) p1))] F := (HH.dropF (((A.front 3 rfl).front 3 rfl).front 3 rfl) 3)
            exact Or.inl ⟨x1, rfl, Option.some.inj hm, r1, H.less _ (fun fr => by kernel_rfl), A⟩
      · clear ho
        clear A
        intro e fr h8 hQ
        rcases hQ with ⟨x4, rfl, rfl, r3, H, A⟩ | hF
        · skip
          show AW cfg 45 g (right (right (right (left (left (right (left (right (right (bodyC cfg.P 45)))))))))) fr h8 _
          refine aw_reg (id := 9) (n := 2) [(0, []), (1, [])] (by kernel_rfl) (by kernel_rfl) ?_
          refine at_seg [(0, []), (1, [])] [(1, .map (some bp1)), (5, rowV r3 x4.length), (10, rowV rp0 p0.length), (11, .int .i64 (p0.length : Int)), (12, .int .i64 (IntKind.i64.wrap (x2 + (1 : Int))))] H (noU_all rfl) (fun fr => by kernel_rfl) ?_
          intro fr H
          refine at_nil ?_
          exact Exists.intro (x4, IntKind.i64.wrap (x2 + (1 : Int))) (And.intro (Option.some.inj hm).symm ⟨x4, IntKind.i64.wrap (x2 + (1 : Int)), rfl, r3, H.less _ (fun fr => by kernel_rfl), A⟩)
        · exact hF.elim
    · replace H := H.know 13 hb (by kernel_rfl)
      refine aw_false (x := .tmp 13) (by kernel_rfl) H (fun fr => by kernel_rfl) ?_
      refine aw_exit (i := 0) (by kernel_rfl) ?_
      exact Exists.intro _ (And.intro (Option.some.inj hm).symm (fun e => Or.inl ⟨x1, rfl, e, r1, H.less _ (fun fr => by kernel_rfl), A⟩))
  · clear ho
    clear A
    intro e fr h9 hQ
    rcases hQ with ⟨x3, rfl, rfl, r2, H, A⟩ | hF
    · skip
      show AW cfg 45 g (right (right (right (bodyC cfg.P 45)))) fr h9 _
      refine aw_seq (by kernel_rfl) ?_
      refine aw_reg (id := 10) (n := 2) [(0, []), (1, [])] (by kernel_rfl) (by kernel_rfl) ?_
      refine at_seg [(0, []), (1, [])] [(4, rowV r2 x3.length)] H (noU_all rfl) (fun fr => by kernel_rfl) ?_
      intro fr H
      refine at_nil ?_
      show AW cfg 45 g (right (right (right (right (bodyC cfg.P 45))))) fr h9 _
      refine aw_ret (by kernel_rfl) ?_
      have e1 := Option.some.inj hm
      subst e1
      refine ⟨.inl rfl, rowV r2 x3.length, resH H (fun fr => by kernel_rfl), ?_⟩
      exact ⟨r2, rfl, A⟩
    · exact hF.elim
/-! ### boulter/delta.Last -/
noncomputable def M_delta_Last_sO (p0 : List S_api_Member) : Option ((List S_api_Member)) :=
 (M_delta_places_sO p0).bind fun x1 => (M_delta_kept_sOM p0 x1).bind fun x2 => some x2
theorem ok_delta_Last_sO {g : Gd} {h : AHeap} {F : List Ck} {p0 : List S_api_Member} {rp0 : Option Nat} {q0 : List S_api_Member} {av : List AVal} (hm : M_delta_Last_sO p0 = some q0) (hc : canL (cfg.still 23) av = [rowV rp0 p0.length]) (A : HH g h [.lst rp0 63 (lst e_S_api_Member p0)] F) : ∃ v h', Runs cfg g h 23 av v h' ∧ ∃ (rq0 : Option Nat), v = rowV rq0 q0.length ∧ HH g h' [.lst rq0 63 (lst e_S_api_Member q0), .lst rp0 63 (lst e_S_api_Member p0)] F := by
  refine runsQ1 (n := 7) (rs := [.tmp 2]) (by kernel_rfl) hc (by kernel_rfl) ?_
  clear hc
  unfold M_delta_Last_sO at hm
  refine start (n := 7) [(0, rowV rp0 p0.length)] (by kernel_rfl) (by kernel_rfl) ?_
  intro fr H
  refine aw_seq (by kernel_rfl) ?_
  refine aw_reg (id := 0) (n := 1) [(0, [])] (by kernel_rfl) (by kernel_rfl) ?_
  refine at_seg [(0, [])] [(0, rowV rp0 p0.length)] H (noU_all rfl) (fun fr => by kernel_rfl) ?_
  intro fr H
  refine at_nil ?_
  show AW cfg 23 g (right (bodyC cfg.P 23)) fr h _
  refine aw_seq (by kernel_rfl) ?_
  refine aw_reg (id := 1) (n := 5) [(0, []), (1, []), (2, []), (3, []), (4, [])] (by kernel_rfl) (by kernel_rfl) ?_
  refine at_seg [(0, []), (1, [])] [(3, rowV rp0 p0.length), (4, rowV rp0 p0.length)] H (noU_all rfl) (fun fr => by kernel_rfl) ?_
  intro fr H
  have A1 := A.cut 1
  obtain ⟨x1, hx, hm⟩ := bind_some hm
  obtain ⟨v1, h1, hr, bqw1, rfl, A1⟩ := ok_delta_places_sO (av := [rowV rp0 p0.length]) hx (by kernel_rfl) A1
  replace A : HH g h1 [.obj bqw1 (.map 2 (encM (fun k : List UInt8 => .str k) (fun v : Int => .int .i64 v) x1)), .lst rp0 63 (lst e_S_api_Member p0)] F := A.glue0 (n := 1) A1
  refine at_step (v := .map (some bqw1)) (h1 := h1) [(3, rowV rp0 p0.length), (5, .map (some bqw1))] H (fun fr => by kernel_rfl) (fun fr => Steps.call (by kernel_rfl) hr) ?_
  intro fr t H
  replace A : HH g h1 [.lst rp0 63 (lst e_S_api_Member p0), .obj bqw1 (.map 2 (encM (fun k : List UInt8 => .str k) (fun v : Int => .int .i64 v) x1))] F := ((A.front 0 rfl).front 1 rfl)
  have A1 := A.cut 2
  obtain ⟨x2, hx, hm⟩ := bind_some hm
  obtain ⟨v1, h2, hr, rqw2, rfl, A1⟩ := ok_delta_kept_sOM (av := [rowV rp0 p0.length, .map (some bqw1)]) hx (by kernel_rfl) A1
  replace A : HH g h2 [.lst rqw2 63 (lst e_S_api_Member x2), .lst rp0 63 (lst e_S_api_Member p0), .obj bqw1 (.map 2 (encM (fun k : List UInt8 => .str k) (fun v : Int => .int .i64 v) x1))] F := A.glue0 (n := 2) A1
  refine at_step (v := rowV rqw2 x2.length) (h1 := h2) [(6, rowV rqw2 x2.length)] H (fun fr => by kernel_rfl) (fun fr => Steps.call (by kernel_rfl) hr) ?_
  intro fr t H
  refine at_seg [(4, [])] [(2, rowV rqw2 x2.length)] H (noU_all rfl) (fun fr => by kernel_rfl) ?_
  intro fr H
  refine at_nil ?_
  show AW cfg 23 g (right (right (bodyC cfg.P 23))) fr h2 _
  refine aw_ret (by kernel_rfl) ?_
  have e1 := Option.some.inj hm
  subst e1
  refine ⟨.inl rfl, rowV rqw2 x2.length, resH H (fun fr => by kernel_rfl), ?_⟩
  replace A : HH g h2 [.lst rqw2 63 (lst e_S_api_Member x2), .lst rp0 63 (lst e_S_api_Member p0)] F := (HH.dropF ((A.front 1 rfl).front 1 rfl) 2)
  exact ⟨rqw2, rfl, A⟩
/-! ### boulter/delta.Update -/
noncomputable def M_delta_Update (p0 : List S_api_Member) (p1 : List S_api_Member) : Option ((List S_api_Member)) :=
 (M_slices_Concat_boulter_api_Member_boulter_api_Member_sO ([p0, p1] : List (List S_api_Member))).bind fun x1 => (M_delta_Last_sO x1).bind fun x2 => some x2
theorem ok_delta_Update {g : Gd} {h : AHeap} {F : List Ck} {p0 : List S_api_Member} {p1 : List S_api_Member} {q0 : List S_api_Member} {av : List AVal} (hm : M_delta_Update p0 p1 = some q0) (hc : canL (cfg.still 22) av = [vs e_S_api_Member p0, vs e_S_api_Member p1]) (A : HH g h [] F) : ∃ v h', Runs cfg g h 22 av v h' ∧ v = vs e_S_api_Member q0 ∧ HH g h' [] F := by
  refine runsQ7 (n := 10) (rs := [.tmp 4]) (by kernel_rfl) hc (by kernel_rfl) ?_
  clear hc
  unfold M_delta_Update at hm
  refine start (n := 10) [(0, vs e_S_api_Member p0), (1, vs e_S_api_Member p1)] (by kernel_rfl) (by kernel_rfl) ?_
  intro fr H
  refine aw_seq (by kernel_rfl) ?_
  refine aw_reg (id := 0) (n := 1) [(0, [])] (by kernel_rfl) (by kernel_rfl) ?_
  refine at_seg [(0, [])] [(0, vs e_S_api_Member p0), (1, vs e_S_api_Member p1)] H (noU_all rfl) (fun fr => by kernel_rfl) ?_
  intro fr H
  refine at_nil ?_
  show AW cfg 22 g (right (bodyC cfg.P 22)) fr h _
  refine aw_seq (by kernel_rfl) ?_
  refine aw_reg (id := 1) (n := 6) [(0, []), (1, []), (2, []), (3, []), (4, []), (5, [])] (by kernel_rfl) (by kernel_rfl) ?_
  refine at_seg [(0, []), (1, [])] [(5, vs e_S_api_Member p0), (6, vs e_S_api_Member p1)] H (noU_all rfl) (fun fr => by kernel_rfl) ?_
  intro fr H
  obtain ⟨h1, e1⟩ : ∃ x, x = h.push (.cells (some 35) 2 [vs e_S_api_Member p0, vs e_S_api_Member p1]) := ⟨_, rfl⟩
  replace A := (A.pushL _ _).to e1
  refine at_step (v := rowV (some h.size) (([p0, p1] : List (List S_api_Member)).length)) (h1 := h1) [(7, rowV (some h.size) (([p0, p1] : List (List S_api_Member)).length))] H (fun fr => by kernel_rfl) (fun fr => .of (s_n' (by kernel_rfl) (congrArg some e1.symm))) ?_
  intro fr t H
  replace A : HH g h1 [.lst (some h.size) 35 (lst (eL e_S_api_Member) ([p0, p1] : List (List S_api_Member)))] F := A
  have A1 := A.cut 1
  obtain ⟨x1, hx, hm⟩ := bind_some hm
  obtain ⟨v1, h2, hr, rqw1, rfl, A1⟩ := ok_slices_Concat_boulter_api_Member_boulter_api_Member_sO (av := [rowV (some h.size) (([p0, p1] : List (List S_api_Member)).length)]) hx (by kernel_rfl) A1
  replace A : HH g h2 [.lst rqw1 63 (lst e_S_api_Member x1), .lst (some h.size) 35 (lst (eL e_S_api_Member) ([p0, p1] : List (List S_api_Member)))] F := A.glue0 (n := 1) A1
  refine at_step (v := rowV rqw1 x1.length) (h1 := h2) [(8, rowV rqw1 x1.length)] H (fun fr => by kernel_rfl) (fun fr => Steps.call (by kernel_rfl) hr) ?_
  intro fr t H
  have A1 := A.cut 1
  obtain ⟨x2, hx, hm⟩ := bind_some hm
  obtain ⟨v1, h3, hr, rqw2, rfl, A1⟩ := ok_delta_Last_sO (av := [rowV rqw1 x1.length]) hx (by kernel_rfl) A1
  replace A : HH g h3 [.lst rqw2 63 (lst e_S_api_Member x2), .lst rqw1 63 (lst e_S_api_Member x1), .lst (some h.size) 35 (lst (eL e_S_api_Member) ([p0, p1] : List (List S_api_Member)))] F := A.glue0 (n := 1) A1
  refine at_step (v := rowV rqw2 x2.length) (h1 := h3) [(9, rowV rqw2 x2.length)] H (fun fr => by kernel_rfl) (fun fr => Steps.call (by kernel_rfl) hr) ?_
  intro fr t H
  refine at_seg [(5, [])] [(4, rowV rqw2 x2.length)] H (noU_all rfl) (fun fr => by kernel_rfl) ?_
  intro fr H
  refine at_nil ?_
  show AW cfg 22 g (right (right (bodyC cfg.P 22))) fr h3 _
  refine aw_ret (by kernel_rfl) ?_
  have e1 := Option.some.inj hm
  subst e1
  refine ⟨.inl rfl, rowV rqw2 x2.length, resH H (fun fr => by kernel_rfl), ?_⟩
  obtain ⟨h4, hz0, A1⟩ := (A.front 0 rfl).frz (n := x2.length) (z := 14) (enc_S_api_Member.lenL _) (by decide)
  replace A : HH g h4 [.lst rqw1 63 (lst e_S_api_Member x1), .lst (some h.size) 35 (lst (eL e_S_api_Member) ([p0, p1] : List (List S_api_Member)))] F := A1
  refine ⟨vs e_S_api_Member x2, h4, by first | rfl | (simp only [fz3T, fz3A, fz3B, fz3R, fz2A, fz2R, fz2V, fz2I, fz2B, fz2S, fz2N, fzL0, fzL1, fz1I, fz1B, fz1S, fz1V, fz1N, Option.map_some, hz0] <;> rfl), ?_⟩
  replace A : HH g h4 [] F := (HH.dropF A 0)
  exact ⟨rfl, A⟩
end Go.Av.L
