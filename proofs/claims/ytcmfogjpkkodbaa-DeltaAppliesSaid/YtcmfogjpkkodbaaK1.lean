/-
  Models of functions, and that the abstract run tells them. Written by lift2.py.
-/
import Derived.Test.YtcmfogjpkkodbaaKCfg
import Derived.Test.YtcmfogjpkkodbaaK0
namespace Go.Av.L
open Go.Av Go.Lib
set_option maxRecDepth 10000
set_option linter.unusedVariables false
set_option linter.unusedSimpArgs false
/-! ### boulter/boulterref38.Apply -/
noncomputable def M_boulterref38_Apply_L0 (p1 : S_boulterref38_Diff) (x1 : List S_api_Member) (s : (List S_api_Member) × Int) : Option (((List S_api_Member) × Int) ⊕ (((List S_api_Member)))) :=
  match s with
  | (x3, x4) => iteB (decide (x4 < (x1.length : Int))) (((ixV x1 x4).bind fun x7 => (M_boulterref38_in p1.Removed x7.Name).bind fun x8 => (iteB (!x8) ((ixV x1 x4).bind fun x10 => (M_boulterref38_in p1.Changed x10.Name).bind fun x11 => some (!x11)) (some false) : Option (Bool)).bind fun x9 => iteB x9 ((ixV x1 x4).bind fun x12 => (M_boulterref38_insert_sOR x3 x12).bind fun x13 => some x13) (some x3) : Option (((List S_api_Member)))).bind fun x6 => some (.inl (x6, IntKind.i64.wrap (x4 + (1 : Int))))) (some (.inr x3))
noncomputable def M_boulterref38_Apply_L1 (p1 : S_boulterref38_Diff) (x2 : List S_api_Member) (s : (List S_api_Member) × Int) : Option (((List S_api_Member) × Int) ⊕ (((List S_api_Member)))) :=
  match s with
  | (x14, x15) => iteB (decide (x15 < (x2.length : Int))) (((ixV x2 x15).bind fun x18 => (M_boulterref38_in p1.Added x18.Name).bind fun x19 => (iteB x19 (some true) ((ixV x2 x15).bind fun x21 => (M_boulterref38_in p1.Changed x21.Name).bind fun x22 => some x22) : Option (Bool)).bind fun x20 => iteB x20 ((ixV x2 x15).bind fun x23 => (M_boulterref38_insert_sOR x14 x23).bind fun x24 => some x24) (some x14) : Option (((List S_api_Member)))).bind fun x17 => some (.inl (x17, IntKind.i64.wrap (x15 + (1 : Int))))) (some (.inr x14))
noncomputable def M_boulterref38_Apply (p0 : List S_api_Member) (p1 : S_boulterref38_Diff) (p2 : List S_api_Member) : Option ((List S_api_Member)) :=
 (M_boulterref38_Last p0).bind fun x1 => (M_boulterref38_Last p2).bind fun x2 => (loop (M_boulterref38_Apply_L0 p1 x1) (([] : List S_api_Member), (0 : Int))).bind fun x5 => (loop (M_boulterref38_Apply_L1 p1 x2) (x5, (0 : Int))).bind fun x16 => some x16
theorem ok_boulterref38_Apply {g : Gd} {h : AHeap} {F : List Ck} {p0 : List S_api_Member} {p1 : S_boulterref38_Diff} {p2 : List S_api_Member} {q0 : List S_api_Member} {av : List AVal} (hm : M_boulterref38_Apply p0 p1 p2 = some q0) (hc : canL (cfg.still 31) av = [vs e_S_api_Member p0, .agg [vs eS p1.Added, vs eS p1.Removed, vs eS p1.Changed], vs e_S_api_Member p2]) (A : HH g h [] F) : ∃ v h', Runs cfg g h 31 av v h' ∧ ∃ (rq0 : Option Nat), v = rowV rq0 q0.length ∧ HH g h' [.lst rq0 63 (lst e_S_api_Member q0)] F := by
  refine runsQ1 (n := 80) (rs := [.tmp 6]) (by kernel_rfl) hc (by kernel_rfl) ?_
  clear hc
  unfold M_boulterref38_Apply at hm
  refine start (n := 80) [(0, vs e_S_api_Member p0), (1, .agg [vs eS p1.Added, vs eS p1.Removed, vs eS p1.Changed]), (2, vs e_S_api_Member p2)] (by kernel_rfl) (by kernel_rfl) ?_
  intro fr H
  refine aw_seq (by kernel_rfl) ?_
  refine aw_reg (id := 0) (n := 2) [(0, []), (1, [])] (by kernel_rfl) (by kernel_rfl) ?_
  obtain ⟨h1, e1⟩ : ∃ x, x = h.push (.cells none 2 [vs eS p1.Added, vs eS p1.Removed, vs eS p1.Changed]) := ⟨_, rfl⟩
  replace A := (A.push _).to e1
  refine at_step (v := .ptr (some (h.size, 0))) (h1 := h1) [(0, vs e_S_api_Member p0), (2, vs e_S_api_Member p2), (4, .ptr (some (h.size, 0)))] H (fun fr => by kernel_rfl) (fun fr => .of (s_n' (by kernel_rfl) (congrArg some e1.symm))) ?_
  intro fr t H
  refine at_seg [(1, [])] [(0, vs e_S_api_Member p0), (2, vs e_S_api_Member p2), (4, .ptr (some (h.size, 0)))] H (noU_all rfl) (fun fr => by kernel_rfl) ?_
  intro fr H
  refine at_nil ?_
  show AW cfg 31 g (right (bodyC cfg.P 31)) fr h1 _
  refine aw_seq (by kernel_rfl) ?_
  refine aw_reg (id := 1) (n := 2) [(0, []), (1, [])] (by kernel_rfl) (by kernel_rfl) ?_
  obtain ⟨h2, e2⟩ : ∃ x, x = h1.push (.cells (some 63) 2 []) := ⟨_, rfl⟩
  replace A := (A.pushL _ _).to e2
  refine at_step (v := rowV (some h1.size) (([] : List S_api_Member).length)) (h1 := h2) [(0, vs e_S_api_Member p0), (2, vs e_S_api_Member p2), (4, .ptr (some (h.size, 0))), (12, rowV (some h1.size) (([] : List S_api_Member).length))] H (fun fr => by kernel_rfl) (fun fr => .of (s_n' (by kernel_rfl) (congrArg some e2.symm))) ?_
  intro fr t H
  refine at_seg [(1, [])] [(0, vs e_S_api_Member p0), (2, vs e_S_api_Member p2), (4, .ptr (some (h.size, 0))), (7, rowV (some h1.size) (([] : List S_api_Member).length))] H (noU_all rfl) (fun fr => by kernel_rfl) ?_
  intro fr H
  refine at_nil ?_
  show AW cfg 31 g (right (right (bodyC cfg.P 31))) fr h2 _
  refine aw_seq (by kernel_rfl) ?_
  refine aw_reg (id := 2) (n := 6) [(0, []), (1, []), (2, []), (3, []), (4, []), (5, [])] (by kernel_rfl) (by kernel_rfl) ?_
  refine at_seg [(0, [])] [(2, vs e_S_api_Member p2), (4, .ptr (some (h.size, 0))), (7, rowV (some h1.size) (([] : List S_api_Member).length)), (13, vs e_S_api_Member p0)] H (noU_all rfl) (fun fr => by kernel_rfl) ?_
  intro fr H
  have A1 := A.cut 0
  obtain ⟨x1, hx, hm⟩ := bind_some hm
  obtain ⟨v1, h3, hr, rqw1, rfl, A1⟩ := ok_boulterref38_Last (av := [vs e_S_api_Member p0]) hx (by kernel_rfl) A1
  replace A : HH g h3 [.lst rqw1 63 (lst e_S_api_Member x1), .lst (some h1.size) 63 ([]), .obj h.size (.cells none 2 [vs eS p1.Added, vs eS p1.Removed, vs eS p1.Changed])] F := A.glue0 (n := 0) A1
  refine at_step (v := rowV rqw1 x1.length) (h1 := h3) [(2, vs e_S_api_Member p2), (4, .ptr (some (h.size, 0))), (7, rowV (some h1.size) (([] : List S_api_Member).length)), (14, rowV rqw1 x1.length)] H (fun fr => by kernel_rfl) (fun fr => Steps.call (by kernel_rfl) hr) ?_
  intro fr t H
  refine at_seg [(2, [])] [(4, .ptr (some (h.size, 0))), (7, rowV (some h1.size) (([] : List S_api_Member).length)), (14, rowV rqw1 x1.length), (15, vs e_S_api_Member p2)] H (noU_all rfl) (fun fr => by kernel_rfl) ?_
  intro fr H
  have A1 := A.cut 0
  obtain ⟨x2, hx, hm⟩ := bind_some hm
  obtain ⟨v1, h4, hr, rqw2, rfl, A1⟩ := ok_boulterref38_Last (av := [vs e_S_api_Member p2]) hx (by kernel_rfl) A1
  replace A : HH g h4 [.lst rqw2 63 (lst e_S_api_Member x2), .lst rqw1 63 (lst e_S_api_Member x1), .lst (some h1.size) 63 ([]), .obj h.size (.cells none 2 [vs eS p1.Added, vs eS p1.Removed, vs eS p1.Changed])] F := A.glue0 (n := 0) A1
  refine at_step (v := rowV rqw2 x2.length) (h1 := h4) [(4, .ptr (some (h.size, 0))), (7, rowV (some h1.size) (([] : List S_api_Member).length)), (14, rowV rqw1 x1.length), (16, rowV rqw2 x2.length)] H (fun fr => by kernel_rfl) (fun fr => Steps.call (by kernel_rfl) hr) ?_
  intro fr t H
  refine at_seg [(4, []), (5, [])] [(4, .ptr (some (h.size, 0))), (7, rowV (some h1.size) (([] : List S_api_Member).length)), (8, rowV rqw1 x1.length), (9, rowV rqw2 x2.length)] H (noU_all rfl) (fun fr => by kernel_rfl) ?_
  intro fr H
  refine at_nil ?_
  show AW cfg 31 g (right (right (right (bodyC cfg.P 31)))) fr h4 _
  refine aw_seq (by kernel_rfl) ?_
  refine aw_seq (by kernel_rfl) ?_
  refine aw_reg (id := 3) (n := 1) [(0, [])] (by kernel_rfl) (by kernel_rfl) ?_
  refine at_seg [(0, [])] [(4, .ptr (some (h.size, 0))), (7, rowV (some h1.size) (([] : List S_api_Member).length)), (8, rowV rqw1 x1.length), (9, rowV rqw2 x2.length), (10, .int .i64 (0 : Int))] H (noU_all rfl) (fun fr => by kernel_rfl) ?_
  intro fr H
  refine at_nil ?_
  show AW cfg 31 g (right (left (right (right (right (bodyC cfg.P 31)))))) fr h4 _
  refine aw_block (id := 0) (by kernel_rfl) ?_
  replace A : HH g h4 [.lst rqw2 63 (lst e_S_api_Member x2), .lst rqw1 63 (lst e_S_api_Member x1), .lst (some h1.size) 63 (lst e_S_api_Member ([] : List S_api_Member)), .obj h.size (.cells none 2 [vs eS p1.Added, vs eS p1.Removed, vs eS p1.Changed])] F := A
  replace A : HH g h4 [.lst (some h1.size) 63 (lst e_S_api_Member ([] : List S_api_Member)), .lst rqw2 63 (lst e_S_api_Member x2), .lst rqw1 63 (lst e_S_api_Member x1), .obj h.size (.cells none 2 [vs eS p1.Added, vs eS p1.Removed, vs eS p1.Changed])] F := ((((A.front 3 rfl).front 2 rfl).front 2 rfl).front 3 rfl)
  obtain ⟨o1, ho, hm⟩ := bind_some hm
  refine aw_mono (Q' := fun e fr' h' => (∃ (x5 : List S_api_Member), e = .exit 0 ∧ x5 = o1 ∧ ∃ (r2 : Option Nat), Has fr' 80 [(4, .ptr (some (h.size, 0))), (7, rowV r2 x5.length), (9, rowV rqw2 x2.length)] ∧ HH g h' [.lst r2 63 (lst e_S_api_Member x5), .lst rqw2 63 (lst e_S_api_Member x2), .obj h.size (.cells none 2 [vs eS p1.Added, vs eS p1.Removed, vs eS p1.Changed])] F) ∨ False) ?_ ?_
  · refine aw_loop (by kernel_rfl) (fun (s : (List S_api_Member) × Int) fr' h' => ∃ (x3 : List S_api_Member) (x4 : Int), (x3, x4) = s ∧ ∃ (r1 : Option Nat), Has fr' 80 [(4, .ptr (some (h.size, 0))), (7, rowV r1 x3.length), (8, rowV rqw1 x1.length), (9, rowV rqw2 x2.length), (10, .int .i64 x4)] ∧ HH g h' [.lst r1 63 (lst e_S_api_Member x3), .lst rqw2 63 (lst e_S_api_Member x2), .lst rqw1 63 (lst e_S_api_Member x1), .obj h.size (.cells none 2 [vs eS p1.Added, vs eS p1.Removed, vs eS p1.Changed])] F) ho ⟨([] : List S_api_Member), (0 : Int), rfl, some h1.size, H.less _ (fun fr => by kernel_rfl), A⟩ ?_
    clear ho hm H A
    intro s q fr h5 hI hm
    obtain ⟨x3, x4, rfl, r1, H, A⟩ := hI
    unfold M_boulterref38_Apply_L0 at hm
    refine aw_seq (by kernel_rfl) ?_
    refine aw_seq (by kernel_rfl) ?_
    refine aw_reg (id := 4) (n := 4) [(0, []), (1, []), (2, []), (3, [])] (by kernel_rfl) (by kernel_rfl) ?_
    refine at_seg [(0, []), (1, []), (2, []), (3, [])] [(4, .ptr (some (h.size, 0))), (7, rowV r1 x3.length), (8, rowV rqw1 x1.length), (9, rowV rqw2 x2.length), (10, .int .i64 x4), (20, .bool (decide (x4 < (x1.length : Int))))] H (noU_all rfl) (fun fr => by kernel_rfl) ?_
    intro fr H
    refine at_nil ?_
    show AW cfg 31 g (right (left (left (left (right (left (right (right (right (bodyC cfg.P 31)))))))))) fr h5 _
    rcases iteB_some hm with ⟨hb, hm⟩ | ⟨hb, hm⟩
    · replace H := H.know 20 hb (by kernel_rfl)
      refine aw_true (x := .tmp 20) (by kernel_rfl) H (fun fr => by kernel_rfl) ?_
      refine aw_skip (by kernel_rfl) ?_
      show AW cfg 31 g (right (left (left (right (left (right (right (right (bodyC cfg.P 31))))))))) fr h5 _
      refine aw_seq (by kernel_rfl) ?_
      obtain ⟨o2, ho, hm⟩ := bind_some hm
      refine aw_mono (Q' := fun e fr' h' => (∃ (x6 : List S_api_Member), e = .normal ∧ x6 = o2 ∧ ∃ (r3 : Option Nat), Has fr' 80 [(4, .ptr (some (h.size, 0))), (7, rowV r3 x6.length), (8, rowV rqw1 x1.length), (9, rowV rqw2 x2.length), (10, .int .i64 x4)] ∧ HH g h' [.lst r3 63 (lst e_S_api_Member x6), .lst rqw2 63 (lst e_S_api_Member x2), .lst rqw1 63 (lst e_S_api_Member x1), .obj h.size (.cells none 2 [vs eS p1.Added, vs eS p1.Removed, vs eS p1.Changed])] F) ∨ False) ?_ ?_
      · replace hm := ho
        clear ho
        refine aw_block (id := 1) (by kernel_rfl) ?_
        refine aw_seq (by kernel_rfl) ?_
        refine aw_draw (id := 6) (n := 20) (by kernel_rfl) [(0, []), (1, []), (2, []), (3, []), (4, []), (5, []), (6, []), (7, []), (8, []), (9, []), (10, []), (11, []), (12, []), (13, []), (14, []), (15, []), (16, []), (17, []), (18, []), (19, [])] (by kernel_rfl) ?_
        refine at_seg [(0, [])] [(4, .ptr (some (h.size, 0))), (7, rowV r1 x3.length), (8, rowV rqw1 x1.length), (9, rowV rqw2 x2.length), (10, .int .i64 x4), (23, .ptr (some (h.size, 1)))] H (noU_all rfl) (fun fr => by kernel_rfl) ?_
        intro fr H
        refine at_step (v := vs eS p1.Removed) (h1 := h5) [(4, .ptr (some (h.size, 0))), (7, rowV r1 x3.length), (8, rowV rqw1 x1.length), (9, rowV rqw2 x2.length), (10, .int .i64 x4), (24, vs eS p1.Removed)] H (fun fr => by kernel_rfl) (fun fr => .of (s_ld (by kernel_rfl) (A.ld1 3 rfl (o := 1) rfl))) ?_
        intro fr t H
        refine at_seg [(2, []), (3, [])] [(4, .ptr (some (h.size, 0))), (7, rowV r1 x3.length), (8, rowV rqw1 x1.length), (9, rowV rqw2 x2.length), (10, .int .i64 x4), (24, vs eS p1.Removed), (25, rowV rqw1 x1.length), (26, .int .i64 x4)] H (noU_all rfl) (fun fr => by kernel_rfl) ?_
        intro fr H
        obtain ⟨x7, hx, hm⟩ := bind_some hm
        obtain ⟨i1, er1, _, hx, hq1⟩ := HH.ixO enc_S_api_Member (by decide) A 2 (xs := x1) rfl hx
        refine at_step (v := .ptr (some (i1, x4.toNat * 14))) (h1 := h5) [(4, .ptr (some (h.size, 0))), (7, rowV r1 x3.length), (8, rowV rqw1 x1.length), (9, rowV rqw2 x2.length), (10, .int .i64 x4), (24, vs eS p1.Removed), (27, .ptr (some (i1, x4.toNat * 14)))] H (fun fr => by kernel_rfl) (fun fr => .of (s_ixL (s := rowS rqw1 x1.length) (by kernel_rfl) hx)) ?_
        intro fr t H
        refine at_seg [(5, [])] [(4, .ptr (some (h.size, 0))), (7, rowV r1 x3.length), (8, rowV rqw1 x1.length), (9, rowV rqw2 x2.length), (10, .int .i64 x4), (24, vs eS p1.Removed), (28, .ptr (some (i1, x4.toNat * 14)))] H (noU_all rfl) (fun fr => by kernel_rfl) ?_
        intro fr H
        refine at_step (v := .str x7.Name) (h1 := h5) [(4, .ptr (some (h.size, 0))), (7, rowV r1 x3.length), (8, rowV rqw1 x1.length), (9, rowV rqw2 x2.length), (10, .int .i64 x4), (24, vs eS p1.Removed), (29, .str x7.Name)] H (fun fr => by kernel_rfl) (fun fr => .of (s_ld (by kernel_rfl) (row_ld1 enc_S_api_Member (HH.row A 2 rfl er1) hq1 (o := 0) rfl))) ?_
        intro fr t H
        have A1 := A.cut 0
        obtain ⟨x8, hx, hm⟩ := bind_some hm
        obtain ⟨v1, h6, hr, rfl, A1⟩ := ok_boulterref38_in (av := [vs eS p1.Removed, .str x7.Name]) hx (by kernel_rfl) A1
        replace A : HH g h6 [.lst r1 63 (lst e_S_api_Member x3), .lst rqw2 63 (lst e_S_api_Member x2), .lst rqw1 63 (lst e_S_api_Member x1), .obj h.size (.cells none 2 [vs eS p1.Added, vs eS p1.Removed, vs eS p1.Changed])] F := A.glue0 (n := 0) A1
        refine at_step (v := .bool x8) (h1 := h6) [(4, .ptr (some (h.size, 0))), (7, rowV r1 x3.length), (8, rowV rqw1 x1.length), (9, rowV rqw2 x2.length), (10, .int .i64 x4), (30, .bool x8)] H (fun fr => by kernel_rfl) (fun fr => Steps.call (by kernel_rfl) hr) ?_
        intro fr t H
        refine at_seg [(8, []), (9, [])] [(4, .ptr (some (h.size, 0))), (7, rowV r1 x3.length), (8, rowV rqw1 x1.length), (9, rowV rqw2 x2.length), (10, .int .i64 x4), (32, .bool (!x8))] H (noU_all rfl) (fun fr => by kernel_rfl) ?_
        intro fr H
        obtain ⟨x9, ho, hm⟩ := bind_some hm
        refine at_cut [(10, []), (11, []), (12, []), (13, []), (14, []), (15, []), (16, []), (17, []), (18, []), (19, [])] (fun fr' h' => Has fr' 80 [(4, .ptr (some (h.size, 0))), (7, rowV r1 x3.length), (8, rowV rqw1 x1.length), (9, rowV rqw2 x2.length), (10, .int .i64 x4), (42, .bool x9)] ∧ HH g h' [.lst r1 63 (lst e_S_api_Member x3), .lst rqw2 63 (lst e_S_api_Member x2), .lst rqw1 63 (lst e_S_api_Member x1), .obj h.size (.cells none 2 [vs eS p1.Added, vs eS p1.Removed, vs eS p1.Changed])] F) ?_ ?_
        · rcases iteB_some ho with ⟨hb, hm⟩ | ⟨hb, hm⟩
          · replace H := H.know 32 hb (by kernel_rfl)
            refine at_seg [(10, [])] [(4, .ptr (some (h.size, 0))), (7, rowV r1 x3.length), (8, rowV rqw1 x1.length), (9, rowV rqw2 x2.length), (10, .int .i64 x4), (32, .bool true), (33, .ptr (some (h.size, 2)))] H (noU_all rfl) (fun fr => by kernel_rfl) ?_
            intro fr H
            refine at_step (v := vs eS p1.Changed) (h1 := h6) [(4, .ptr (some (h.size, 0))), (7, rowV r1 x3.length), (8, rowV rqw1 x1.length), (9, rowV rqw2 x2.length), (10, .int .i64 x4), (32, .bool true), (34, vs eS p1.Changed)] H (fun fr => by kernel_rfl) (fun fr => .of (s_ld (by kernel_rfl) (A.ld1 3 rfl (o := 2) rfl))) ?_
            intro fr t H
            refine at_seg [(12, []), (13, [])] [(4, .ptr (some (h.size, 0))), (7, rowV r1 x3.length), (8, rowV rqw1 x1.length), (9, rowV rqw2 x2.length), (10, .int .i64 x4), (32, .bool true), (34, vs eS p1.Changed), (35, rowV rqw1 x1.length), (36, .int .i64 x4)] H (noU_all rfl) (fun fr => by kernel_rfl) ?_
            intro fr H
            obtain ⟨x10, hx, hm⟩ := bind_some hm
            obtain ⟨i2, er2, _, hx, hq2⟩ := HH.ixO enc_S_api_Member (by decide) A 2 (xs := x1) rfl hx
            refine at_step (v := .ptr (some (i2, x4.toNat * 14))) (h1 := h6) [(4, .ptr (some (h.size, 0))), (7, rowV r1 x3.length), (8, rowV rqw1 x1.length), (9, rowV rqw2 x2.length), (10, .int .i64 x4), (32, .bool true), (34, vs eS p1.Changed), (37, .ptr (some (i2, x4.toNat * 14)))] H (fun fr => by kernel_rfl) (fun fr => .of (s_ixL (s := rowS rqw1 x1.length) (by kernel_rfl) hx)) ?_
            intro fr t H
            refine at_seg [(15, [])] [(4, .ptr (some (h.size, 0))), (7, rowV r1 x3.length), (8, rowV rqw1 x1.length), (9, rowV rqw2 x2.length), (10, .int .i64 x4), (32, .bool true), (34, vs eS p1.Changed), (38, .ptr (some (i2, x4.toNat * 14)))] H (noU_all rfl) (fun fr => by kernel_rfl) ?_
            intro fr H
            refine at_step (v := .str x10.Name) (h1 := h6) [(4, .ptr (some (h.size, 0))), (7, rowV r1 x3.length), (8, rowV rqw1 x1.length), (9, rowV rqw2 x2.length), (10, .int .i64 x4), (32, .bool true), (34, vs eS p1.Changed), (39, .str x10.Name)] H (fun fr => by kernel_rfl) (fun fr => .of (s_ld (by kernel_rfl) (row_ld1 enc_S_api_Member (HH.row A 2 rfl er2) hq2 (o := 0) rfl))) ?_
            intro fr t H
            have A1 := A.cut 0
            obtain ⟨x11, hx, hm⟩ := bind_some hm
            obtain ⟨v1, h8, hr, rfl, A1⟩ := ok_boulterref38_in (av := [vs eS p1.Changed, .str x10.Name]) hx (by kernel_rfl) A1
            replace A : HH g h8 [.lst r1 63 (lst e_S_api_Member x3), .lst rqw2 63 (lst e_S_api_Member x2), .lst rqw1 63 (lst e_S_api_Member x1), .obj h.size (.cells none 2 [vs eS p1.Added, vs eS p1.Removed, vs eS p1.Changed])] F := A.glue0 (n := 0) A1
            refine at_step (v := .bool x11) (h1 := h8) [(4, .ptr (some (h.size, 0))), (7, rowV r1 x3.length), (8, rowV rqw1 x1.length), (9, rowV rqw2 x2.length), (10, .int .i64 x4), (32, .bool true), (40, .bool x11)] H (fun fr => by kernel_rfl) (fun fr => Steps.call (by kernel_rfl) hr) ?_
            intro fr t H
            refine at_seg [(18, []), (19, [])] [(4, .ptr (some (h.size, 0))), (7, rowV r1 x3.length), (8, rowV rqw1 x1.length), (9, rowV rqw2 x2.length), (10, .int .i64 x4), (42, .bool (!x11))] H (noU_all rfl) (fun fr => by kernel_rfl) ?_
            intro fr H
            have e1 := Option.some.inj hm
            subst e1
            exact at_nil ⟨H.less _ (fun fr => by kernel_rfl), A⟩
          · replace H := H.know 32 hb (by kernel_rfl)
            refine at_seg [(10, []), (11, []), (12, []), (13, []), (14, []), (15, []), (16, []), (17, []), (18, []), (19, [])] [(4, .ptr (some (h.size, 0))), (7, rowV r1 x3.length), (8, rowV rqw1 x1.length), (9, rowV rqw2 x2.length), (10, .int .i64 x4), (42, .bool false)] H (noU_all rfl) (fun fr => by kernel_rfl) ?_
            intro fr H
            have e1 := Option.some.inj hm
            subst e1
            exact at_nil ⟨H.less _ (fun fr => by kernel_rfl), A⟩
        · clear A
          intro t fr h7 hK
          obtain ⟨H, A⟩ := hK
          refine at_nil ?_
          show AW cfg 31 g (right (left (left (right (left (left (right (left (right (right (right (bodyC cfg.P 31)))))))))))) fr h7 _
          rcases iteB_some hm with ⟨hb, hm⟩ | ⟨hb, hm⟩
          · replace H := H.know 42 hb (by kernel_rfl)
            refine aw_true (x := .tmp 42) (by kernel_rfl) H (fun fr => by kernel_rfl) ?_
            refine aw_reg (id := 7) (n := 7) [(0, []), (1, []), (2, []), (3, []), (4, []), (5, []), (6, [])] (by kernel_rfl) (by kernel_rfl) ?_
            refine at_seg [(0, []), (1, []), (2, [])] [(4, .ptr (some (h.size, 0))), (8, rowV rqw1 x1.length), (9, rowV rqw2 x2.length), (10, .int .i64 x4), (43, rowV r1 x3.length), (44, rowV rqw1 x1.length), (45, .int .i64 x4)] H (noU_all rfl) (fun fr => by kernel_rfl) ?_
            intro fr H
            obtain ⟨x12, hx, hm⟩ := bind_some hm
            obtain ⟨i3, er3, _, hx, hq3⟩ := HH.ixO enc_S_api_Member (by decide) A 2 (xs := x1) rfl hx
            refine at_step (v := .ptr (some (i3, x4.toNat * 14))) (h1 := h7) [(4, .ptr (some (h.size, 0))), (8, rowV rqw1 x1.length), (9, rowV rqw2 x2.length), (10, .int .i64 x4), (43, rowV r1 x3.length), (46, .ptr (some (i3, x4.toNat * 14)))] H (fun fr => by kernel_rfl) (fun fr => .of (s_ixL (s := rowS rqw1 x1.length) (by kernel_rfl) hx)) ?_
            intro fr t H
            refine at_step (v := .agg (e_S_api_Member x12)) (h1 := h7) [(4, .ptr (some (h.size, 0))), (8, rowV rqw1 x1.length), (9, rowV rqw2 x2.length), (10, .int .i64 x4), (43, rowV r1 x3.length), (47, .agg (e_S_api_Member x12))] H (fun fr => by kernel_rfl) (fun fr => .of (s_ldA (by kernel_rfl) (row_ldA enc_S_api_Member (HH.row A 2 rfl er3) hq3 0 14 (Nat.le_of_ble_eq_true rfl)))) ?_
            intro fr t H
            have A1 := A.cut 1
            obtain ⟨x13, hx, hm⟩ := bind_some hm
            obtain ⟨v1, h9, hr, rqw5, rfl, A1⟩ := ok_boulterref38_insert_sOR (av := [rowV r1 x3.length, .agg (e_S_api_Member x12)]) hx (by kernel_rfl) A1
            replace A : HH g h9 [.lst rqw5 63 (lst e_S_api_Member x13), .lst r1 63 (lst e_S_api_Member x3), .lst rqw2 63 (lst e_S_api_Member x2), .lst rqw1 63 (lst e_S_api_Member x1), .obj h.size (.cells none 2 [vs eS p1.Added, vs eS p1.Removed, vs eS p1.Changed])] F := A.glue0 (n := 1) A1
            refine at_step (v := rowV rqw5 x13.length) (h1 := h9) [(4, .ptr (some (h.size, 0))), (8, rowV rqw1 x1.length), (9, rowV rqw2 x2.length), (10, .int .i64 x4), (48, rowV rqw5 x13.length)] H (fun fr => by kernel_rfl) (fun fr => Steps.call (by kernel_rfl) hr) ?_
            intro fr t H
            refine at_seg [(6, [])] [(4, .ptr (some (h.size, 0))), (7, rowV rqw5 x13.length), (8, rowV rqw1 x1.length), (9, rowV rqw2 x2.length), (10, .int .i64 x4)] H (noU_all rfl) (fun fr => by kernel_rfl) ?_
            intro fr H
            refine at_nil ?_
            replace A : HH g h9 [.lst rqw5 63 (lst e_S_api_Member x13), .lst rqw2 63 (lst e_S_api_Member x2), .lst rqw1 63 (lst e_S_api_Member x1), .obj h.size (.cells none 2 [vs eS p1.Added, vs eS p1.Removed, vs eS p1.Changed])] F := (HH.dropF ((((A.front 4 rfl).front 4 rfl).front 4 rfl).front 3 rfl) 4)
            exact Or.inl ⟨x13, rfl, Option.some.inj hm, rqw5, H.less _ (fun fr => by kernel_rfl), A⟩
          · replace H := H.know 42 hb (by kernel_rfl)
            refine aw_false (x := .tmp 42) (by kernel_rfl) H (fun fr => by kernel_rfl) ?_
            refine aw_skip (by kernel_rfl) ?_
            exact Or.inl ⟨x3, rfl, Option.some.inj hm, r1, H.less _ (fun fr => by kernel_rfl), A⟩
      · clear ho
        clear A
        intro e fr h10 hQ
        rcases hQ with ⟨x6, rfl, rfl, r3, H, A⟩ | hF
        · skip
          show AW cfg 31 g (right (right (left (left (right (left (right (right (right (bodyC cfg.P 31)))))))))) fr h10 _
          refine aw_reg (id := 5) (n := 3) [(0, []), (1, []), (2, [])] (by kernel_rfl) (by kernel_rfl) ?_
          refine at_seg [(0, []), (1, []), (2, [])] [(4, .ptr (some (h.size, 0))), (7, rowV r3 x6.length), (8, rowV rqw1 x1.length), (9, rowV rqw2 x2.length), (10, .int .i64 (IntKind.i64.wrap (x4 + (1 : Int))))] H (noU_all rfl) (fun fr => by kernel_rfl) ?_
          intro fr H
          refine at_nil ?_
          exact Exists.intro (x6, IntKind.i64.wrap (x4 + (1 : Int))) (And.intro (Option.some.inj hm).symm ⟨x6, IntKind.i64.wrap (x4 + (1 : Int)), rfl, r3, H.less _ (fun fr => by kernel_rfl), A⟩)
        · exact hF.elim
    · replace H := H.know 20 hb (by kernel_rfl)
      refine aw_false (x := .tmp 20) (by kernel_rfl) H (fun fr => by kernel_rfl) ?_
      refine aw_exit (i := 0) (by kernel_rfl) ?_
      replace A : HH g h5 [.lst r1 63 (lst e_S_api_Member x3), .lst rqw2 63 (lst e_S_api_Member x2), .obj h.size (.cells none 2 [vs eS p1.Added, vs eS p1.Removed, vs eS p1.Changed])] F := (HH.dropF (((A.front 3 rfl).front 2 rfl).front 2 rfl) 3)
      exact Exists.intro _ (And.intro (Option.some.inj hm).symm (fun e => Or.inl ⟨x3, rfl, e, r1, H.less _ (fun fr => by kernel_rfl), A⟩))
  · clear ho
    clear A
    intro e fr h11 hQ
    rcases hQ with ⟨x5, rfl, rfl, r2, H, A⟩ | hF
    · skip
      show AW cfg 31 g (right (right (right (right (bodyC cfg.P 31))))) fr h11 _
      refine aw_seq (by kernel_rfl) ?_
      refine aw_seq (by kernel_rfl) ?_
      refine aw_reg (id := 8) (n := 1) [(0, [])] (by kernel_rfl) (by kernel_rfl) ?_
      refine at_seg [(0, [])] [(4, .ptr (some (h.size, 0))), (7, rowV r2 x5.length), (9, rowV rqw2 x2.length), (11, .int .i64 (0 : Int))] H (noU_all rfl) (fun fr => by kernel_rfl) ?_
      intro fr H
      refine at_nil ?_
      show AW cfg 31 g (right (left (right (right (right (right (bodyC cfg.P 31))))))) fr h11 _
      refine aw_block (id := 2) (by kernel_rfl) ?_
      obtain ⟨o3, ho, hm⟩ := bind_some hm
      refine aw_mono (Q' := fun e fr' h' => (∃ (x16 : List S_api_Member), e = .exit 2 ∧ x16 = o3 ∧ ∃ (r5 : Option Nat), Has fr' 80 [(7, rowV r5 x16.length)] ∧ HH g h' [.lst r5 63 (lst e_S_api_Member x16), .obj h.size (.cells none 2 [vs eS p1.Added, vs eS p1.Removed, vs eS p1.Changed])] F) ∨ False) ?_ ?_
      · refine aw_loop (by kernel_rfl) (fun (s : (List S_api_Member) × Int) fr' h' => ∃ (x14 : List S_api_Member) (x15 : Int), (x14, x15) = s ∧ ∃ (r4 : Option Nat), Has fr' 80 [(4, .ptr (some (h.size, 0))), (7, rowV r4 x14.length), (9, rowV rqw2 x2.length), (11, .int .i64 x15)] ∧ HH g h' [.lst r4 63 (lst e_S_api_Member x14), .lst rqw2 63 (lst e_S_api_Member x2), .obj h.size (.cells none 2 [vs eS p1.Added, vs eS p1.Removed, vs eS p1.Changed])] F) ho ⟨x5, (0 : Int), rfl, r2, H.less _ (fun fr => by kernel_rfl), A⟩ ?_
        clear ho hm H A
        intro s q fr h12 hI hm
        obtain ⟨x14, x15, rfl, r4, H, A⟩ := hI
        unfold M_boulterref38_Apply_L1 at hm
        refine aw_seq (by kernel_rfl) ?_
        refine aw_seq (by kernel_rfl) ?_
        refine aw_reg (id := 9) (n := 4) [(0, []), (1, []), (2, []), (3, [])] (by kernel_rfl) (by kernel_rfl) ?_
        refine at_seg [(0, []), (1, []), (2, []), (3, [])] [(4, .ptr (some (h.size, 0))), (7, rowV r4 x14.length), (9, rowV rqw2 x2.length), (11, .int .i64 x15), (52, .bool (decide (x15 < (x2.length : Int))))] H (noU_all rfl) (fun fr => by kernel_rfl) ?_
        intro fr H
        refine at_nil ?_
        show AW cfg 31 g (right (left (left (left (right (left (right (right (right (right (bodyC cfg.P 31))))))))))) fr h12 _
        rcases iteB_some hm with ⟨hb, hm⟩ | ⟨hb, hm⟩
        · replace H := H.know 52 hb (by kernel_rfl)
          refine aw_true (x := .tmp 52) (by kernel_rfl) H (fun fr => by kernel_rfl) ?_
          refine aw_skip (by kernel_rfl) ?_
          show AW cfg 31 g (right (left (left (right (left (right (right (right (right (bodyC cfg.P 31)))))))))) fr h12 _
          refine aw_seq (by kernel_rfl) ?_
          obtain ⟨o4, ho, hm⟩ := bind_some hm
          refine aw_mono (Q' := fun e fr' h' => (∃ (x17 : List S_api_Member), e = .normal ∧ x17 = o4 ∧ ∃ (r6 : Option Nat), Has fr' 80 [(4, .ptr (some (h.size, 0))), (7, rowV r6 x17.length), (9, rowV rqw2 x2.length), (11, .int .i64 x15)] ∧ HH g h' [.lst r6 63 (lst e_S_api_Member x17), .lst rqw2 63 (lst e_S_api_Member x2), .obj h.size (.cells none 2 [vs eS p1.Added, vs eS p1.Removed, vs eS p1.Changed])] F) ∨ False) ?_ ?_
          · replace hm := ho
            clear ho
            refine aw_block (id := 3) (by kernel_rfl) ?_
            refine aw_seq (by kernel_rfl) ?_
            refine aw_draw (id := 11) (n := 18) (by kernel_rfl) [(0, []), (1, []), (2, []), (3, []), (4, []), (5, []), (6, []), (7, []), (8, []), (9, []), (10, []), (11, []), (12, []), (13, []), (14, []), (15, []), (16, []), (17, [])] (by kernel_rfl) ?_
            refine at_seg [(0, [])] [(4, .ptr (some (h.size, 0))), (7, rowV r4 x14.length), (9, rowV rqw2 x2.length), (11, .int .i64 x15), (55, .ptr (some (h.size, 0)))] H (noU_all rfl) (fun fr => by kernel_rfl) ?_
            intro fr H
            refine at_step (v := vs eS p1.Added) (h1 := h12) [(4, .ptr (some (h.size, 0))), (7, rowV r4 x14.length), (9, rowV rqw2 x2.length), (11, .int .i64 x15), (56, vs eS p1.Added)] H (fun fr => by kernel_rfl) (fun fr => .of (s_ld (by kernel_rfl) (A.ld1 2 rfl (o := 0) rfl))) ?_
            intro fr t H
            refine at_seg [(2, []), (3, [])] [(4, .ptr (some (h.size, 0))), (7, rowV r4 x14.length), (9, rowV rqw2 x2.length), (11, .int .i64 x15), (56, vs eS p1.Added), (57, rowV rqw2 x2.length), (58, .int .i64 x15)] H (noU_all rfl) (fun fr => by kernel_rfl) ?_
            intro fr H
            obtain ⟨x18, hx, hm⟩ := bind_some hm
            obtain ⟨i4, er4, _, hx, hq4⟩ := HH.ixO enc_S_api_Member (by decide) A 1 (xs := x2) rfl hx
            refine at_step (v := .ptr (some (i4, x15.toNat * 14))) (h1 := h12) [(4, .ptr (some (h.size, 0))), (7, rowV r4 x14.length), (9, rowV rqw2 x2.length), (11, .int .i64 x15), (56, vs eS p1.Added), (59, .ptr (some (i4, x15.toNat * 14)))] H (fun fr => by kernel_rfl) (fun fr => .of (s_ixL (s := rowS rqw2 x2.length) (by kernel_rfl) hx)) ?_
            intro fr t H
            refine at_seg [(5, [])] [(4, .ptr (some (h.size, 0))), (7, rowV r4 x14.length), (9, rowV rqw2 x2.length), (11, .int .i64 x15), (56, vs eS p1.Added), (60, .ptr (some (i4, x15.toNat * 14)))] H (noU_all rfl) (fun fr => by kernel_rfl) ?_
            intro fr H
            refine at_step (v := .str x18.Name) (h1 := h12) [(4, .ptr (some (h.size, 0))), (7, rowV r4 x14.length), (9, rowV rqw2 x2.length), (11, .int .i64 x15), (56, vs eS p1.Added), (61, .str x18.Name)] H (fun fr => by kernel_rfl) (fun fr => .of (s_ld (by kernel_rfl) (row_ld1 enc_S_api_Member (HH.row A 1 rfl er4) hq4 (o := 0) rfl))) ?_
            intro fr t H
            have A1 := A.cut 0
            obtain ⟨x19, hx, hm⟩ := bind_some hm
            obtain ⟨v1, h13, hr, rfl, A1⟩ := ok_boulterref38_in (av := [vs eS p1.Added, .str x18.Name]) hx (by kernel_rfl) A1
            replace A : HH g h13 [.lst r4 63 (lst e_S_api_Member x14), .lst rqw2 63 (lst e_S_api_Member x2), .obj h.size (.cells none 2 [vs eS p1.Added, vs eS p1.Removed, vs eS p1.Changed])] F := A.glue0 (n := 0) A1
            refine at_step (v := .bool x19) (h1 := h13) [(4, .ptr (some (h.size, 0))), (7, rowV r4 x14.length), (9, rowV rqw2 x2.length), (11, .int .i64 x15), (62, .bool x19)] H (fun fr => by kernel_rfl) (fun fr => Steps.call (by kernel_rfl) hr) ?_
            intro fr t H
            refine at_seg [(8, [])] [(4, .ptr (some (h.size, 0))), (7, rowV r4 x14.length), (9, rowV rqw2 x2.length), (11, .int .i64 x15), (63, .bool x19)] H (noU_all rfl) (fun fr => by kernel_rfl) ?_
            intro fr H
            obtain ⟨x20, ho, hm⟩ := bind_some hm
            refine at_cut [(9, []), (10, []), (11, []), (12, []), (13, []), (14, []), (15, []), (16, []), (17, [])] (fun fr' h' => Has fr' 80 [(4, .ptr (some (h.size, 0))), (7, rowV r4 x14.length), (9, rowV rqw2 x2.length), (11, .int .i64 x15), (72, .bool x20)] ∧ HH g h' [.lst r4 63 (lst e_S_api_Member x14), .lst rqw2 63 (lst e_S_api_Member x2), .obj h.size (.cells none 2 [vs eS p1.Added, vs eS p1.Removed, vs eS p1.Changed])] F) ?_ ?_
            · rcases iteB_some ho with ⟨hb, hm⟩ | ⟨hb, hm⟩
              · replace H := H.know 63 hb (by kernel_rfl)
                refine at_seg [(9, []), (10, []), (11, []), (12, []), (13, []), (14, []), (15, []), (16, []), (17, [])] [(4, .ptr (some (h.size, 0))), (7, rowV r4 x14.length), (9, rowV rqw2 x2.length), (11, .int .i64 x15), (72, .bool true)] H (noU_all rfl) (fun fr => by kernel_rfl) ?_
                intro fr H
                have e1 := Option.some.inj hm
                subst e1
                exact at_nil ⟨H.less _ (fun fr => by kernel_rfl), A⟩
              · replace H := H.know 63 hb (by kernel_rfl)
                refine at_seg [(9, [])] [(4, .ptr (some (h.size, 0))), (7, rowV r4 x14.length), (9, rowV rqw2 x2.length), (11, .int .i64 x15), (63, .bool false), (64, .ptr (some (h.size, 2)))] H (noU_all rfl) (fun fr => by kernel_rfl) ?_
                intro fr H
                refine at_step (v := vs eS p1.Changed) (h1 := h13) [(4, .ptr (some (h.size, 0))), (7, rowV r4 x14.length), (9, rowV rqw2 x2.length), (11, .int .i64 x15), (63, .bool false), (65, vs eS p1.Changed)] H (fun fr => by kernel_rfl) (fun fr => .of (s_ld (by kernel_rfl) (A.ld1 2 rfl (o := 2) rfl))) ?_
                intro fr t H
                refine at_seg [(11, []), (12, [])] [(4, .ptr (some (h.size, 0))), (7, rowV r4 x14.length), (9, rowV rqw2 x2.length), (11, .int .i64 x15), (63, .bool false), (65, vs eS p1.Changed), (66, rowV rqw2 x2.length), (67, .int .i64 x15)] H (noU_all rfl) (fun fr => by kernel_rfl) ?_
                intro fr H
                obtain ⟨x21, hx, hm⟩ := bind_some hm
                obtain ⟨i5, er5, _, hx, hq5⟩ := HH.ixO enc_S_api_Member (by decide) A 1 (xs := x2) rfl hx
                refine at_step (v := .ptr (some (i5, x15.toNat * 14))) (h1 := h13) [(4, .ptr (some (h.size, 0))), (7, rowV r4 x14.length), (9, rowV rqw2 x2.length), (11, .int .i64 x15), (63, .bool false), (65, vs eS p1.Changed), (68, .ptr (some (i5, x15.toNat * 14)))] H (fun fr => by kernel_rfl) (fun fr => .of (s_ixL (s := rowS rqw2 x2.length) (by kernel_rfl) hx)) ?_
                intro fr t H
                refine at_seg [(14, [])] [(4, .ptr (some (h.size, 0))), (7, rowV r4 x14.length), (9, rowV rqw2 x2.length), (11, .int .i64 x15), (63, .bool false), (65, vs eS p1.Changed), (69, .ptr (some (i5, x15.toNat * 14)))] H (noU_all rfl) (fun fr => by kernel_rfl) ?_
                intro fr H
                refine at_step (v := .str x21.Name) (h1 := h13) [(4, .ptr (some (h.size, 0))), (7, rowV r4 x14.length), (9, rowV rqw2 x2.length), (11, .int .i64 x15), (63, .bool false), (65, vs eS p1.Changed), (70, .str x21.Name)] H (fun fr => by kernel_rfl) (fun fr => .of (s_ld (by kernel_rfl) (row_ld1 enc_S_api_Member (HH.row A 1 rfl er5) hq5 (o := 0) rfl))) ?_
                intro fr t H
                have A1 := A.cut 0
                obtain ⟨x22, hx, hm⟩ := bind_some hm
                obtain ⟨v1, h15, hr, rfl, A1⟩ := ok_boulterref38_in (av := [vs eS p1.Changed, .str x21.Name]) hx (by kernel_rfl) A1
                replace A : HH g h15 [.lst r4 63 (lst e_S_api_Member x14), .lst rqw2 63 (lst e_S_api_Member x2), .obj h.size (.cells none 2 [vs eS p1.Added, vs eS p1.Removed, vs eS p1.Changed])] F := A.glue0 (n := 0) A1
                refine at_step (v := .bool x22) (h1 := h15) [(4, .ptr (some (h.size, 0))), (7, rowV r4 x14.length), (9, rowV rqw2 x2.length), (11, .int .i64 x15), (63, .bool false), (71, .bool x22)] H (fun fr => by kernel_rfl) (fun fr => Steps.call (by kernel_rfl) hr) ?_
                intro fr t H
                refine at_seg [(17, [])] [(4, .ptr (some (h.size, 0))), (7, rowV r4 x14.length), (9, rowV rqw2 x2.length), (11, .int .i64 x15), (72, .bool x22)] H (noU_all rfl) (fun fr => by kernel_rfl) ?_
                intro fr H
                have e1 := Option.some.inj hm
                subst e1
                exact at_nil ⟨H.less _ (fun fr => by kernel_rfl), A⟩
            · clear A
              intro t fr h14 hK
              obtain ⟨H, A⟩ := hK
              refine at_nil ?_
              show AW cfg 31 g (right (left (left (right (left (left (right (left (right (right (right (right (bodyC cfg.P 31))))))))))))) fr h14 _
              rcases iteB_some hm with ⟨hb, hm⟩ | ⟨hb, hm⟩
              · replace H := H.know 72 hb (by kernel_rfl)
                refine aw_true (x := .tmp 72) (by kernel_rfl) H (fun fr => by kernel_rfl) ?_
                refine aw_reg (id := 12) (n := 7) [(0, []), (1, []), (2, []), (3, []), (4, []), (5, []), (6, [])] (by kernel_rfl) (by kernel_rfl) ?_
                refine at_seg [(0, []), (1, []), (2, [])] [(4, .ptr (some (h.size, 0))), (9, rowV rqw2 x2.length), (11, .int .i64 x15), (73, rowV r4 x14.length), (74, rowV rqw2 x2.length), (75, .int .i64 x15)] H (noU_all rfl) (fun fr => by kernel_rfl) ?_
                intro fr H
                obtain ⟨x23, hx, hm⟩ := bind_some hm
                obtain ⟨i6, er6, _, hx, hq6⟩ := HH.ixO enc_S_api_Member (by decide) A 1 (xs := x2) rfl hx
                refine at_step (v := .ptr (some (i6, x15.toNat * 14))) (h1 := h14) [(4, .ptr (some (h.size, 0))), (9, rowV rqw2 x2.length), (11, .int .i64 x15), (73, rowV r4 x14.length), (76, .ptr (some (i6, x15.toNat * 14)))] H (fun fr => by kernel_rfl) (fun fr => .of (s_ixL (s := rowS rqw2 x2.length) (by kernel_rfl) hx)) ?_
                intro fr t H
                refine at_step (v := .agg (e_S_api_Member x23)) (h1 := h14) [(4, .ptr (some (h.size, 0))), (9, rowV rqw2 x2.length), (11, .int .i64 x15), (73, rowV r4 x14.length), (77, .agg (e_S_api_Member x23))] H (fun fr => by kernel_rfl) (fun fr => .of (s_ldA (by kernel_rfl) (row_ldA enc_S_api_Member (HH.row A 1 rfl er6) hq6 0 14 (Nat.le_of_ble_eq_true rfl)))) ?_
                intro fr t H
                have A1 := A.cut 1
                obtain ⟨x24, hx, hm⟩ := bind_some hm
                obtain ⟨v1, h16, hr, rqw8, rfl, A1⟩ := ok_boulterref38_insert_sOR (av := [rowV r4 x14.length, .agg (e_S_api_Member x23)]) hx (by kernel_rfl) A1
                replace A : HH g h16 [.lst rqw8 63 (lst e_S_api_Member x24), .lst r4 63 (lst e_S_api_Member x14), .lst rqw2 63 (lst e_S_api_Member x2), .obj h.size (.cells none 2 [vs eS p1.Added, vs eS p1.Removed, vs eS p1.Changed])] F := A.glue0 (n := 1) A1
                refine at_step (v := rowV rqw8 x24.length) (h1 := h16) [(4, .ptr (some (h.size, 0))), (9, rowV rqw2 x2.length), (11, .int .i64 x15), (78, rowV rqw8 x24.length)] H (fun fr => by kernel_rfl) (fun fr => Steps.call (by kernel_rfl) hr) ?_
                intro fr t H
                refine at_seg [(6, [])] [(4, .ptr (some (h.size, 0))), (7, rowV rqw8 x24.length), (9, rowV rqw2 x2.length), (11, .int .i64 x15)] H (noU_all rfl) (fun fr => by kernel_rfl) ?_
                intro fr H
                refine at_nil ?_
                replace A : HH g h16 [.lst rqw8 63 (lst e_S_api_Member x24), .lst rqw2 63 (lst e_S_api_Member x2), .obj h.size (.cells none 2 [vs eS p1.Added, vs eS p1.Removed, vs eS p1.Changed])] F := (HH.dropF (((A.front 3 rfl).front 3 rfl).front 2 rfl) 3)
                exact Or.inl ⟨x24, rfl, Option.some.inj hm, rqw8, H.less _ (fun fr => by kernel_rfl), A⟩
              · replace H := H.know 72 hb (by kernel_rfl)
                refine aw_false (x := .tmp 72) (by kernel_rfl) H (fun fr => by kernel_rfl) ?_
                refine aw_skip (by kernel_rfl) ?_
                exact Or.inl ⟨x14, rfl, Option.some.inj hm, r4, H.less _ (fun fr => by kernel_rfl), A⟩
          · clear ho
            clear A
            intro e fr h17 hQ
            rcases hQ with ⟨x17, rfl, rfl, r6, H, A⟩ | hF
            · skip
              show AW cfg 31 g (right (right (left (left (right (left (right (right (right (right (bodyC cfg.P 31))))))))))) fr h17 _
              refine aw_reg (id := 10) (n := 3) [(0, []), (1, []), (2, [])] (by kernel_rfl) (by kernel_rfl) ?_
              refine at_seg [(0, []), (1, []), (2, [])] [(4, .ptr (some (h.size, 0))), (7, rowV r6 x17.length), (9, rowV rqw2 x2.length), (11, .int .i64 (IntKind.i64.wrap (x15 + (1 : Int))))] H (noU_all rfl) (fun fr => by kernel_rfl) ?_
              intro fr H
              refine at_nil ?_
              exact Exists.intro (x17, IntKind.i64.wrap (x15 + (1 : Int))) (And.intro (Option.some.inj hm).symm ⟨x17, IntKind.i64.wrap (x15 + (1 : Int)), rfl, r6, H.less _ (fun fr => by kernel_rfl), A⟩)
            · exact hF.elim
        · replace H := H.know 52 hb (by kernel_rfl)
          refine aw_false (x := .tmp 52) (by kernel_rfl) H (fun fr => by kernel_rfl) ?_
          refine aw_exit (i := 2) (by kernel_rfl) ?_
          replace A : HH g h12 [.lst r4 63 (lst e_S_api_Member x14), .obj h.size (.cells none 2 [vs eS p1.Added, vs eS p1.Removed, vs eS p1.Changed])] F := (HH.dropF ((A.front 2 rfl).front 1 rfl) 2)
          exact Exists.intro _ (And.intro (Option.some.inj hm).symm (fun e => Or.inl ⟨x14, rfl, e, r4, H.less _ (fun fr => by kernel_rfl), A⟩))
      · clear ho
        clear A
        intro e fr h18 hQ
        rcases hQ with ⟨x16, rfl, rfl, r5, H, A⟩ | hF
        · skip
          show AW cfg 31 g (right (right (right (right (right (bodyC cfg.P 31)))))) fr h18 _
          refine aw_seq (by kernel_rfl) ?_
          refine aw_reg (id := 13) (n := 2) [(0, []), (1, [])] (by kernel_rfl) (by kernel_rfl) ?_
          refine at_seg [(0, []), (1, [])] [(6, rowV r5 x16.length)] H (noU_all rfl) (fun fr => by kernel_rfl) ?_
          intro fr H
          refine at_nil ?_
          show AW cfg 31 g (right (right (right (right (right (right (bodyC cfg.P 31))))))) fr h18 _
          refine aw_ret (by kernel_rfl) ?_
          have e1 := Option.some.inj hm
          subst e1
          refine ⟨.inl rfl, rowV r5 x16.length, resH H (fun fr => by kernel_rfl), ?_⟩
          replace A : HH g h18 [.lst r5 63 (lst e_S_api_Member x16)] F := (HH.dropF (A.front 0 rfl) 1)
          exact ⟨r5, rfl, A⟩
        · exact hF.elim
    · exact hF.elim
/-! ### boulter/delta.kept -/
noncomputable def M_delta_kept_L0 (p0 : List S_api_Member) (p1 : List ((List UInt8) × Int)) (s : (List S_api_Member) × Int) : Option (((List S_api_Member) × Int) ⊕ (((List S_api_Member)))) :=
  match s with
  | (x1, x2) => iteB (decide (x2 < (p0.length : Int))) (((ixV p0 x2).bind fun x5 => iteB (((mfind p1 x5.Name).isSome) && (((mfind p1 x5.Name).getD (0 : Int)) == x2)) (need (okN 32 x5.Extra.length) <| need (okN 168 (x1.length + ([x5] : List S_api_Member).length)) <| some (x1 ++ ([x5] : List S_api_Member))) (some x1) : Option (((List S_api_Member)))).bind fun x4 => some (.inl (x4, IntKind.i64.wrap (x2 + (1 : Int))))) (some (.inr x1))
noncomputable def M_delta_kept (p0 : List S_api_Member) (p1 : List ((List UInt8) × Int)) : Option ((List S_api_Member)) :=
 (loop (M_delta_kept_L0 p0 p1) (([] : List S_api_Member), (0 : Int))).bind fun x3 => some x3
theorem ok_delta_kept {g : Gd} {h : AHeap} {F : List Ck} {p0 : List S_api_Member} {p1 : List ((List UInt8) × Int)} {bp1 : Nat} {q0 : List S_api_Member} {av : List AVal} (hm : M_delta_kept p0 p1 = some q0) (hc : canL (cfg.still 45) av = [vs e_S_api_Member p0, .map (some bp1)]) (A : HH g h [.obj bp1 (.map 2 (encM (fun k : List UInt8 => .str k) (fun v : Int => .int .i64 v) p1))] F) : ∃ v h', Runs cfg g h 45 av v h' ∧ ∃ (rq0 : Option Nat), v = rowV rq0 q0.length ∧ HH g h' [.lst rq0 63 (lst e_S_api_Member q0), .obj bp1 (.map 2 (encM (fun k : List UInt8 => .str k) (fun v : Int => .int .i64 v) p1))] F := by
  refine runsQ1 (n := 40) (rs := [.tmp 4]) (by kernel_rfl) hc (by kernel_rfl) ?_
  clear hc
  unfold M_delta_kept at hm
  refine start (n := 40) [(0, vs e_S_api_Member p0), (1, .map (some bp1))] (by kernel_rfl) (by kernel_rfl) ?_
  intro fr H
  refine aw_seq (by kernel_rfl) ?_
  refine aw_reg (id := 0) (n := 1) [(0, [])] (by kernel_rfl) (by kernel_rfl) ?_
  refine at_seg [(0, [])] [(0, vs e_S_api_Member p0), (1, .map (some bp1))] H (noU_all rfl) (fun fr => by kernel_rfl) ?_
  intro fr H
  refine at_nil ?_
  show AW cfg 45 g (right (bodyC cfg.P 45)) fr h _
  refine aw_seq (by kernel_rfl) ?_
  refine aw_reg (id := 1) (n := 1) [(0, [])] (by kernel_rfl) (by kernel_rfl) ?_
  refine at_seg [(0, [])] [(0, vs e_S_api_Member p0), (1, .map (some bp1)), (5, .slice none 0)] H (noU_all rfl) (fun fr => by kernel_rfl) ?_
  intro fr H
  refine at_nil ?_
  show AW cfg 45 g (right (right (bodyC cfg.P 45))) fr h _
  refine aw_seq (by kernel_rfl) ?_
  refine aw_seq (by kernel_rfl) ?_
  refine aw_reg (id := 2) (n := 3) [(0, []), (1, []), (2, [])] (by kernel_rfl) (by kernel_rfl) ?_
  refine at_seg [(0, []), (1, []), (2, [])] [(1, .map (some bp1)), (5, .slice none 0), (10, vs e_S_api_Member p0), (11, .int .i64 (p0.length : Int)), (12, .int .i64 (0 : Int))] H (noU_all rfl) (fun fr => by kernel_rfl) ?_
  intro fr H
  refine at_nil ?_
  show AW cfg 45 g (right (left (right (right (bodyC cfg.P 45))))) fr h _
  refine aw_block (id := 0) (by kernel_rfl) ?_
  replace A : HH g h [.lst none 63 (lst e_S_api_Member ([] : List S_api_Member)), .obj bp1 (.map 2 (encM (fun k : List UInt8 => .str k) (fun v : Int => .int .i64 v) p1))] F := A.nilL 63
  obtain ⟨o1, ho, hm⟩ := bind_some hm
  refine aw_mono (Q' := fun e fr' h' => (∃ (x3 : List S_api_Member), e = .exit 0 ∧ x3 = o1 ∧ ∃ (r2 : Option Nat), Has fr' 40 [(5, rowV r2 x3.length)] ∧ HH g h' [.lst r2 63 (lst e_S_api_Member x3), .obj bp1 (.map 2 (encM (fun k : List UInt8 => .str k) (fun v : Int => .int .i64 v) p1))] F) ∨ False) ?_ ?_
  · refine aw_loop (by kernel_rfl) (fun (s : (List S_api_Member) × Int) fr' h' => ∃ (x1 : List S_api_Member) (x2 : Int), (x1, x2) = s ∧ ∃ (r1 : Option Nat), Has fr' 40 [(1, .map (some bp1)), (5, rowV r1 x1.length), (10, vs e_S_api_Member p0), (11, .int .i64 (p0.length : Int)), (12, .int .i64 x2)] ∧ HH g h' [.lst r1 63 (lst e_S_api_Member x1), .obj bp1 (.map 2 (encM (fun k : List UInt8 => .str k) (fun v : Int => .int .i64 v) p1))] F) ho ⟨([] : List S_api_Member), (0 : Int), rfl, none, H.less _ (fun fr => by kernel_rfl), A⟩ ?_
    clear ho hm H A
    intro s q fr h1 hI hm
    obtain ⟨x1, x2, rfl, r1, H, A⟩ := hI
    unfold M_delta_kept_L0 at hm
    refine aw_seq (by kernel_rfl) ?_
    refine aw_reg (id := 3) (n := 1) [(0, [])] (by kernel_rfl) (by kernel_rfl) ?_
    refine at_seg [(0, [])] [(1, .map (some bp1)), (5, rowV r1 x1.length), (10, vs e_S_api_Member p0), (11, .int .i64 (p0.length : Int)), (12, .int .i64 x2), (13, .bool (decide (x2 < (p0.length : Int))))] H (noU_all rfl) (fun fr => by kernel_rfl) ?_
    intro fr H
    refine at_nil ?_
    show AW cfg 45 g (right (left (left (right (left (right (right (bodyC cfg.P 45)))))))) fr h1 _
    refine aw_seq (by kernel_rfl) ?_
    rcases iteB_some hm with ⟨hb, hm⟩ | ⟨hb, hm⟩
    · replace H := H.know 13 hb (by kernel_rfl)
      refine aw_true (x := .tmp 13) (by kernel_rfl) H (fun fr => by kernel_rfl) ?_
      refine aw_skip (by kernel_rfl) ?_
      show AW cfg 45 g (right (right (left (left (right (left (right (right (bodyC cfg.P 45))))))))) fr h1 _
      refine aw_seq (by kernel_rfl) ?_
      obtain ⟨o2, ho, hm⟩ := bind_some hm
      refine aw_mono (Q' := fun e fr' h' => (∃ (x4 : List S_api_Member), e = .normal ∧ x4 = o2 ∧ ∃ (r3 : Option Nat), Has fr' 40 [(1, .map (some bp1)), (5, rowV r3 x4.length), (10, vs e_S_api_Member p0), (11, .int .i64 (p0.length : Int)), (12, .int .i64 x2)] ∧ HH g h' [.lst r3 63 (lst e_S_api_Member x4), .obj bp1 (.map 2 (encM (fun k : List UInt8 => .str k) (fun v : Int => .int .i64 v) p1))] F) ∨ False) ?_ ?_
      · replace hm := ho
        clear ho
        refine aw_block (id := 1) (by kernel_rfl) ?_
        refine aw_seq (by kernel_rfl) ?_
        refine aw_reg (id := 4) (n := 6) [(0, []), (1, []), (2, []), (3, []), (4, []), (5, [])] (by kernel_rfl) (by kernel_rfl) ?_
        refine at_seg [(0, [])] [(1, .map (some bp1)), (5, rowV r1 x1.length), (10, vs e_S_api_Member p0), (11, .int .i64 (p0.length : Int)), (12, .int .i64 x2), (14, .int .i64 x2)] H (noU_all rfl) (fun fr => by kernel_rfl) ?_
        intro fr H
        obtain ⟨x5, hx, hm⟩ := bind_some hm
        refine at_step (v := .vptr [.str x5.Name, .str x5.Link, .int .u8 x5.Kind, .int .i64 x5.Mode, .int .i64 x5.Uid, .int .i64 x5.Gid, .str x5.Uname, .str x5.Gname, .int .i64 x5.Major, .int .i64 x5.Minor, .int .i64 x5.Time.Sec, .int .i64 x5.Time.Nsec, vs e_S_api_Pair x5.Extra, .str x5.Data]) (h1 := h1) [(1, .map (some bp1)), (5, rowV r1 x1.length), (10, vs e_S_api_Member p0), (11, .int .i64 (p0.length : Int)), (12, .int .i64 x2), (14, .int .i64 x2), (15, .vptr [.str x5.Name, .str x5.Link, .int .u8 x5.Kind, .int .i64 x5.Mode, .int .i64 x5.Uid, .int .i64 x5.Gid, .str x5.Uname, .str x5.Gname, .int .i64 x5.Major, .int .i64 x5.Minor, .int .i64 x5.Time.Sec, .int .i64 x5.Time.Nsec, vs e_S_api_Pair x5.Extra, .str x5.Data])] H (fun fr => by kernel_rfl) (fun fr => .of (s_ixV (e := e_S_api_Member) (x := x5) enc_S_api_Member (by decide) (by kernel_rfl) hx)) ?_
        intro fr t H
        refine at_step (v := .agg (e_S_api_Member x5)) (h1 := h1) [(1, .map (some bp1)), (5, rowV r1 x1.length), (10, vs e_S_api_Member p0), (11, .int .i64 (p0.length : Int)), (12, .int .i64 x2), (14, .int .i64 x2), (16, .agg (e_S_api_Member x5))] H (fun fr => by kernel_rfl) (fun fr => .of (s_lv (by kernel_rfl))) ?_
        intro fr t H
        obtain ⟨h2, e1⟩ : ∃ x, x = h1.push (.cells none 2 [.str ([] : List UInt8), .str ([] : List UInt8), .int .u8 (0 : Int), .int .i64 (0 : Int), .int .i64 (0 : Int), .int .i64 (0 : Int), .str ([] : List UInt8), .str ([] : List UInt8), .int .i64 (0 : Int), .int .i64 (0 : Int), .int .i64 (0 : Int), .int .i64 (0 : Int), .slice none 0, .str ([] : List UInt8)]) := ⟨_, rfl⟩
        replace A := (A.push _).to e1
        refine at_step (v := .ptr (some (h1.size, 0))) (h1 := h2) [(1, .map (some bp1)), (5, rowV r1 x1.length), (7, .ptr (some (h1.size, 0))), (10, vs e_S_api_Member p0), (11, .int .i64 (p0.length : Int)), (12, .int .i64 x2), (14, .int .i64 x2), (16, .agg (e_S_api_Member x5))] H (fun fr => by kernel_rfl) (fun fr => .of (s_n' (by kernel_rfl) (congrArg some e1.symm))) ?_
        intro fr t H
        refine at_seg [(4, [])] [(1, .map (some bp1)), (5, rowV r1 x1.length), (6, .int .i64 x2), (7, .ptr (some (h1.size, 0))), (10, vs e_S_api_Member p0), (11, .int .i64 (p0.length : Int)), (12, .int .i64 x2), (16, .agg (e_S_api_Member x5))] H (noU_all rfl) (fun fr => by kernel_rfl) ?_
        intro fr H
        obtain ⟨h3, hx, A1⟩ := A.st 0 rfl (o := 0) (new := [.str x5.Name, .str x5.Link, .int .u8 x5.Kind, .int .i64 x5.Mode, .int .i64 x5.Uid, .int .i64 x5.Gid, .str x5.Uname, .str x5.Gname, .int .i64 x5.Major, .int .i64 x5.Minor, .int .i64 x5.Time.Sec, .int .i64 x5.Time.Nsec, vs e_S_api_Pair x5.Extra, .str x5.Data]) (ds := [.str x5.Name, .str x5.Link, .int .u8 x5.Kind, .int .i64 x5.Mode, .int .i64 x5.Uid, .int .i64 x5.Gid, .str x5.Uname, .str x5.Gname, .int .i64 x5.Major, .int .i64 x5.Minor, .int .i64 x5.Time.Sec, .int .i64 x5.Time.Nsec, vs e_S_api_Pair x5.Extra, .str x5.Data]) (Nat.le_of_ble_eq_true rfl) rfl rfl
        replace A : HH g h3 [.obj h1.size (.cells none 2 (e_S_api_Member x5)), .lst r1 63 (lst e_S_api_Member x1), .obj bp1 (.map 2 (encM (fun k : List UInt8 => .str k) (fun v : Int => .int .i64 v) p1))] F := A1
        refine at_step (v := .tuple []) (h1 := h3) [(1, .map (some bp1)), (5, rowV r1 x1.length), (6, .int .i64 x2), (7, .ptr (some (h1.size, 0))), (10, vs e_S_api_Member p0), (11, .int .i64 (p0.length : Int)), (12, .int .i64 x2)] H (fun fr => by kernel_rfl) (fun fr => .of (s_stG (by kernel_rfl) (stG_st hx rfl))) ?_
        intro fr t H
        refine at_nil ?_
        show AW cfg 45 g (right (left (left (right (right (left (left (right (left (right (right (bodyC cfg.P 45)))))))))))) fr h3 _
        refine aw_seq (by kernel_rfl) ?_
        refine aw_reg (id := 5) (n := 9) [(0, []), (1, []), (2, []), (3, []), (4, []), (5, []), (6, []), (7, []), (8, [])] (by kernel_rfl) (by kernel_rfl) ?_
        refine at_seg [(0, []), (1, [])] [(1, .map (some bp1)), (5, rowV r1 x1.length), (6, .int .i64 x2), (7, .ptr (some (h1.size, 0))), (10, vs e_S_api_Member p0), (11, .int .i64 (p0.length : Int)), (12, .int .i64 x2), (18, .map (some bp1)), (19, .ptr (some (h1.size, 0)))] H (noU_all rfl) (fun fr => by kernel_rfl) ?_
        intro fr H
        refine at_step (v := .str x5.Name) (h1 := h3) [(1, .map (some bp1)), (5, rowV r1 x1.length), (6, .int .i64 x2), (7, .ptr (some (h1.size, 0))), (10, vs e_S_api_Member p0), (11, .int .i64 (p0.length : Int)), (12, .int .i64 x2), (18, .map (some bp1)), (20, .str x5.Name)] H (fun fr => by kernel_rfl) (fun fr => .of (s_ld (by kernel_rfl) (A.ld1 0 rfl (o := 0) rfl))) ?_
        intro fr t H
        refine at_step (v := .tuple [.int .i64 ((mfind p1 x5.Name).getD (0 : Int)), .bool ((mfind p1 x5.Name).isSome)]) (h1 := h3) [(1, .map (some bp1)), (5, rowV r1 x1.length), (6, .int .i64 x2), (7, .ptr (some (h1.size, 0))), (10, vs e_S_api_Member p0), (11, .int .i64 (p0.length : Int)), (12, .int .i64 x2), (21, .tuple [.int .i64 ((mfind p1 x5.Name).getD (0 : Int)), .bool ((mfind p1 x5.Name).isSome)])] H (fun fr => by kernel_rfl) (fun fr => .of (s_lkT (by kernel_rfl) (HH.mlook (kt := 9) (et := 3) (ek := fun k : List UInt8 => .str k) (ev := fun v : Int => .int .i64 v) (keyS (by kernel_rfl)) A 2 rfl (t := 68) (by kernel_rfl) (z := (0 : Int)) (by kernel_rfl) x5.Name))) ?_
        intro fr t H
        refine at_seg [(4, []), (5, []), (6, []), (7, []), (8, [])] [(1, .map (some bp1)), (5, rowV r1 x1.length), (6, .int .i64 x2), (7, .ptr (some (h1.size, 0))), (8, .int .i64 ((mfind p1 x5.Name).getD (0 : Int))), (9, .bool ((mfind p1 x5.Name).isSome)), (10, vs e_S_api_Member p0), (11, .int .i64 (p0.length : Int)), (12, .int .i64 x2)] H (noU_all rfl) (fun fr => by kernel_rfl) ?_
        intro fr H
        refine at_nil ?_
        show AW cfg 45 g (right (right (left (left (right (right (left (left (right (left (right (right (bodyC cfg.P 45))))))))))))) fr h3 _
        refine aw_seq (by kernel_rfl) ?_
        refine aw_reg (id := 6) (n := 6) [(0, []), (1, []), (2, []), (3, []), (4, []), (5, [])] (by kernel_rfl) (by kernel_rfl) ?_
        refine at_seg [(0, []), (1, [])] [(1, .map (some bp1)), (5, rowV r1 x1.length), (6, .int .i64 x2), (7, .ptr (some (h1.size, 0))), (8, .int .i64 ((mfind p1 x5.Name).getD (0 : Int))), (10, vs e_S_api_Member p0), (11, .int .i64 (p0.length : Int)), (12, .int .i64 x2), (25, .bool ((mfind p1 x5.Name).isSome))] H (noU_all rfl) (fun fr => by kernel_rfl) ?_
        intro fr H
        refine at_cut [(2, []), (3, []), (4, []), (5, [])] (fun fr' h' => h3 = h' ∧ Has fr' 40 [(1, .map (some bp1)), (5, rowV r1 x1.length), (7, .ptr (some (h1.size, 0))), (10, vs e_S_api_Member p0), (11, .int .i64 (p0.length : Int)), (12, .int .i64 x2), (29, .bool (((mfind p1 x5.Name).isSome) && (((mfind p1 x5.Name).getD (0 : Int)) == x2)))]) ?_ ?_
        · cases hb : ((mfind p1 x5.Name).isSome : Bool) with
          | true =>
            replace H := H.know 25 hb (by kernel_rfl)
            refine at_seg [(2, []), (3, []), (4, []), (5, [])] [(1, .map (some bp1)), (5, rowV r1 x1.length), (7, .ptr (some (h1.size, 0))), (10, vs e_S_api_Member p0), (11, .int .i64 (p0.length : Int)), (12, .int .i64 x2), (29, .bool (((mfind p1 x5.Name).getD (0 : Int)) == x2))] H (noU_all rfl) (fun fr => by kernel_rfl) ?_
            intro fr H
            exact at_nil ⟨rfl, by first | exact H.less _ (fun fr => by rfl) | exact H.less _ (fun fr => by rw [hb]; rfl)⟩
          | false =>
            replace H := H.know 25 hb (by kernel_rfl)
            refine at_seg [(2, []), (3, []), (4, []), (5, [])] [(1, .map (some bp1)), (5, rowV r1 x1.length), (7, .ptr (some (h1.size, 0))), (10, vs e_S_api_Member p0), (11, .int .i64 (p0.length : Int)), (12, .int .i64 x2), (29, .bool false)] H (noU_all rfl) (fun fr => by kernel_rfl) ?_
            intro fr H
            exact at_nil ⟨rfl, by first | exact H.less _ (fun fr => by rfl) | exact H.less _ (fun fr => by rw [hb]; rfl)⟩
        · intro t fr h' hK
          obtain ⟨e, H⟩ := hK
          subst e
          refine at_nil ?_
          show AW cfg 45 g (right (right (right (left (left (right (right (left (left (right (left (right (right (bodyC cfg.P 45)))))))))))))) fr h3 _
          rcases iteB_some hm with ⟨hb, hm⟩ | ⟨hb, hm⟩
          · replace H := H.know 29 hb (by kernel_rfl)
            refine aw_true (x := .tmp 29) (by kernel_rfl) H (fun fr => by kernel_rfl) ?_
            refine aw_seq (by kernel_rfl) ?_
            refine aw_reg (id := 7) (n := 5) [(0, []), (1, []), (2, []), (3, []), (4, [])] (by kernel_rfl) (by kernel_rfl) ?_
            refine at_seg [(0, [])] [(1, .map (some bp1)), (5, rowV r1 x1.length), (7, .ptr (some (h1.size, 0))), (10, vs e_S_api_Member p0), (11, .int .i64 (p0.length : Int)), (12, .int .i64 x2), (30, .ptr (some (h1.size, 12)))] H (noU_all rfl) (fun fr => by kernel_rfl) ?_
            intro fr H
            refine at_step (v := vs e_S_api_Pair x5.Extra) (h1 := h3) [(1, .map (some bp1)), (5, rowV r1 x1.length), (7, .ptr (some (h1.size, 0))), (10, vs e_S_api_Member p0), (11, .int .i64 (p0.length : Int)), (12, .int .i64 x2), (31, vs e_S_api_Pair x5.Extra)] H (fun fr => by kernel_rfl) (fun fr => .of (s_ld (by kernel_rfl) (A.ld1 0 rfl (o := 12) rfl))) ?_
            intro fr t H
            have A1 := A.cut 0
            obtain ⟨hb, hm⟩ := need_some hm
            refine at_step (v := vs e_S_api_Pair x5.Extra) (h1 := h3) [(1, .map (some bp1)), (5, rowV r1 x1.length), (7, .ptr (some (h1.size, 0))), (10, vs e_S_api_Member p0), (11, .int .i64 (p0.length : Int)), (12, .int .i64 x2), (32, vs e_S_api_Pair x5.Extra)] H (fun fr => by kernel_rfl) (fun fr => Steps.call (by kernel_rfl) (runsCloneF (C := cfg) (f := 67) (a := 0) (t := 88) (xs := x5.Extra) enc_S_api_Pair (by decide) (by kernel_rfl) (l := exts) rfl (by kernel_rfl) (by kernel_rfl) rfl (firstV enc_S_api_Pair _ x5.Extra) (enc_S_api_Pair.canL _) hb)) ?_
            intro fr t H
            refine at_seg [(3, [])] [(1, .map (some bp1)), (5, rowV r1 x1.length), (7, .ptr (some (h1.size, 0))), (10, vs e_S_api_Member p0), (11, .int .i64 (p0.length : Int)), (12, .int .i64 x2), (32, vs e_S_api_Pair x5.Extra), (33, .ptr (some (h1.size, 12)))] H (noU_all rfl) (fun fr => by kernel_rfl) ?_
            intro fr H
            obtain ⟨h5, hx, A1⟩ := A.st 0 rfl (o := 12) (new := [vs e_S_api_Pair x5.Extra]) (ds := [.str x5.Name, .str x5.Link, .int .u8 x5.Kind, .int .i64 x5.Mode, .int .i64 x5.Uid, .int .i64 x5.Gid, .str x5.Uname, .str x5.Gname, .int .i64 x5.Major, .int .i64 x5.Minor, .int .i64 x5.Time.Sec, .int .i64 x5.Time.Nsec, vs e_S_api_Pair x5.Extra, .str x5.Data]) (Nat.le_of_ble_eq_true rfl) rfl rfl
            replace A : HH g h5 [.obj h1.size (.cells none 2 (e_S_api_Member x5)), .lst r1 63 (lst e_S_api_Member x1), .obj bp1 (.map 2 (encM (fun k : List UInt8 => .str k) (fun v : Int => .int .i64 v) p1))] F := A1
            refine at_step (v := .tuple []) (h1 := h5) [(1, .map (some bp1)), (5, rowV r1 x1.length), (7, .ptr (some (h1.size, 0))), (10, vs e_S_api_Member p0), (11, .int .i64 (p0.length : Int)), (12, .int .i64 x2)] H (fun fr => by kernel_rfl) (fun fr => .of (s_st (by kernel_rfl) rfl hx)) ?_
            intro fr t H
            refine at_nil ?_
            show AW cfg 45 g (right (left (right (right (right (left (left (right (right (left (left (right (left (right (right (bodyC cfg.P 45)))))))))))))))) fr h5 _
            refine aw_reg (id := 8) (n := 5) [(0, []), (1, []), (2, []), (3, []), (4, [])] (by kernel_rfl) (by kernel_rfl) ?_
            refine at_seg [(0, [])] [(1, .map (some bp1)), (7, .ptr (some (h1.size, 0))), (10, vs e_S_api_Member p0), (11, .int .i64 (p0.length : Int)), (12, .int .i64 x2), (34, rowV r1 x1.length)] H (noU_all rfl) (fun fr => by kernel_rfl) ?_
            intro fr H
            refine at_step (v := .agg (e_S_api_Member x5)) (h1 := h5) [(1, .map (some bp1)), (10, vs e_S_api_Member p0), (11, .int .i64 (p0.length : Int)), (12, .int .i64 x2), (34, rowV r1 x1.length), (35, .agg (e_S_api_Member x5))] H (fun fr => by kernel_rfl) (fun fr => .of (s_ldA (by kernel_rfl) (A.ldA 0 rfl (o := 0) (n := 14) ⟨Nat.le_of_ble_eq_true rfl, rfl⟩))) ?_
            intro fr t H
            obtain ⟨h6, e2⟩ : ∃ x, x = h5.push (.cells (some 63) 2 [.str x5.Name, .str x5.Link, .int .u8 x5.Kind, .int .i64 x5.Mode, .int .i64 x5.Uid, .int .i64 x5.Gid, .str x5.Uname, .str x5.Gname, .int .i64 x5.Major, .int .i64 x5.Minor, .int .i64 x5.Time.Sec, .int .i64 x5.Time.Nsec, vs e_S_api_Pair x5.Extra, .str x5.Data]) := ⟨_, rfl⟩
            replace A := (A.pushL _ _).to e2
            refine at_step (v := rowV (some h5.size) (([x5] : List S_api_Member).length)) (h1 := h6) [(1, .map (some bp1)), (10, vs e_S_api_Member p0), (11, .int .i64 (p0.length : Int)), (12, .int .i64 x2), (34, rowV r1 x1.length), (36, rowV (some h5.size) (([x5] : List S_api_Member).length))] H (fun fr => by kernel_rfl) (fun fr => .of (s_n' (by kernel_rfl) (congrArg some e2.symm))) ?_
            intro fr t H
            obtain ⟨hb, hm⟩ := need_some hm
            obtain ⟨r5, h7, hx, A1⟩ := HH.appO enc_S_api_Member (by decide) A 2 (xs := x1) (ys := ([x5] : List S_api_Member)) rfl (row_first A 0 rfl (n := ([x5] : List S_api_Member).length) (z := 14) rfl (by decide)) rfl rfl hb
            replace A : HH g h7 [.lst (some h5.size) 63 ([.str x5.Name, .str x5.Link, .int .u8 x5.Kind, .int .i64 x5.Mode, .int .i64 x5.Uid, .int .i64 x5.Gid, .str x5.Uname, .str x5.Gname, .int .i64 x5.Major, .int .i64 x5.Minor, .int .i64 x5.Time.Sec, .int .i64 x5.Time.Nsec, vs e_S_api_Pair x5.Extra, .str x5.Data]), .obj h1.size (.cells none 2 (e_S_api_Member x5)), .lst r5 63 (lst e_S_api_Member (x1 ++ ([x5] : List S_api_Member))), .obj bp1 (.map 2 (encM (fun k : List UInt8 => .str k) (fun v : Int => .int .i64 v) p1))] F := A1
            replace A : HH g h7 [.obj h1.size (.cells none 2 (e_S_api_Member x5)), .lst r5 63 (lst e_S_api_Member (x1 ++ ([x5] : List S_api_Member))), .obj bp1 (.map 2 (encM (fun k : List UInt8 => .str k) (fun v : Int => .int .i64 v) p1))] F := (HH.dropF (((A.front 3 rfl).front 3 rfl).front 3 rfl) 3)
            refine at_step (v := rowV r5 ((x1 ++ ([x5] : List S_api_Member)).length)) (h1 := h7) [(1, .map (some bp1)), (10, vs e_S_api_Member p0), (11, .int .i64 (p0.length : Int)), (12, .int .i64 x2), (37, rowV r5 ((x1 ++ ([x5] : List S_api_Member)).length))] H (fun fr => by kernel_rfl) (fun fr => .of (s_app (s := rowS r1 x1.length) (by kernel_rfl) hx)) ?_
            intro fr t H
            refine at_seg [(4, [])] [(1, .map (some bp1)), (5, rowV r5 ((x1 ++ ([x5] : List S_api_Member)).length)), (10, vs e_S_api_Member p0), (11, .int .i64 (p0.length : Int)), (12, .int .i64 x2)] H (noU_all rfl) (fun fr => by kernel_rfl) ?_
            intro fr H
            refine at_nil ?_
            replace A : HH g h7 [.lst r5 63 (lst e_S_api_Member (x1 ++ ([x5] : List S_api_Member))), .obj bp1 (.map 2 (encM (fun k : List UInt8 => .str k) (fun v : Int => .int .i64 v) p1))] F := (HH.dropF ((A.front 2 rfl).front 2 rfl) 2)
            exact Or.inl ⟨(x1 ++ ([x5] : List S_api_Member)), rfl, Option.some.inj hm, r5, H.less _ (fun fr => by kernel_rfl), A⟩
          · replace H := H.know 29 hb (by kernel_rfl)
            refine aw_false (x := .tmp 29) (by kernel_rfl) H (fun fr => by kernel_rfl) ?_
            refine aw_skip (by kernel_rfl) ?_
            replace A : HH g h3 [.lst r1 63 (lst e_S_api_Member x1), .obj bp1 (.map 2 (encM (fun k : List UInt8 => .str k) (fun v : Int => .int .i64 v) p1))] F := (HH.dropF ((A.front 2 rfl).front 2 rfl) 2)
            exact Or.inl ⟨x1, rfl, Option.some.inj hm, r1, H.less _ (fun fr => by kernel_rfl), A⟩
      · clear ho
        clear A
        intro e fr h8 hQ
        rcases hQ with ⟨x4, rfl, rfl, r3, H, A⟩ | hF
        · skip
          show AW cfg 45 g (right (right (right (left (left (right (left (right (right (bodyC cfg.P 45)))))))))) fr h8 _
          refine aw_reg (id := 9) (n := 2) [(0, []), (1, [])] (by kernel_rfl) (by kernel_rfl) ?_
          refine at_seg [(0, []), (1, [])] [(1, .map (some bp1)), (5, rowV r3 x4.length), (10, vs e_S_api_Member p0), (11, .int .i64 (p0.length : Int)), (12, .int .i64 (IntKind.i64.wrap (x2 + (1 : Int))))] H (noU_all rfl) (fun fr => by kernel_rfl) ?_
          intro fr H
          refine at_nil ?_
          exact Exists.intro (x4, IntKind.i64.wrap (x2 + (1 : Int))) (And.intro (Option.some.inj hm).symm ⟨x4, IntKind.i64.wrap (x2 + (1 : Int)), rfl, r3, H.less _ (fun fr => by kernel_rfl), A⟩)
        · exact hF.elim
    · replace H := H.know 13 hb (by kernel_rfl)
      refine aw_false (x := .tmp 13) (by kernel_rfl) H (fun fr => by kernel_rfl) ?_
      refine aw_exit (i := 0) (by kernel_rfl) ?_
      exact Exists.intro _ (And.intro (Option.some.inj hm).symm (fun e => Or.inl ⟨x1, rfl, e, r1, H.less _ (fun fr => by kernel_rfl), A⟩))
  · clear ho
    clear A
    intro e fr h9 hQ
    rcases hQ with ⟨x3, rfl, rfl, r2, H, A⟩ | hF
    · skip
      show AW cfg 45 g (right (right (right (bodyC cfg.P 45)))) fr h9 _
      refine aw_seq (by kernel_rfl) ?_
      refine aw_reg (id := 10) (n := 2) [(0, []), (1, [])] (by kernel_rfl) (by kernel_rfl) ?_
      refine at_seg [(0, []), (1, [])] [(4, rowV r2 x3.length)] H (noU_all rfl) (fun fr => by kernel_rfl) ?_
      intro fr H
      refine at_nil ?_
      show AW cfg 45 g (right (right (right (right (bodyC cfg.P 45))))) fr h9 _
      refine aw_ret (by kernel_rfl) ?_
      have e1 := Option.some.inj hm
      subst e1
      refine ⟨.inl rfl, rowV r2 x3.length, resH H (fun fr => by kernel_rfl), ?_⟩
      exact ⟨r2, rfl, A⟩
    · exact hF.elim
/-! ### internal/bytealg.CompareString -/
noncomputable def M_bytealg_CompareString (p0 : List UInt8) (p1 : List UInt8) : Option (Int) :=
 some (compareBytes p0 p1)
theorem ok_bytealg_CompareString {g : Gd} {h : AHeap} {F : List Ck} {p0 : List UInt8} {p1 : List UInt8} {q0 : Int} {av : List AVal} (hm : M_bytealg_CompareString p0 p1 = some q0) (hc : canL (cfg.still 83) av = [.str p0, .str p1]) (A : HH g h [] F) : ∃ v h', Runs cfg g h 83 av v h' ∧ v = .int .i64 q0 ∧ HH g h' [] F := by
  refine runsQ1 (n := 8) (rs := [.tmp 4]) (by kernel_rfl) hc (by kernel_rfl) ?_
  clear hc
  unfold M_bytealg_CompareString at hm
  refine start (n := 8) [(0, .str p0), (1, .str p1)] (by kernel_rfl) (by kernel_rfl) ?_
  intro fr H
  refine aw_seq (by kernel_rfl) ?_
  refine aw_reg (id := 0) (n := 1) [(0, [])] (by kernel_rfl) (by kernel_rfl) ?_
  refine at_seg [(0, [])] [(0, .str p0), (1, .str p1)] H (noU_all rfl) (fun fr => by kernel_rfl) ?_
  intro fr H
  refine at_nil ?_
  show AW cfg 83 g (right (bodyC cfg.P 83)) fr h _
  refine aw_seq (by kernel_rfl) ?_
  refine aw_reg (id := 1) (n := 4) [(0, []), (1, []), (2, []), (3, [])] (by kernel_rfl) (by kernel_rfl) ?_
  refine at_seg [(0, []), (1, [])] [(5, .str p0), (6, .str p1)] H (noU_all rfl) (fun fr => by kernel_rfl) ?_
  intro fr H
  refine at_step (v := .int .i64 (compareBytes p0 p1)) (h1 := h) [(7, .int .i64 (compareBytes p0 p1))] H (fun fr => by kernel_rfl) (fun fr => Steps.call (by kernel_rfl) (runsCmp (C := cfg) (f := 100) (by kernel_rfl) (l := exts) rfl (by kernel_rfl))) ?_
  intro fr t H
  refine at_seg [(3, [])] [(4, .int .i64 (compareBytes p0 p1))] H (noU_all rfl) (fun fr => by kernel_rfl) ?_
  intro fr H
  refine at_nil ?_
  show AW cfg 83 g (right (right (bodyC cfg.P 83))) fr h _
  refine aw_ret (by kernel_rfl) ?_
  have e1 := Option.some.inj hm
  subst e1
  refine ⟨.inl rfl, .int .i64 (compareBytes p0 p1), resH H (fun fr => by kernel_rfl), ?_⟩
  exact ⟨rfl, A⟩
/-! ### strings.Compare -/
noncomputable def M_strings_Compare (p0 : List UInt8) (p1 : List UInt8) : Option (Int) :=
 (M_bytealg_CompareString p0 p1).bind fun x1 => some x1
theorem ok_strings_Compare {g : Gd} {h : AHeap} {F : List Ck} {p0 : List UInt8} {p1 : List UInt8} {q0 : Int} {av : List AVal} (hm : M_strings_Compare p0 p1 = some q0) (hc : canL (cfg.still 75) av = [.str p0, .str p1]) (A : HH g h [] F) : ∃ v h', Runs cfg g h 75 av v h' ∧ v = .int .i64 q0 ∧ HH g h' [] F := by
  refine runsQ1 (n := 8) (rs := [.tmp 4]) (by kernel_rfl) hc (by kernel_rfl) ?_
  clear hc
  unfold M_strings_Compare at hm
  refine start (n := 8) [(0, .str p0), (1, .str p1)] (by kernel_rfl) (by kernel_rfl) ?_
  intro fr H
  refine aw_seq (by kernel_rfl) ?_
  refine aw_reg (id := 0) (n := 1) [(0, [])] (by kernel_rfl) (by kernel_rfl) ?_
  refine at_seg [(0, [])] [(0, .str p0), (1, .str p1)] H (noU_all rfl) (fun fr => by kernel_rfl) ?_
  intro fr H
  refine at_nil ?_
  show AW cfg 75 g (right (bodyC cfg.P 75)) fr h _
  refine aw_seq (by kernel_rfl) ?_
  refine aw_reg (id := 1) (n := 4) [(0, []), (1, []), (2, []), (3, [])] (by kernel_rfl) (by kernel_rfl) ?_
  refine at_seg [(0, []), (1, [])] [(5, .str p0), (6, .str p1)] H (noU_all rfl) (fun fr => by kernel_rfl) ?_
  intro fr H
  have A1 := A.cut 0
  obtain ⟨x1, hx, hm⟩ := bind_some hm
  obtain ⟨v1, h1, hr, rfl, A1⟩ := ok_bytealg_CompareString (av := [.str p0, .str p1]) hx (by kernel_rfl) A1
  replace A : HH g h1 [] F := A.glue0 (n := 0) A1
  refine at_step (v := .int .i64 x1) (h1 := h1) [(7, .int .i64 x1)] H (fun fr => by kernel_rfl) (fun fr => Steps.call (by kernel_rfl) hr) ?_
  intro fr t H
  refine at_seg [(3, [])] [(4, .int .i64 x1)] H (noU_all rfl) (fun fr => by kernel_rfl) ?_
  intro fr H
  refine at_nil ?_
  show AW cfg 75 g (right (right (bodyC cfg.P 75))) fr h1 _
  refine aw_ret (by kernel_rfl) ?_
  have e1 := Option.some.inj hm
  subst e1
  refine ⟨.inl rfl, .int .i64 x1, resH H (fun fr => by kernel_rfl), ?_⟩
  exact ⟨rfl, A⟩
/-! ### boulter/delta.byName$1 -/
noncomputable def M_delta_byName_1 (p0 : S_api_Member) (p1 : S_api_Member) : Option (Int) :=
 (M_strings_Compare p0.Name p1.Name).bind fun x1 => some x1
theorem ok_delta_byName_1 {g : Gd} {h : AHeap} {F : List Ck} {p0 : S_api_Member} {p1 : S_api_Member} {q0 : Int} {av : List AVal} (hm : M_delta_byName_1 p0 p1 = some q0) (hc : canL (cfg.still 74) av = [.agg (e_S_api_Member p0), .agg (e_S_api_Member p1)]) (A : HH g h [] F) : ∃ v h', Runs cfg g h 74 av v h' ∧ v = .int .i64 q0 ∧ HH g h' [] F := by
  refine runsQ1 (n := 10) (rs := [.tmp 4]) (by kernel_rfl) hc (by kernel_rfl) ?_
  clear hc
  unfold M_delta_byName_1 at hm
  refine start (n := 10) [(0, .agg (e_S_api_Member p0)), (1, .agg (e_S_api_Member p1))] (by kernel_rfl) (by kernel_rfl) ?_
  intro fr H
  refine aw_seq (by kernel_rfl) ?_
  refine aw_reg (id := 0) (n := 3) [(0, []), (1, []), (2, [])] (by kernel_rfl) (by kernel_rfl) ?_
  obtain ⟨h1, e1⟩ : ∃ x, x = h.push (.cells none 2 (e_S_api_Member p0)) := ⟨_, rfl⟩
  replace A := (A.push _).to e1
  refine at_step (v := .ptr (some (h.size, 0))) (h1 := h1) [(1, .agg (e_S_api_Member p1)), (2, .ptr (some (h.size, 0)))] H (fun fr => by kernel_rfl) (fun fr => .of (s_n' (by kernel_rfl) (congrArg some e1.symm))) ?_
  intro fr t H
  obtain ⟨h2, e2⟩ : ∃ x, x = h1.push (.cells none 2 (e_S_api_Member p1)) := ⟨_, rfl⟩
  replace A := (A.push _).to e2
  refine at_step (v := .ptr (some (h1.size, 0))) (h1 := h2) [(2, .ptr (some (h.size, 0))), (3, .ptr (some (h1.size, 0)))] H (fun fr => by kernel_rfl) (fun fr => .of (s_n' (by kernel_rfl) (congrArg some e2.symm))) ?_
  intro fr t H
  refine at_seg [(2, [])] [(2, .ptr (some (h.size, 0))), (3, .ptr (some (h1.size, 0)))] H (noU_all rfl) (fun fr => by kernel_rfl) ?_
  intro fr H
  refine at_nil ?_
  show AW cfg 74 g (right (bodyC cfg.P 74)) fr h2 _
  refine aw_seq (by kernel_rfl) ?_
  refine aw_reg (id := 1) (n := 6) [(0, []), (1, []), (2, []), (3, []), (4, []), (5, [])] (by kernel_rfl) (by kernel_rfl) ?_
  refine at_seg [(0, [])] [(3, .ptr (some (h1.size, 0))), (5, .ptr (some (h.size, 0)))] H (noU_all rfl) (fun fr => by kernel_rfl) ?_
  intro fr H
  refine at_step (v := .str p0.Name) (h1 := h2) [(3, .ptr (some (h1.size, 0))), (6, .str p0.Name)] H (fun fr => by kernel_rfl) (fun fr => .of (s_ld (by kernel_rfl) (A.ld1 1 rfl (o := 0) rfl))) ?_
  intro fr t H
  refine at_seg [(2, [])] [(6, .str p0.Name), (7, .ptr (some (h1.size, 0)))] H (noU_all rfl) (fun fr => by kernel_rfl) ?_
  intro fr H
  refine at_step (v := .str p1.Name) (h1 := h2) [(6, .str p0.Name), (8, .str p1.Name)] H (fun fr => by kernel_rfl) (fun fr => .of (s_ld (by kernel_rfl) (A.ld1 0 rfl (o := 0) rfl))) ?_
  intro fr t H
  have A1 := A.cut 0
  obtain ⟨x1, hx, hm⟩ := bind_some hm
  obtain ⟨v1, h3, hr, rfl, A1⟩ := ok_strings_Compare (av := [.str p0.Name, .str p1.Name]) hx (by kernel_rfl) A1
  replace A : HH g h3 [.obj h1.size (.cells none 2 (e_S_api_Member p1)), .obj h.size (.cells none 2 (e_S_api_Member p0))] F := A.glue0 (n := 0) A1
  refine at_step (v := .int .i64 x1) (h1 := h3) [(9, .int .i64 x1)] H (fun fr => by kernel_rfl) (fun fr => Steps.call (by kernel_rfl) hr) ?_
  intro fr t H
  refine at_seg [(5, [])] [(4, .int .i64 x1)] H (noU_all rfl) (fun fr => by kernel_rfl) ?_
  intro fr H
  refine at_nil ?_
  show AW cfg 74 g (right (right (bodyC cfg.P 74))) fr h3 _
  refine aw_ret (by kernel_rfl) ?_
  have e1 := Option.some.inj hm
  subst e1
  refine ⟨.inl rfl, .int .i64 x1, resH H (fun fr => by kernel_rfl), ?_⟩
  replace A : HH g h3 [] F := (HH.dropF A 0)
  exact ⟨rfl, A⟩
/-! ### slices.insertionSortCmpFunc[boulter/api.Member] -/
noncomputable def M_slices_insertionSortCmpFunc_boulter_api_Member_sOIIF_8ba1_L1 (p1 : Int) (s : (List S_api_Member) × Int) : Option (((List S_api_Member) × Int) ⊕ (((List S_api_Member)))) :=
  match s with
  | (x4, x5) => (iteB (decide (x5 > p1)) ((ixV x4 x5).bind fun x8 => (ixV x4 (IntKind.i64.wrap (x5 - (1 : Int)))).bind fun x9 => (M_delta_byName_1 x8 x9).bind fun x10 => some (decide (x10 < (0 : Int)))) (some false) : Option (Bool)).bind fun x7 => iteB x7 ((ixV x4 (IntKind.i64.wrap (x5 - (1 : Int)))).bind fun x11 => (ixV x4 x5).bind fun x12 => (ixV x4 x5).bind fun x13 => (ixV (x4.set x5.toNat x11) (IntKind.i64.wrap (x5 - (1 : Int)))).bind fun x14 => some (.inl (((x4.set x5.toNat x11).set (IntKind.i64.wrap (x5 - (1 : Int))).toNat x12), IntKind.i64.wrap (x5 - (1 : Int))))) (some (.inr x4))
noncomputable def M_slices_insertionSortCmpFunc_boulter_api_Member_sOIIF_8ba1_L0 (p1 : Int) (p2 : Int) (s : (List S_api_Member) × Int) : Option (((List S_api_Member) × Int) ⊕ (((List S_api_Member)))) :=
  match s with
  | (x1, x2) => iteB (decide (x2 < p2)) ((loop (M_slices_insertionSortCmpFunc_boulter_api_Member_sOIIF_8ba1_L1 p1) (x1, x2)).bind fun x6 => some (.inl (x6, IntKind.i64.wrap (x2 + (1 : Int))))) (some (.inr x1))
noncomputable def M_slices_insertionSortCmpFunc_boulter_api_Member_sOIIF_8ba1 (p0 : List S_api_Member) (p1 : Int) (p2 : Int) : Option ((List S_api_Member)) :=
 (loop (M_slices_insertionSortCmpFunc_boulter_api_Member_sOIIF_8ba1_L0 p1 p2) (p0, IntKind.i64.wrap (p1 + (1 : Int)))).bind fun x3 => some x3
theorem ok_slices_insertionSortCmpFunc_boulter_api_Member_sOIIF_8ba1 {g : Gd} {h : AHeap} {F : List Ck} {p0 : List S_api_Member} {p1 : Int} {p2 : Int} {rp0 : Option Nat} {u0 : List S_api_Member} {av : List AVal} (hm : M_slices_insertionSortCmpFunc_boulter_api_Member_sOIIF_8ba1 p0 p1 p2 = some u0) (hc : canL (cfg.still 98) av = [rowV rp0 p0.length, .int .i64 p1, .int .i64 p2, .func (.func 74) [] []]) (A : HH g h [.lst rp0 63 (lst e_S_api_Member p0)] F) : ∃ v h', Runs cfg g h 98 av v h' ∧ ∃ (hl'0 : u0.length = p0.length), v = .tuple [] ∧ HH g h' [.lst rp0 63 (lst e_S_api_Member u0)] F := by
  refine runsQ1 (n := 53) (rs := []) (by kernel_rfl) hc (by kernel_rfl) ?_
  clear hc
  unfold M_slices_insertionSortCmpFunc_boulter_api_Member_sOIIF_8ba1 at hm
  refine start (n := 53) [(0, rowV rp0 p0.length), (1, .int .i64 p1), (2, .int .i64 p2), (3, .func (.func 74) [] [])] (by kernel_rfl) (by kernel_rfl) ?_
  intro fr H
  refine aw_seq (by kernel_rfl) ?_
  refine aw_reg (id := 0) (n := 3) [(0, []), (1, []), (2, [])] (by kernel_rfl) (by kernel_rfl) ?_
  refine at_seg [(0, []), (1, []), (2, [])] [(0, rowV rp0 p0.length), (1, .int .i64 p1), (2, .int .i64 p2), (3, .func (.func 74) [] []), (8, .int .i64 (IntKind.i64.wrap (p1 + (1 : Int))))] H (noU_all rfl) (fun fr => by kernel_rfl) ?_
  intro fr H
  refine at_nil ?_
  show AW cfg 98 g (right (bodyC cfg.P 98)) fr h _
  refine aw_block (id := 0) (by kernel_rfl) ?_
  obtain ⟨o1, ho, hm⟩ := bind_some hm
  refine aw_mono (Q' := fun e fr' h' => (∃ (x3 : List S_api_Member), e = .exit 0 ∧ x3 = o1 ∧ ∃ (hl2 : x3.length = p0.length), Has fr' 53 [] ∧ HH g h' [.lst rp0 63 (lst e_S_api_Member x3)] F) ∨ False) ?_ ?_
  · refine aw_loop (by kernel_rfl) (fun (s : (List S_api_Member) × Int) fr' h' => ∃ (x1 : List S_api_Member) (x2 : Int), (x1, x2) = s ∧ ∃ (hl1 : x1.length = p0.length), Has fr' 53 [(0, rowV rp0 x1.length), (1, .int .i64 p1), (2, .int .i64 p2), (3, .func (.func 74) [] []), (8, .int .i64 x2)] ∧ HH g h' [.lst rp0 63 (lst e_S_api_Member x1)] F) ho ⟨p0, IntKind.i64.wrap (p1 + (1 : Int)), rfl, rfl, H.less _ (fun fr => by kernel_rfl), A⟩ ?_
    clear ho hm H A
    intro s q fr h1 hI hm
    obtain ⟨x1, x2, rfl, hl1, H, A⟩ := hI
    unfold M_slices_insertionSortCmpFunc_boulter_api_Member_sOIIF_8ba1_L0 at hm
    refine aw_seq (by kernel_rfl) ?_
    refine aw_seq (by kernel_rfl) ?_
    refine aw_reg (id := 1) (n := 3) [(0, []), (1, []), (2, [])] (by kernel_rfl) (by kernel_rfl) ?_
    refine at_seg [(0, []), (1, []), (2, [])] [(0, rowV rp0 x1.length), (1, .int .i64 p1), (2, .int .i64 p2), (3, .func (.func 74) [] []), (8, .int .i64 x2), (14, .bool (decide (x2 < p2)))] H (noU_all rfl) (fun fr => by kernel_rfl) ?_
    intro fr H
    refine at_nil ?_
    show AW cfg 98 g (right (left (left (left (right (bodyC cfg.P 98)))))) fr h1 _
    rcases iteB_some hm with ⟨hb, hm⟩ | ⟨hb, hm⟩
    · replace H := H.know 14 hb (by kernel_rfl)
      refine aw_true (x := .tmp 14) (by kernel_rfl) H (fun fr => by kernel_rfl) ?_
      refine aw_skip (by kernel_rfl) ?_
      show AW cfg 98 g (right (left (left (right (bodyC cfg.P 98))))) fr h1 _
      refine aw_seq (by kernel_rfl) ?_
      refine aw_block (id := 1) (by kernel_rfl) ?_
      refine aw_seq (by kernel_rfl) ?_
      refine aw_reg (id := 3) (n := 2) [(0, []), (1, [])] (by kernel_rfl) (by kernel_rfl) ?_
      refine at_seg [(0, []), (1, [])] [(0, rowV rp0 x1.length), (1, .int .i64 p1), (2, .int .i64 p2), (3, .func (.func 74) [] []), (8, .int .i64 x2), (9, .int .i64 x2)] H (noU_all rfl) (fun fr => by kernel_rfl) ?_
      intro fr H
      refine at_nil ?_
      show AW cfg 98 g (right (left (left (right (left (left (right (bodyC cfg.P 98)))))))) fr h1 _
      refine aw_block (id := 2) (by kernel_rfl) ?_
      obtain ⟨o2, ho, hm⟩ := bind_some hm
      refine aw_mono (Q' := fun e fr' h' => (∃ (x6 : List S_api_Member), e = .exit 2 ∧ x6 = o2 ∧ ∃ (hl4 : x6.length = p0.length), Has fr' 53 [(0, rowV rp0 x6.length), (1, .int .i64 p1), (2, .int .i64 p2), (3, .func (.func 74) [] []), (8, .int .i64 x2)] ∧ HH g h' [.lst rp0 63 (lst e_S_api_Member x6)] F) ∨ False) ?_ ?_
      · refine aw_loop (by kernel_rfl) (fun (s : (List S_api_Member) × Int) fr' h' => ∃ (x4 : List S_api_Member) (x5 : Int), (x4, x5) = s ∧ ∃ (hl3 : x4.length = p0.length), Has fr' 53 [(0, rowV rp0 x4.length), (1, .int .i64 p1), (2, .int .i64 p2), (3, .func (.func 74) [] []), (8, .int .i64 x2), (9, .int .i64 x5)] ∧ HH g h' [.lst rp0 63 (lst e_S_api_Member x4)] F) ho ⟨x1, x2, rfl, hl1, H.less _ (fun fr => by kernel_rfl), A⟩ ?_
        clear ho hm H A
        intro s q fr h2 hI hm
        obtain ⟨x4, x5, rfl, hl3, H, A⟩ := hI
        unfold M_slices_insertionSortCmpFunc_boulter_api_Member_sOIIF_8ba1_L1 at hm
        refine aw_seq (by kernel_rfl) ?_
        refine aw_seq (by kernel_rfl) ?_
        refine aw_draw (id := 4) (n := 17) (by kernel_rfl) [(0, []), (1, []), (2, []), (3, []), (4, []), (5, []), (6, []), (7, []), (8, []), (9, []), (10, []), (11, []), (12, []), (13, []), (14, []), (15, []), (16, [])] (by kernel_rfl) ?_
        refine at_seg [(0, []), (1, []), (2, []), (3, [])] [(0, rowV rp0 x4.length), (1, .int .i64 p1), (2, .int .i64 p2), (3, .func (.func 74) [] []), (8, .int .i64 x2), (9, .int .i64 x5), (21, .bool (decide (x5 > p1)))] H (noU_all rfl) (fun fr => by kernel_rfl) ?_
        intro fr H
        obtain ⟨x7, ho, hm⟩ := bind_some hm
        refine at_cut [(4, []), (5, []), (6, []), (7, []), (8, []), (9, []), (10, []), (11, []), (12, []), (13, []), (14, []), (15, []), (16, [])] (fun fr' h' => Has fr' 53 [(0, rowV rp0 x4.length), (1, .int .i64 p1), (2, .int .i64 p2), (3, .func (.func 74) [] []), (8, .int .i64 x2), (9, .int .i64 x5), (34, .bool x7)] ∧ HH g h' [.lst rp0 63 (lst e_S_api_Member x4)] F) ?_ ?_
        · rcases iteB_some ho with ⟨hb, hm⟩ | ⟨hb, hm⟩
          · replace H := H.know 21 hb (by kernel_rfl)
            refine at_seg [(4, []), (5, []), (6, [])] [(0, rowV rp0 x4.length), (1, .int .i64 p1), (2, .int .i64 p2), (3, .func (.func 74) [] []), (8, .int .i64 x2), (9, .int .i64 x5), (21, .bool true), (22, .func (.func 74) [] []), (23, rowV rp0 x4.length), (24, .int .i64 x5)] H (noU_all rfl) (fun fr => by kernel_rfl) ?_
            intro fr H
            obtain ⟨x8, hx, hm⟩ := bind_some hm
            obtain ⟨i1, er1, _, hx, hq1⟩ := HH.ixO enc_S_api_Member (by decide) A 0 (xs := x4) rfl hx
            refine at_step (v := .ptr (some (i1, x5.toNat * 14))) (h1 := h2) [(0, rowV rp0 x4.length), (1, .int .i64 p1), (2, .int .i64 p2), (3, .func (.func 74) [] []), (8, .int .i64 x2), (9, .int .i64 x5), (21, .bool true), (22, .func (.func 74) [] []), (25, .ptr (some (i1, x5.toNat * 14)))] H (fun fr => by kernel_rfl) (fun fr => .of (s_ixL (s := rowS rp0 x4.length) (by kernel_rfl) hx)) ?_
            intro fr t H
            refine at_step (v := .agg (e_S_api_Member x8)) (h1 := h2) [(0, rowV rp0 x4.length), (1, .int .i64 p1), (2, .int .i64 p2), (3, .func (.func 74) [] []), (8, .int .i64 x2), (9, .int .i64 x5), (21, .bool true), (22, .func (.func 74) [] []), (26, .agg (e_S_api_Member x8))] H (fun fr => by kernel_rfl) (fun fr => .of (s_ldA (by kernel_rfl) (row_ldA enc_S_api_Member (HH.row A 0 rfl er1) hq1 0 14 (Nat.le_of_ble_eq_true rfl)))) ?_
            intro fr t H
            refine at_seg [(9, []), (10, []), (11, [])] [(0, rowV rp0 x4.length), (1, .int .i64 p1), (2, .int .i64 p2), (3, .func (.func 74) [] []), (8, .int .i64 x2), (9, .int .i64 x5), (21, .bool true), (22, .func (.func 74) [] []), (26, .agg (e_S_api_Member x8)), (27, rowV rp0 x4.length), (29, .int .i64 (IntKind.i64.wrap (x5 - (1 : Int))))] H (noU_all rfl) (fun fr => by kernel_rfl) ?_
            intro fr H
            obtain ⟨x9, hx, hm⟩ := bind_some hm
            obtain ⟨i2, er2, _, hx, hq2⟩ := HH.ixO enc_S_api_Member (by decide) A 0 (xs := x4) rfl hx
            refine at_step (v := .ptr (some (i2, (IntKind.i64.wrap (x5 - (1 : Int))).toNat * 14))) (h1 := h2) [(0, rowV rp0 x4.length), (1, .int .i64 p1), (2, .int .i64 p2), (3, .func (.func 74) [] []), (8, .int .i64 x2), (9, .int .i64 x5), (21, .bool true), (22, .func (.func 74) [] []), (26, .agg (e_S_api_Member x8)), (30, .ptr (some (i2, (IntKind.i64.wrap (x5 - (1 : Int))).toNat * 14)))] H (fun fr => by kernel_rfl) (fun fr => .of (s_ixL (s := rowS rp0 x4.length) (by kernel_rfl) hx)) ?_
            intro fr t H
            refine at_step (v := .agg (e_S_api_Member x9)) (h1 := h2) [(0, rowV rp0 x4.length), (1, .int .i64 p1), (2, .int .i64 p2), (3, .func (.func 74) [] []), (8, .int .i64 x2), (9, .int .i64 x5), (21, .bool true), (22, .func (.func 74) [] []), (26, .agg (e_S_api_Member x8)), (31, .agg (e_S_api_Member x9))] H (fun fr => by kernel_rfl) (fun fr => .of (s_ldA (by kernel_rfl) (row_ldA enc_S_api_Member (HH.row A 0 rfl er2) hq2 0 14 (Nat.le_of_ble_eq_true rfl)))) ?_
            intro fr t H
            have A1 := A.cut 0
            obtain ⟨x10, hx, hm⟩ := bind_some hm
            obtain ⟨v1, h4, hr, rfl, A1⟩ := ok_delta_byName_1 (av := [.agg (e_S_api_Member x8), .agg (e_S_api_Member x9)]) hx (by kernel_rfl) A1
            replace A : HH g h4 [.lst rp0 63 (lst e_S_api_Member x4)] F := A.glue0 (n := 0) A1
            refine at_step (v := .int .i64 x10) (h1 := h4) [(0, rowV rp0 x4.length), (1, .int .i64 p1), (2, .int .i64 p2), (3, .func (.func 74) [] []), (8, .int .i64 x2), (9, .int .i64 x5), (21, .bool true), (32, .int .i64 x10)] H (fun fr => by kernel_rfl) (fun fr => Steps.call (by kernel_rfl) hr) ?_
            intro fr t H
            refine at_seg [(15, []), (16, [])] [(0, rowV rp0 x4.length), (1, .int .i64 p1), (2, .int .i64 p2), (3, .func (.func 74) [] []), (8, .int .i64 x2), (9, .int .i64 x5), (34, .bool (decide (x10 < (0 : Int))))] H (noU_all rfl) (fun fr => by kernel_rfl) ?_
            intro fr H
            have e1 := Option.some.inj hm
            subst e1
            exact at_nil ⟨H.less _ (fun fr => by kernel_rfl), A⟩
          · replace H := H.know 21 hb (by kernel_rfl)
            refine at_seg [(4, []), (5, []), (6, []), (7, []), (8, []), (9, []), (10, []), (11, []), (12, []), (13, []), (14, []), (15, []), (16, [])] [(0, rowV rp0 x4.length), (1, .int .i64 p1), (2, .int .i64 p2), (3, .func (.func 74) [] []), (8, .int .i64 x2), (9, .int .i64 x5), (34, .bool false)] H (noU_all rfl) (fun fr => by kernel_rfl) ?_
            intro fr H
            have e1 := Option.some.inj hm
            subst e1
            exact at_nil ⟨H.less _ (fun fr => by kernel_rfl), A⟩
        · clear A
          intro t fr h3 hK
          obtain ⟨H, A⟩ := hK
          refine at_nil ?_
          show AW cfg 98 g (right (left (left (left (right (left (left (right (left (left (right (bodyC cfg.P 98)))))))))))) fr h3 _
          rcases iteB_some hm with ⟨hb, hm⟩ | ⟨hb, hm⟩
          · replace H := H.know 34 hb (by kernel_rfl)
            refine aw_true (x := .tmp 34) (by kernel_rfl) H (fun fr => by kernel_rfl) ?_
            refine aw_skip (by kernel_rfl) ?_
            show AW cfg 98 g (right (left (left (right (left (left (right (left (left (right (bodyC cfg.P 98))))))))))) fr h3 _
            refine aw_seq (by kernel_rfl) ?_
            refine aw_block (id := 3) (by kernel_rfl) ?_
            refine aw_draw (id := 6) (n := 18) (by kernel_rfl) [(0, []), (1, []), (2, []), (3, []), (4, []), (5, []), (6, []), (7, []), (8, []), (9, []), (10, []), (11, []), (12, []), (13, []), (14, []), (15, []), (16, []), (17, [])] (by kernel_rfl) ?_
            refine at_seg [(0, []), (1, []), (2, []), (3, []), (4, []), (5, []), (6, []), (7, [])] [(0, rowV rp0 x4.length), (1, .int .i64 p1), (2, .int .i64 p2), (3, .func (.func 74) [] []), (8, .int .i64 x2), (9, .int .i64 x5), (37, rowV rp0 x4.length), (38, .int .i64 x5), (39, rowV rp0 x4.length), (41, .int .i64 (IntKind.i64.wrap (x5 - (1 : Int)))), (42, rowV rp0 x4.length), (44, .int .i64 (IntKind.i64.wrap (x5 - (1 : Int))))] H (noU_all rfl) (fun fr => by kernel_rfl) ?_
            intro fr H
            obtain ⟨x11, hx, hm⟩ := bind_some hm
            obtain ⟨i3, er3, _, hx, hq3⟩ := HH.ixO enc_S_api_Member (by decide) A 0 (xs := x4) rfl hx
            refine at_step (v := .ptr (some (i3, (IntKind.i64.wrap (x5 - (1 : Int))).toNat * 14))) (h1 := h3) [(0, rowV rp0 x4.length), (1, .int .i64 p1), (2, .int .i64 p2), (3, .func (.func 74) [] []), (8, .int .i64 x2), (9, .int .i64 x5), (37, rowV rp0 x4.length), (38, .int .i64 x5), (39, rowV rp0 x4.length), (41, .int .i64 (IntKind.i64.wrap (x5 - (1 : Int)))), (45, .ptr (some (i3, (IntKind.i64.wrap (x5 - (1 : Int))).toNat * 14)))] H (fun fr => by kernel_rfl) (fun fr => .of (s_ixL (s := rowS rp0 x4.length) (by kernel_rfl) hx)) ?_
            intro fr t H
            refine at_step (v := .agg (e_S_api_Member x11)) (h1 := h3) [(0, rowV rp0 x4.length), (1, .int .i64 p1), (2, .int .i64 p2), (3, .func (.func 74) [] []), (8, .int .i64 x2), (9, .int .i64 x5), (37, rowV rp0 x4.length), (38, .int .i64 x5), (39, rowV rp0 x4.length), (41, .int .i64 (IntKind.i64.wrap (x5 - (1 : Int)))), (46, .agg (e_S_api_Member x11))] H (fun fr => by kernel_rfl) (fun fr => .of (s_ldA (by kernel_rfl) (row_ldA enc_S_api_Member (HH.row A 0 rfl er3) hq3 0 14 (Nat.le_of_ble_eq_true rfl)))) ?_
            intro fr t H
            refine at_seg [(10, []), (11, [])] [(0, rowV rp0 x4.length), (1, .int .i64 p1), (2, .int .i64 p2), (3, .func (.func 74) [] []), (8, .int .i64 x2), (9, .int .i64 x5), (37, rowV rp0 x4.length), (38, .int .i64 x5), (39, rowV rp0 x4.length), (41, .int .i64 (IntKind.i64.wrap (x5 - (1 : Int)))), (46, .agg (e_S_api_Member x11)), (47, rowV rp0 x4.length), (48, .int .i64 x5)] H (noU_all rfl) (fun fr => by kernel_rfl) ?_
            intro fr H
            obtain ⟨x12, hx, hm⟩ := bind_some hm
            obtain ⟨i4, er4, _, hx, hq4⟩ := HH.ixO enc_S_api_Member (by decide) A 0 (xs := x4) rfl hx
            refine at_step (v := .ptr (some (i4, x5.toNat * 14))) (h1 := h3) [(0, rowV rp0 x4.length), (1, .int .i64 p1), (2, .int .i64 p2), (3, .func (.func 74) [] []), (8, .int .i64 x2), (9, .int .i64 x5), (37, rowV rp0 x4.length), (38, .int .i64 x5), (39, rowV rp0 x4.length), (41, .int .i64 (IntKind.i64.wrap (x5 - (1 : Int)))), (46, .agg (e_S_api_Member x11)), (49, .ptr (some (i4, x5.toNat * 14)))] H (fun fr => by kernel_rfl) (fun fr => .of (s_ixL (s := rowS rp0 x4.length) (by kernel_rfl) hx)) ?_
            intro fr t H
            refine at_step (v := .agg (e_S_api_Member x12)) (h1 := h3) [(0, rowV rp0 x4.length), (1, .int .i64 p1), (2, .int .i64 p2), (3, .func (.func 74) [] []), (8, .int .i64 x2), (9, .int .i64 x5), (37, rowV rp0 x4.length), (38, .int .i64 x5), (39, rowV rp0 x4.length), (41, .int .i64 (IntKind.i64.wrap (x5 - (1 : Int)))), (46, .agg (e_S_api_Member x11)), (50, .agg (e_S_api_Member x12))] H (fun fr => by kernel_rfl) (fun fr => .of (s_ldA (by kernel_rfl) (row_ldA enc_S_api_Member (HH.row A 0 rfl er4) hq4 0 14 (Nat.le_of_ble_eq_true rfl)))) ?_
            intro fr t H
            obtain ⟨x13, hx, hm⟩ := bind_some hm
            obtain ⟨i5, er5, _, hx, hq5⟩ := HH.ixO enc_S_api_Member (by decide) A 0 (xs := x4) rfl hx
            refine at_step (v := .ptr (some (i5, x5.toNat * 14))) (h1 := h3) [(0, rowV rp0 x4.length), (1, .int .i64 p1), (2, .int .i64 p2), (3, .func (.func 74) [] []), (8, .int .i64 x2), (9, .int .i64 x5), (39, rowV rp0 x4.length), (41, .int .i64 (IntKind.i64.wrap (x5 - (1 : Int)))), (46, .agg (e_S_api_Member x11)), (50, .agg (e_S_api_Member x12)), (51, .ptr (some (i5, x5.toNat * 14)))] H (fun fr => by kernel_rfl) (fun fr => .of (s_ixL (s := rowS rp0 x4.length) (by kernel_rfl) hx)) ?_
            intro fr t H
            obtain ⟨h5, hx, A1⟩ := HH.stO enc_S_api_Member A 0 rfl er5 hq5 (y := x11) (o := 0) (new := [.str x11.Name, .str x11.Link, .int .u8 x11.Kind, .int .i64 x11.Mode, .int .i64 x11.Uid, .int .i64 x11.Gid, .str x11.Uname, .str x11.Gname, .int .i64 x11.Major, .int .i64 x11.Minor, .int .i64 x11.Time.Sec, .int .i64 x11.Time.Nsec, vs e_S_api_Pair x11.Extra, .str x11.Data]) rfl rfl (Nat.le_of_ble_eq_true rfl)
            have hl5 : (x4.set x5.toNat x11).length = p0.length := List.length_set.trans hl3
            have el : rowV rp0 x4.length = rowV rp0 (x4.set x5.toNat x11).length := congrArg _ List.length_set.symm
            try rw [el] at H
            try rw [el] at A1
            replace A : HH g h5 [.lst rp0 63 (lst e_S_api_Member (x4.set x5.toNat x11))] F := A1
            refine at_step (v := .tuple []) (h1 := h5) [(0, rowV rp0 ((x4.set x5.toNat x11).length)), (1, .int .i64 p1), (2, .int .i64 p2), (3, .func (.func 74) [] []), (8, .int .i64 x2), (9, .int .i64 x5), (39, rowV rp0 ((x4.set x5.toNat x11).length)), (41, .int .i64 (IntKind.i64.wrap (x5 - (1 : Int)))), (50, .agg (e_S_api_Member x12))] H (fun fr => by kernel_rfl) (fun fr => .of (s_stG (by kernel_rfl) (stG_st hx rfl))) ?_
            intro fr t H
            obtain ⟨x14, hx, hm⟩ := bind_some hm
            obtain ⟨i6, er6, _, hx, hq6⟩ := HH.ixO enc_S_api_Member (by decide) A 0 (xs := (x4.set x5.toNat x11)) rfl hx
            refine at_step (v := .ptr (some (i6, (IntKind.i64.wrap (x5 - (1 : Int))).toNat * 14))) (h1 := h5) [(0, rowV rp0 ((x4.set x5.toNat x11).length)), (1, .int .i64 p1), (2, .int .i64 p2), (3, .func (.func 74) [] []), (8, .int .i64 x2), (9, .int .i64 x5), (50, .agg (e_S_api_Member x12)), (52, .ptr (some (i6, (IntKind.i64.wrap (x5 - (1 : Int))).toNat * 14)))] H (fun fr => by kernel_rfl) (fun fr => .of (s_ixL (s := rowS rp0 ((x4.set x5.toNat x11).length)) (by kernel_rfl) hx)) ?_
            intro fr t H
            obtain ⟨h6, hx, A1⟩ := HH.stO enc_S_api_Member A 0 rfl er6 hq6 (y := x12) (o := 0) (new := [.str x12.Name, .str x12.Link, .int .u8 x12.Kind, .int .i64 x12.Mode, .int .i64 x12.Uid, .int .i64 x12.Gid, .str x12.Uname, .str x12.Gname, .int .i64 x12.Major, .int .i64 x12.Minor, .int .i64 x12.Time.Sec, .int .i64 x12.Time.Nsec, vs e_S_api_Pair x12.Extra, .str x12.Data]) rfl rfl (Nat.le_of_ble_eq_true rfl)
            have hl6 : ((x4.set x5.toNat x11).set (IntKind.i64.wrap (x5 - (1 : Int))).toNat x12).length = p0.length := List.length_set.trans hl5
            have el : rowV rp0 (x4.set x5.toNat x11).length = rowV rp0 ((x4.set x5.toNat x11).set (IntKind.i64.wrap (x5 - (1 : Int))).toNat x12).length := congrArg _ List.length_set.symm
            try rw [el] at H
            try rw [el] at A1
            replace A : HH g h6 [.lst rp0 63 (lst e_S_api_Member ((x4.set x5.toNat x11).set (IntKind.i64.wrap (x5 - (1 : Int))).toNat x12))] F := A1
            refine at_step (v := .tuple []) (h1 := h6) [(0, rowV rp0 (((x4.set x5.toNat x11).set (IntKind.i64.wrap (x5 - (1 : Int))).toNat x12).length)), (1, .int .i64 p1), (2, .int .i64 p2), (3, .func (.func 74) [] []), (8, .int .i64 x2), (9, .int .i64 x5)] H (fun fr => by kernel_rfl) (fun fr => .of (s_stG (by kernel_rfl) (stG_st hx rfl))) ?_
            intro fr t H
            refine at_nil ?_
            show AW cfg 98 g (right (right (left (left (right (left (left (right (left (left (right (bodyC cfg.P 98)))))))))))) fr h6 _
            refine aw_reg (id := 5) (n := 3) [(0, []), (1, []), (2, [])] (by kernel_rfl) (by kernel_rfl) ?_
            refine at_seg [(0, []), (1, []), (2, [])] [(0, rowV rp0 (((x4.set x5.toNat x11).set (IntKind.i64.wrap (x5 - (1 : Int))).toNat x12).length)), (1, .int .i64 p1), (2, .int .i64 p2), (3, .func (.func 74) [] []), (8, .int .i64 x2), (9, .int .i64 (IntKind.i64.wrap (x5 - (1 : Int))))] H (noU_all rfl) (fun fr => by kernel_rfl) ?_
            intro fr H
            refine at_nil ?_
            exact Exists.intro (((x4.set x5.toNat x11).set (IntKind.i64.wrap (x5 - (1 : Int))).toNat x12), IntKind.i64.wrap (x5 - (1 : Int))) (And.intro (Option.some.inj hm).symm ⟨((x4.set x5.toNat x11).set (IntKind.i64.wrap (x5 - (1 : Int))).toNat x12), IntKind.i64.wrap (x5 - (1 : Int)), rfl, hl6, H.less _ (fun fr => by kernel_rfl), A⟩)
          · replace H := H.know 34 hb (by kernel_rfl)
            refine aw_false (x := .tmp 34) (by kernel_rfl) H (fun fr => by kernel_rfl) ?_
            refine aw_exit (i := 2) (by kernel_rfl) ?_
            exact Exists.intro _ (And.intro (Option.some.inj hm).symm (fun e => Or.inl ⟨x4, rfl, e, hl3, H.less _ (fun fr => by kernel_rfl), A⟩))
      · clear ho
        clear A
        intro e fr h7 hQ
        rcases hQ with ⟨x6, rfl, rfl, hl4, H, A⟩ | hF
        · skip
          show AW cfg 98 g (right (right (left (left (right (bodyC cfg.P 98)))))) fr h7 _
          refine aw_reg (id := 2) (n := 3) [(0, []), (1, []), (2, [])] (by kernel_rfl) (by kernel_rfl) ?_
          refine at_seg [(0, []), (1, []), (2, [])] [(0, rowV rp0 x6.length), (1, .int .i64 p1), (2, .int .i64 p2), (3, .func (.func 74) [] []), (8, .int .i64 (IntKind.i64.wrap (x2 + (1 : Int))))] H (noU_all rfl) (fun fr => by kernel_rfl) ?_
          intro fr H
          refine at_nil ?_
          exact Exists.intro (x6, IntKind.i64.wrap (x2 + (1 : Int))) (And.intro (Option.some.inj hm).symm ⟨x6, IntKind.i64.wrap (x2 + (1 : Int)), rfl, hl4, H.less _ (fun fr => by kernel_rfl), A⟩)
        · exact hF.elim
    · replace H := H.know 14 hb (by kernel_rfl)
      refine aw_false (x := .tmp 14) (by kernel_rfl) H (fun fr => by kernel_rfl) ?_
      refine aw_exit (i := 0) (by kernel_rfl) ?_
      exact Exists.intro _ (And.intro (Option.some.inj hm).symm (fun e => Or.inl ⟨x1, rfl, e, hl1, H.less _ (fun fr => by kernel_rfl), A⟩))
  · clear ho
    clear A
    intro e fr h8 hQ
    rcases hQ with ⟨x3, rfl, rfl, hl2, H, A⟩ | hF
    · skip
      have e1 := Option.some.inj hm
      subst e1
      refine ⟨.inr rfl, .tuple [], resH H (fun fr => by kernel_rfl), ?_⟩
      exact ⟨hl2, rfl, A⟩
    · exact hF.elim
/-! ### boulter/boulterref06.Same -/
noncomputable def M_boulterref06_Same_L0 (p0 : List S_api_Pair) (p1 : List S_api_Pair) (s : Int) : Option ((Int) ⊕ ((Unit) ⊕ (Bool))) :=
  match s with
  | x1 => iteB (decide (x1 < (p0.length : Int))) ((ixV p0 x1).bind fun x3 => (ixV p1 x1).bind fun x4 => (eqG cfg.P 88 [.str x3.Key, .str x3.Value] [.str x4.Key, .str x4.Value]).bind fun x5 => iteB (!x5) (some (.inr (.inr false))) (some (.inl (IntKind.i64.wrap (x1 + (1 : Int)))))) (some (.inr (.inl ())))
noncomputable def M_boulterref06_Same (p0 : List S_api_Pair) (p1 : List S_api_Pair) : Option (Bool) :=
 iteB ((p0.length : Int) != (p1.length : Int)) (some false) ((loop (M_boulterref06_Same_L0 p0 p1) (0 : Int)).bind fun o1 => (match o1 with | .inl _ => some true | .inr x2 => some x2))
theorem ok_boulterref06_Same {g : Gd} {h : AHeap} {F : List Ck} {p0 : List S_api_Pair} {p1 : List S_api_Pair} {q0 : Bool} {av : List AVal} (hm : M_boulterref06_Same p0 p1 = some q0) (hc : canL (cfg.still 65) av = [vs e_S_api_Pair p0, vs e_S_api_Pair p1]) (A : HH g h [] F) : ∃ v h', Runs cfg g h 65 av v h' ∧ v = .bool q0 ∧ HH g h' [] F := by
  refine runsQ1 (n := 26) (rs := [.tmp 4]) (by kernel_rfl) hc (by kernel_rfl) ?_
  clear hc
  unfold M_boulterref06_Same at hm
  refine start (n := 26) [(0, vs e_S_api_Pair p0), (1, vs e_S_api_Pair p1)] (by kernel_rfl) (by kernel_rfl) ?_
  intro fr H
  refine aw_seq (by kernel_rfl) ?_
  refine aw_reg (id := 0) (n := 1) [(0, [])] (by kernel_rfl) (by kernel_rfl) ?_
  refine at_seg [(0, [])] [(0, vs e_S_api_Pair p0), (1, vs e_S_api_Pair p1)] H (noU_all rfl) (fun fr => by kernel_rfl) ?_
  intro fr H
  refine at_nil ?_
  show AW cfg 65 g (right (bodyC cfg.P 65)) fr h _
  refine aw_seq (by kernel_rfl) ?_
  refine aw_seq (by kernel_rfl) ?_
  refine aw_reg (id := 1) (n := 5) [(0, []), (1, []), (2, []), (3, []), (4, [])] (by kernel_rfl) (by kernel_rfl) ?_
  refine at_seg [(0, []), (1, []), (2, []), (3, []), (4, [])] [(0, vs e_S_api_Pair p0), (1, vs e_S_api_Pair p1), (10, .bool ((p0.length : Int) != (p1.length : Int)))] H (noU_all rfl) (fun fr => by kernel_rfl) ?_
  intro fr H
  refine at_nil ?_
  show AW cfg 65 g (right (left (right (bodyC cfg.P 65)))) fr h _
  rcases iteB_some hm with ⟨hb, hm⟩ | ⟨hb, hm⟩
  · replace H := H.know 10 hb (by kernel_rfl)
    refine aw_true (x := .tmp 10) (by kernel_rfl) H (fun fr => by kernel_rfl) ?_
    refine aw_seq (by kernel_rfl) ?_
    refine aw_reg (id := 2) (n := 1) [(0, [])] (by kernel_rfl) (by kernel_rfl) ?_
    refine at_seg [(0, [])] [(4, .bool false)] H (noU_all rfl) (fun fr => by kernel_rfl) ?_
    intro fr H
    refine at_nil ?_
    show AW cfg 65 g (right (left (right (left (right (bodyC cfg.P 65)))))) fr h _
    refine aw_ret (by kernel_rfl) ?_
    have e1 := Option.some.inj hm
    subst e1
    refine ⟨.inl rfl, .bool false, resH H (fun fr => by kernel_rfl), ?_⟩
    exact ⟨rfl, A⟩
  · replace H := H.know 10 hb (by kernel_rfl)
    refine aw_false (x := .tmp 10) (by kernel_rfl) H (fun fr => by kernel_rfl) ?_
    refine aw_skip (by kernel_rfl) ?_
    show AW cfg 65 g (right (right (bodyC cfg.P 65))) fr h _
    refine aw_seq (by kernel_rfl) ?_
    refine aw_seq (by kernel_rfl) ?_
    refine aw_reg (id := 3) (n := 1) [(0, [])] (by kernel_rfl) (by kernel_rfl) ?_
    refine at_seg [(0, [])] [(0, vs e_S_api_Pair p0), (1, vs e_S_api_Pair p1), (5, .int .i64 (0 : Int))] H (noU_all rfl) (fun fr => by kernel_rfl) ?_
    intro fr H
    refine at_nil ?_
    show AW cfg 65 g (right (left (right (right (bodyC cfg.P 65))))) fr h _
    refine aw_block (id := 0) (by kernel_rfl) ?_
    obtain ⟨o1, ho, hm⟩ := bind_some hm
    refine aw_mono (Q' := fun e fr' h' => (e = .exit 0 ∧ .inl () = o1 ∧ Has fr' 26 [] ∧ HH g h' [] F) ∨ (∃ (x2 : Bool), e = .ret ∧ .inr x2 = o1 ∧ Has fr' 26 [(4, .bool x2)] ∧ HH g h' [] F) ∨ False) ?_ ?_
    · refine aw_loop (by kernel_rfl) (fun (s : Int) fr' h' => ∃ (x1 : Int), x1 = s ∧ Has fr' 26 [(0, vs e_S_api_Pair p0), (1, vs e_S_api_Pair p1), (5, .int .i64 x1)] ∧ HH g h' [] F) ho ⟨(0 : Int), rfl, H.less _ (fun fr => by kernel_rfl), A⟩ ?_
      clear ho hm H A
      intro s q fr h1 hI hm
      obtain ⟨x1, rfl, H, A⟩ := hI
      unfold M_boulterref06_Same_L0 at hm
      refine aw_seq (by kernel_rfl) ?_
      refine aw_seq (by kernel_rfl) ?_
      refine aw_reg (id := 4) (n := 4) [(0, []), (1, []), (2, []), (3, [])] (by kernel_rfl) (by kernel_rfl) ?_
      refine at_seg [(0, []), (1, []), (2, []), (3, [])] [(0, vs e_S_api_Pair p0), (1, vs e_S_api_Pair p1), (5, .int .i64 x1), (14, .bool (decide (x1 < (p0.length : Int))))] H (noU_all rfl) (fun fr => by kernel_rfl) ?_
      intro fr H
      refine at_nil ?_
      show AW cfg 65 g (right (left (left (left (right (left (right (right (bodyC cfg.P 65))))))))) fr h1 _
      rcases iteB_some hm with ⟨hb, hm⟩ | ⟨hb, hm⟩
      · replace H := H.know 14 hb (by kernel_rfl)
        refine aw_true (x := .tmp 14) (by kernel_rfl) H (fun fr => by kernel_rfl) ?_
        refine aw_skip (by kernel_rfl) ?_
        show AW cfg 65 g (right (left (left (right (left (right (right (bodyC cfg.P 65)))))))) fr h1 _
        refine aw_seq (by kernel_rfl) ?_
        refine aw_block (id := 1) (by kernel_rfl) ?_
        refine aw_seq (by kernel_rfl) ?_
        refine aw_draw (id := 6) (n := 9) (by kernel_rfl) [(0, []), (1, []), (2, []), (3, []), (4, []), (5, []), (6, []), (7, []), (8, [])] (by kernel_rfl) ?_
        refine at_seg [(0, []), (1, [])] [(0, vs e_S_api_Pair p0), (1, vs e_S_api_Pair p1), (5, .int .i64 x1), (17, vs e_S_api_Pair p0), (18, .int .i64 x1)] H (noU_all rfl) (fun fr => by kernel_rfl) ?_
        intro fr H
        obtain ⟨x3, hx, hm⟩ := bind_some hm
        refine at_step (v := .vptr [.str x3.Key, .str x3.Value]) (h1 := h1) [(0, vs e_S_api_Pair p0), (1, vs e_S_api_Pair p1), (5, .int .i64 x1), (19, .vptr [.str x3.Key, .str x3.Value])] H (fun fr => by kernel_rfl) (fun fr => .of (s_ixV (e := e_S_api_Pair) (x := x3) enc_S_api_Pair (by decide) (by kernel_rfl) hx)) ?_
        intro fr t H
        refine at_step (v := .agg [.str x3.Key, .str x3.Value]) (h1 := h1) [(0, vs e_S_api_Pair p0), (1, vs e_S_api_Pair p1), (5, .int .i64 x1), (20, .agg [.str x3.Key, .str x3.Value])] H (fun fr => by kernel_rfl) (fun fr => .of (s_lv (by kernel_rfl))) ?_
        intro fr t H
        refine at_seg [(4, []), (5, [])] [(0, vs e_S_api_Pair p0), (1, vs e_S_api_Pair p1), (5, .int .i64 x1), (20, .agg [.str x3.Key, .str x3.Value]), (21, vs e_S_api_Pair p1), (22, .int .i64 x1)] H (noU_all rfl) (fun fr => by kernel_rfl) ?_
        intro fr H
        obtain ⟨x4, hx, hm⟩ := bind_some hm
        refine at_step (v := .vptr [.str x4.Key, .str x4.Value]) (h1 := h1) [(0, vs e_S_api_Pair p0), (1, vs e_S_api_Pair p1), (5, .int .i64 x1), (20, .agg [.str x3.Key, .str x3.Value]), (23, .vptr [.str x4.Key, .str x4.Value])] H (fun fr => by kernel_rfl) (fun fr => .of (s_ixV (e := e_S_api_Pair) (x := x4) enc_S_api_Pair (by decide) (by kernel_rfl) hx)) ?_
        intro fr t H
        refine at_step (v := .agg [.str x4.Key, .str x4.Value]) (h1 := h1) [(0, vs e_S_api_Pair p0), (1, vs e_S_api_Pair p1), (5, .int .i64 x1), (20, .agg [.str x3.Key, .str x3.Value]), (24, .agg [.str x4.Key, .str x4.Value])] H (fun fr => by kernel_rfl) (fun fr => .of (s_lv (by kernel_rfl))) ?_
        intro fr t H
        obtain ⟨x5, hx, hm⟩ := bind_some hm
        refine at_step (v := .bool (!x5)) (h1 := h1) [(0, vs e_S_api_Pair p0), (1, vs e_S_api_Pair p1), (5, .int .i64 x1), (25, .bool (!x5))] H (fun fr => by kernel_rfl) (fun fr => .of (s_neG (by kernel_rfl) hx)) ?_
        intro fr t H
        refine at_nil ?_
        show AW cfg 65 g (right (left (left (right (left (left (right (left (right (right (bodyC cfg.P 65))))))))))) fr h1 _
        rcases iteB_some hm with ⟨hb, hm⟩ | ⟨hb, hm⟩
        · replace H := H.know 25 hb (by kernel_rfl)
          refine aw_true (x := .tmp 25) (by kernel_rfl) H (fun fr => by kernel_rfl) ?_
          refine aw_seq (by kernel_rfl) ?_
          refine aw_reg (id := 7) (n := 1) [(0, [])] (by kernel_rfl) (by kernel_rfl) ?_
          refine at_seg [(0, [])] [(4, .bool false)] H (noU_all rfl) (fun fr => by kernel_rfl) ?_
          intro fr H
          refine at_nil ?_
          show AW cfg 65 g (right (left (right (left (left (right (left (left (right (left (right (right (bodyC cfg.P 65))))))))))))) fr h1 _
          refine aw_ret (by kernel_rfl) ?_
          exact Exists.intro _ (And.intro (Option.some.inj hm).symm (fun e => Or.inr (Or.inl ⟨false, rfl, e, H.less _ (fun fr => by kernel_rfl), A⟩)))
        · replace H := H.know 25 hb (by kernel_rfl)
          refine aw_false (x := .tmp 25) (by kernel_rfl) H (fun fr => by kernel_rfl) ?_
          refine aw_skip (by kernel_rfl) ?_
          show AW cfg 65 g (right (right (left (left (right (left (right (right (bodyC cfg.P 65))))))))) fr h1 _
          refine aw_reg (id := 5) (n := 3) [(0, []), (1, []), (2, [])] (by kernel_rfl) (by kernel_rfl) ?_
          refine at_seg [(0, []), (1, []), (2, [])] [(0, vs e_S_api_Pair p0), (1, vs e_S_api_Pair p1), (5, .int .i64 (IntKind.i64.wrap (x1 + (1 : Int))))] H (noU_all rfl) (fun fr => by kernel_rfl) ?_
          intro fr H
          refine at_nil ?_
          exact Exists.intro (IntKind.i64.wrap (x1 + (1 : Int))) (And.intro (Option.some.inj hm).symm ⟨IntKind.i64.wrap (x1 + (1 : Int)), rfl, H.less _ (fun fr => by kernel_rfl), A⟩)
      · replace H := H.know 14 hb (by kernel_rfl)
        refine aw_false (x := .tmp 14) (by kernel_rfl) H (fun fr => by kernel_rfl) ?_
        refine aw_exit (i := 0) (by kernel_rfl) ?_
        exact Exists.intro _ (And.intro (Option.some.inj hm).symm (fun e => Or.inl ⟨rfl, e, H.less _ (fun fr => by kernel_rfl), A⟩))
    · clear ho
      clear A
      intro e fr h2 hQ
      rcases hQ with ⟨rfl, rfl, H, A⟩ | ⟨x2, rfl, rfl, H, A⟩ | hF
      · skip
        show AW cfg 65 g (right (right (right (bodyC cfg.P 65)))) fr h2 _
        refine aw_seq (by kernel_rfl) ?_
        refine aw_reg (id := 8) (n := 1) [(0, [])] (by kernel_rfl) (by kernel_rfl) ?_
        refine at_seg [(0, [])] [(4, .bool true)] H (noU_all rfl) (fun fr => by kernel_rfl) ?_
        intro fr H
        refine at_nil ?_
        show AW cfg 65 g (right (right (right (right (bodyC cfg.P 65))))) fr h2 _
        refine aw_ret (by kernel_rfl) ?_
        have e1 := Option.some.inj hm
        subst e1
        refine ⟨.inl rfl, .bool true, resH H (fun fr => by kernel_rfl), ?_⟩
        exact ⟨rfl, A⟩
      · skip
        have e1 := Option.some.inj hm
        subst e1
        refine ⟨.inl rfl, .bool x2, resH H (fun fr => by kernel_rfl), ?_⟩
        exact ⟨rfl, A⟩
      · exact hF.elim
end Go.Av.L
