/-
  Models of functions, and that the abstract run tells them. Written by lift2.py.
-/
import Derived.Test.YtcmfogjpkkodbaaKCfg
import Derived.Test.YtcmfogjpkkodbaaK0
import Derived.Test.YtcmfogjpkkodbaaK1
import Derived.Test.YtcmfogjpkkodbaaK2
namespace Go.Av.L
open Go.Av Go.Lib
set_option maxRecDepth 10000
set_option linter.unusedVariables false
set_option linter.unusedSimpArgs false
/-! ### boulter/boulterref38.Of -/
noncomputable def M_boulterref38_Of_L0 (x1 : List S_api_Member) (x2 : List S_api_Member) (s : Int × (List (List UInt8)) × (List (List UInt8))) : Option ((Int × (List (List UInt8)) × (List (List UInt8))) ⊕ (((List (List UInt8)) × (List (List UInt8))))) :=
  match s with
  | (x3, x4, x5) => iteB (decide (x3 < (x2.length : Int))) (((ixV x2 x3).bind fun x10 => (M_boulterref12_Find_sOS x1 x10.Name).bind fun x11 => iteB (decide (x11 < (0 : Int))) ((ixV x2 x3).bind fun x12 => (M_boulterref38_put_sOS x4 x12.Name).bind fun x13 => some (x13, x5)) ((ixV x1 x11).bind fun x14 => (ixV x2 x3).bind fun x15 => (M_boulterref07_Same x14 x15).bind fun x16 => iteB (!x16) ((ixV x2 x3).bind fun x17 => (M_boulterref38_put_sOS x5 x17.Name).bind fun x18 => some (x4, x18)) (some (x4, x5))) : Option (((List (List UInt8)) × (List (List UInt8))))).bind fun (x8, x9) => some (.inl (IntKind.i64.wrap (x3 + (1 : Int)), x8, x9))) (some (.inr (x4, x5)))
noncomputable def M_boulterref38_Of_L1 (x1 : List S_api_Member) (x2 : List S_api_Member) (s : Int × (List (List UInt8))) : Option ((Int × (List (List UInt8))) ⊕ (((List (List UInt8))))) :=
  match s with
  | (x19, x20) => iteB (decide (x19 < (x1.length : Int))) (((ixV x1 x19).bind fun x23 => (M_boulterref12_Find_sOS x2 x23.Name).bind fun x24 => iteB (decide (x24 < (0 : Int))) ((ixV x1 x19).bind fun x25 => (M_boulterref38_put_sOS x20 x25.Name).bind fun x26 => some x26) (some x20) : Option (((List (List UInt8))))).bind fun x22 => some (.inl (IntKind.i64.wrap (x19 + (1 : Int)), x22))) (some (.inr x20))
noncomputable def M_boulterref38_Of (p0 : List S_api_Member) (p1 : List S_api_Member) : Option (S_boulterref38_Diff) :=
 (M_boulterref38_Last p0).bind fun x1 => (M_boulterref38_Last p1).bind fun x2 => (loop (M_boulterref38_Of_L0 x1 x2) ((0 : Int), ([] : List (List UInt8)), ([] : List (List UInt8)))).bind fun (x6, x7) => (loop (M_boulterref38_Of_L1 x1 x2) ((0 : Int), ([] : List (List UInt8)))).bind fun x21 => some (⟨x6, x21, x7⟩ : S_boulterref38_Diff)
theorem ok_boulterref38_Of {g : Gd} {h : AHeap} {F : List Ck} {p0 : List S_api_Member} {p1 : List S_api_Member} {q0 : S_boulterref38_Diff} {av : List AVal} (hm : M_boulterref38_Of p0 p1 = some q0) (hc : canL (cfg.still 28) av = [vs e_S_api_Member p0, vs e_S_api_Member p1]) (A : HH g h [] F) : ∃ v h', Runs cfg g h 28 av v h' ∧ v = .agg [vs eS q0.Added, vs eS q0.Removed, vs eS q0.Changed] ∧ HH g h' [] F := by
  refine runsQ7 (n := 83) (rs := [.cell 4 45]) (by kernel_rfl) hc (by kernel_rfl) ?_
  clear hc
  unfold M_boulterref38_Of at hm
  refine start (n := 83) [(0, vs e_S_api_Member p0), (1, vs e_S_api_Member p1)] (by kernel_rfl) (by kernel_rfl) ?_
  intro fr H
  refine aw_seq (by kernel_rfl) ?_
  refine aw_reg (id := 0) (n := 1) [(0, [])] (by kernel_rfl) (by kernel_rfl) ?_
  obtain ⟨h1, e1⟩ : ∃ x, x = h.push (.cells none 2 [.slice none 0, .slice none 0, .slice none 0]) := ⟨_, rfl⟩
  replace A := (A.push _).to e1
  refine at_step (v := .ptr (some (h.size, 0))) (h1 := h1) [(0, vs e_S_api_Member p0), (1, vs e_S_api_Member p1), (4, .ptr (some (h.size, 0)))] H (fun fr => by kernel_rfl) (fun fr => .of (s_n' (by kernel_rfl) (congrArg some e1.symm))) ?_
  intro fr t H
  refine at_nil ?_
  show AW cfg 28 g (right (bodyC cfg.P 28)) fr h1 _
  refine aw_seq (by kernel_rfl) ?_
  refine aw_reg (id := 1) (n := 3) [(0, []), (1, []), (2, [])] (by kernel_rfl) (by kernel_rfl) ?_
  refine at_seg [(0, [])] [(0, vs e_S_api_Member p0), (1, vs e_S_api_Member p1), (4, .ptr (some (h.size, 0))), (11, .agg [.slice none 0, .slice none 0, .slice none 0])] H (noU_all rfl) (fun fr => by kernel_rfl) ?_
  intro fr H
  obtain ⟨h2, e2⟩ : ∃ x, x = h1.push (.cells none 2 [.slice none 0, .slice none 0, .slice none 0]) := ⟨_, rfl⟩
  replace A := (A.push _).to e2
  refine at_step (v := .ptr (some (h1.size, 0))) (h1 := h2) [(0, vs e_S_api_Member p0), (1, vs e_S_api_Member p1), (4, .ptr (some (h.size, 0))), (5, .ptr (some (h1.size, 0))), (11, .agg [.slice none 0, .slice none 0, .slice none 0])] H (fun fr => by kernel_rfl) (fun fr => .of (s_n' (by kernel_rfl) (congrArg some e2.symm))) ?_
  intro fr t H
  obtain ⟨h3, hx, A1⟩ := A.st 0 rfl (o := 0) (new := [.slice none 0, .slice none 0, .slice none 0]) (ds := [.slice none 0, .slice none 0, .slice none 0]) (Nat.le_of_ble_eq_true rfl) rfl rfl
  replace A : HH g h3 [.obj h1.size (.cells none 2 [.slice none 0, .slice none 0, .slice none 0]), .obj h.size (.cells none 2 [.slice none 0, .slice none 0, .slice none 0])] F := A1
  refine at_step (v := .tuple []) (h1 := h3) [(0, vs e_S_api_Member p0), (1, vs e_S_api_Member p1), (4, .ptr (some (h.size, 0))), (5, .ptr (some (h1.size, 0)))] H (fun fr => by kernel_rfl) (fun fr => .of (s_stG (by kernel_rfl) (stG_st hx rfl))) ?_
  intro fr t H
  refine at_nil ?_
  show AW cfg 28 g (right (right (bodyC cfg.P 28))) fr h3 _
  refine aw_seq (by kernel_rfl) ?_
  refine aw_reg (id := 2) (n := 6) [(0, []), (1, []), (2, []), (3, []), (4, []), (5, [])] (by kernel_rfl) (by kernel_rfl) ?_
  refine at_seg [(0, [])] [(1, vs e_S_api_Member p1), (4, .ptr (some (h.size, 0))), (5, .ptr (some (h1.size, 0))), (12, vs e_S_api_Member p0)] H (noU_all rfl) (fun fr => by kernel_rfl) ?_
  intro fr H
  have A1 := A.cut 0
  obtain ⟨x1, hx, hm⟩ := bind_some hm
  obtain ⟨v1, h4, hr, rqw1, rfl, A1⟩ := ok_boulterref38_Last (av := [vs e_S_api_Member p0]) hx (by kernel_rfl) A1
  replace A : HH g h4 [.lst rqw1 63 (lst e_S_api_Member x1), .obj h1.size (.cells none 2 [.slice none 0, .slice none 0, .slice none 0]), .obj h.size (.cells none 2 [.slice none 0, .slice none 0, .slice none 0])] F := A.glue0 (n := 0) A1
  refine at_step (v := rowV rqw1 x1.length) (h1 := h4) [(1, vs e_S_api_Member p1), (4, .ptr (some (h.size, 0))), (5, .ptr (some (h1.size, 0))), (13, rowV rqw1 x1.length)] H (fun fr => by kernel_rfl) (fun fr => Steps.call (by kernel_rfl) hr) ?_
  intro fr t H
  refine at_seg [(2, [])] [(4, .ptr (some (h.size, 0))), (5, .ptr (some (h1.size, 0))), (13, rowV rqw1 x1.length), (14, vs e_S_api_Member p1)] H (noU_all rfl) (fun fr => by kernel_rfl) ?_
  intro fr H
  have A1 := A.cut 0
  obtain ⟨x2, hx, hm⟩ := bind_some hm
  obtain ⟨v1, h5, hr, rqw2, rfl, A1⟩ := ok_boulterref38_Last (av := [vs e_S_api_Member p1]) hx (by kernel_rfl) A1
  replace A : HH g h5 [.lst rqw2 63 (lst e_S_api_Member x2), .lst rqw1 63 (lst e_S_api_Member x1), .obj h1.size (.cells none 2 [.slice none 0, .slice none 0, .slice none 0]), .obj h.size (.cells none 2 [.slice none 0, .slice none 0, .slice none 0])] F := A.glue0 (n := 0) A1
  refine at_step (v := rowV rqw2 x2.length) (h1 := h5) [(4, .ptr (some (h.size, 0))), (5, .ptr (some (h1.size, 0))), (13, rowV rqw1 x1.length), (15, rowV rqw2 x2.length)] H (fun fr => by kernel_rfl) (fun fr => Steps.call (by kernel_rfl) hr) ?_
  intro fr t H
  refine at_seg [(4, []), (5, [])] [(4, .ptr (some (h.size, 0))), (5, .ptr (some (h1.size, 0))), (6, rowV rqw1 x1.length), (7, rowV rqw2 x2.length)] H (noU_all rfl) (fun fr => by kernel_rfl) ?_
  intro fr H
  refine at_nil ?_
  show AW cfg 28 g (right (right (right (bodyC cfg.P 28)))) fr h5 _
  refine aw_seq (by kernel_rfl) ?_
  refine aw_seq (by kernel_rfl) ?_
  refine aw_reg (id := 3) (n := 1) [(0, [])] (by kernel_rfl) (by kernel_rfl) ?_
  refine at_seg [(0, [])] [(4, .ptr (some (h.size, 0))), (5, .ptr (some (h1.size, 0))), (6, rowV rqw1 x1.length), (7, rowV rqw2 x2.length), (8, .int .i64 (0 : Int))] H (noU_all rfl) (fun fr => by kernel_rfl) ?_
  intro fr H
  refine at_nil ?_
  show AW cfg 28 g (right (left (right (right (right (bodyC cfg.P 28)))))) fr h5 _
  refine aw_block (id := 0) (by kernel_rfl) ?_
  replace A : HH g h5 [.lst none 9 (lst eS ([] : List (List UInt8))), .lst rqw2 63 (lst e_S_api_Member x2), .lst rqw1 63 (lst e_S_api_Member x1), .obj h1.size (.cells none 2 [.slice none 0, .slice none 0, .slice none 0]), .obj h.size (.cells none 2 [.slice none 0, .slice none 0, .slice none 0])] F := A.nilL 9
  replace A : HH g h5 [.lst none 9 (lst eS ([] : List (List UInt8))), .lst none 9 (lst eS ([] : List (List UInt8))), .lst rqw2 63 (lst e_S_api_Member x2), .lst rqw1 63 (lst e_S_api_Member x1), .obj h1.size (.cells none 2 [rowV none (([] : List (List UInt8)).length), .slice none 0, .slice none 0]), .obj h.size (.cells none 2 [.slice none 0, .slice none 0, .slice none 0])] F := A.nilL 9
  replace A : HH g h5 [.lst none 9 (lst eS ([] : List (List UInt8))), .lst none 9 (lst eS ([] : List (List UInt8))), .lst none 9 (lst eS ([] : List (List UInt8))), .lst rqw2 63 (lst e_S_api_Member x2), .lst rqw1 63 (lst e_S_api_Member x1), .obj h1.size (.cells none 2 [.slice none 0, .slice none 0, rowV none (([] : List (List UInt8)).length)]), .obj h.size (.cells none 2 [.slice none 0, .slice none 0, .slice none 0])] F := A.nilL 9
  replace A : HH g h5 [.lst none 9 (lst eS ([] : List (List UInt8))), .lst none 9 (lst eS ([] : List (List UInt8))), .lst rqw2 63 (lst e_S_api_Member x2), .lst rqw1 63 (lst e_S_api_Member x1), .obj h1.size (.cells none 2 [rowV none (([] : List (List UInt8)).length), .slice none 0, rowV none (([] : List (List UInt8)).length)]), .obj h.size (.cells none 2 [.slice none 0, .slice none 0, .slice none 0])] F := (HH.dropF ((((((A.front 6 rfl).front 6 rfl).front 6 rfl).front 6 rfl).front 4 rfl).front 5 rfl) 6)
  obtain ⟨o1, ho, hm⟩ := bind_some hm
  refine aw_mono (Q' := fun e fr' h' => (∃ (x6 : List (List UInt8)) (x7 : List (List UInt8)), e = .exit 0 ∧ (x6, x7) = o1 ∧ ∃ (r3 : Option Nat) (r4 : Option Nat), Has fr' 83 [(4, .ptr (some (h.size, 0))), (5, .ptr (some (h1.size, 0))), (6, rowV rqw1 x1.length), (7, rowV rqw2 x2.length)] ∧ HH g h' [.lst r4 9 (lst eS x7), .lst r3 9 (lst eS x6), .lst rqw2 63 (lst e_S_api_Member x2), .lst rqw1 63 (lst e_S_api_Member x1), .obj h1.size (.cells none 2 [rowV r3 x6.length, .slice none 0, rowV r4 x7.length]), .obj h.size (.cells none 2 [.slice none 0, .slice none 0, .slice none 0])] F) ∨ False) ?_ ?_
  · refine aw_loop (by kernel_rfl) (fun (s : Int × (List (List UInt8)) × (List (List UInt8))) fr' h' => ∃ (x3 : Int) (x4 : List (List UInt8)) (x5 : List (List UInt8)), (x3, x4, x5) = s ∧ ∃ (r1 : Option Nat) (r2 : Option Nat), Has fr' 83 [(4, .ptr (some (h.size, 0))), (5, .ptr (some (h1.size, 0))), (6, rowV rqw1 x1.length), (7, rowV rqw2 x2.length), (8, .int .i64 x3)] ∧ HH g h' [.lst r2 9 (lst eS x5), .lst r1 9 (lst eS x4), .lst rqw2 63 (lst e_S_api_Member x2), .lst rqw1 63 (lst e_S_api_Member x1), .obj h1.size (.cells none 2 [rowV r1 x4.length, .slice none 0, rowV r2 x5.length]), .obj h.size (.cells none 2 [.slice none 0, .slice none 0, .slice none 0])] F) ho ⟨(0 : Int), ([] : List (List UInt8)), ([] : List (List UInt8)), rfl, none, none, H.less _ (fun fr => by kernel_rfl), A⟩ ?_
    clear ho hm H A
    intro s q fr h6 hI hm
    obtain ⟨x3, x4, x5, rfl, r1, r2, H, A⟩ := hI
    unfold M_boulterref38_Of_L0 at hm
    refine aw_seq (by kernel_rfl) ?_
    refine aw_seq (by kernel_rfl) ?_
    refine aw_reg (id := 4) (n := 4) [(0, []), (1, []), (2, []), (3, [])] (by kernel_rfl) (by kernel_rfl) ?_
    refine at_seg [(0, []), (1, []), (2, []), (3, [])] [(4, .ptr (some (h.size, 0))), (5, .ptr (some (h1.size, 0))), (6, rowV rqw1 x1.length), (7, rowV rqw2 x2.length), (8, .int .i64 x3), (19, .bool (decide (x3 < (x2.length : Int))))] H (noU_all rfl) (fun fr => by kernel_rfl) ?_
    intro fr H
    refine at_nil ?_
    show AW cfg 28 g (right (left (left (left (right (left (right (right (right (bodyC cfg.P 28)))))))))) fr h6 _
    rcases iteB_some hm with ⟨hb, hm⟩ | ⟨hb, hm⟩
    · replace H := H.know 19 hb (by kernel_rfl)
      refine aw_true (x := .tmp 19) (by kernel_rfl) H (fun fr => by kernel_rfl) ?_
      refine aw_skip (by kernel_rfl) ?_
      show AW cfg 28 g (right (left (left (right (left (right (right (right (bodyC cfg.P 28))))))))) fr h6 _
      refine aw_seq (by kernel_rfl) ?_
      obtain ⟨o2, ho, hm⟩ := bind_some hm
      refine aw_mono (Q' := fun e fr' h' => (∃ (x8 : List (List UInt8)) (x9 : List (List UInt8)), e = .normal ∧ (x8, x9) = o2 ∧ ∃ (r5 : Option Nat) (r6 : Option Nat), Has fr' 83 [(4, .ptr (some (h.size, 0))), (5, .ptr (some (h1.size, 0))), (6, rowV rqw1 x1.length), (7, rowV rqw2 x2.length), (8, .int .i64 x3)] ∧ HH g h' [.lst r6 9 (lst eS x9), .lst r5 9 (lst eS x8), .lst rqw2 63 (lst e_S_api_Member x2), .lst rqw1 63 (lst e_S_api_Member x1), .obj h1.size (.cells none 2 [rowV r5 x8.length, .slice none 0, rowV r6 x9.length]), .obj h.size (.cells none 2 [.slice none 0, .slice none 0, .slice none 0])] F) ∨ False) ?_ ?_
      · replace hm := ho
        clear ho
        refine aw_block (id := 1) (by kernel_rfl) ?_
        refine aw_seq (by kernel_rfl) ?_
        refine aw_reg (id := 6) (n := 8) [(0, []), (1, []), (2, []), (3, []), (4, []), (5, []), (6, []), (7, [])] (by kernel_rfl) (by kernel_rfl) ?_
        refine at_seg [(0, []), (1, []), (2, [])] [(4, .ptr (some (h.size, 0))), (5, .ptr (some (h1.size, 0))), (6, rowV rqw1 x1.length), (7, rowV rqw2 x2.length), (8, .int .i64 x3), (22, rowV rqw1 x1.length), (23, rowV rqw2 x2.length), (24, .int .i64 x3)] H (noU_all rfl) (fun fr => by kernel_rfl) ?_
        intro fr H
        obtain ⟨x10, hx, hm⟩ := bind_some hm
        obtain ⟨i1, er1, _, hx, hq1⟩ := HH.ixO enc_S_api_Member (by decide) A 2 (xs := x2) rfl hx
        refine at_step (v := .ptr (some (i1, x3.toNat * 14))) (h1 := h6) [(4, .ptr (some (h.size, 0))), (5, .ptr (some (h1.size, 0))), (6, rowV rqw1 x1.length), (7, rowV rqw2 x2.length), (8, .int .i64 x3), (22, rowV rqw1 x1.length), (25, .ptr (some (i1, x3.toNat * 14)))] H (fun fr => by kernel_rfl) (fun fr => .of (s_ixL (s := rowS rqw2 x2.length) (by kernel_rfl) hx)) ?_
        intro fr t H
        refine at_seg [(4, [])] [(4, .ptr (some (h.size, 0))), (5, .ptr (some (h1.size, 0))), (6, rowV rqw1 x1.length), (7, rowV rqw2 x2.length), (8, .int .i64 x3), (22, rowV rqw1 x1.length), (26, .ptr (some (i1, x3.toNat * 14)))] H (noU_all rfl) (fun fr => by kernel_rfl) ?_
        intro fr H
        refine at_step (v := .str x10.Name) (h1 := h6) [(4, .ptr (some (h.size, 0))), (5, .ptr (some (h1.size, 0))), (6, rowV rqw1 x1.length), (7, rowV rqw2 x2.length), (8, .int .i64 x3), (22, rowV rqw1 x1.length), (27, .str x10.Name)] H (fun fr => by kernel_rfl) (fun fr => .of (s_ld (by kernel_rfl) (row_ld1 enc_S_api_Member (HH.row A 2 rfl er1) hq1 (o := 0) rfl))) ?_
        intro fr t H
        replace A : HH g h6 [.lst rqw1 63 (lst e_S_api_Member x1), .lst r2 9 (lst eS x5), .lst r1 9 (lst eS x4), .lst rqw2 63 (lst e_S_api_Member x2), .obj h1.size (.cells none 2 [rowV r1 x4.length, .slice none 0, rowV r2 x5.length]), .obj h.size (.cells none 2 [.slice none 0, .slice none 0, .slice none 0])] F := (A.front 3 rfl)
        have A1 := A.cut 1
        obtain ⟨x11, hx, hm⟩ := bind_some hm
        obtain ⟨v1, h7, hr, rfl, A1⟩ := ok_boulterref12_Find_sOS (av := [rowV rqw1 x1.length, .str x10.Name]) hx (by kernel_rfl) A1
        replace A : HH g h7 [.lst rqw1 63 (lst e_S_api_Member x1), .lst r2 9 (lst eS x5), .lst r1 9 (lst eS x4), .lst rqw2 63 (lst e_S_api_Member x2), .obj h1.size (.cells none 2 [rowV r1 x4.length, .slice none 0, rowV r2 x5.length]), .obj h.size (.cells none 2 [.slice none 0, .slice none 0, .slice none 0])] F := A.glue0 (n := 1) A1
        refine at_step (v := .int .i64 x11) (h1 := h7) [(4, .ptr (some (h.size, 0))), (5, .ptr (some (h1.size, 0))), (6, rowV rqw1 x1.length), (7, rowV rqw2 x2.length), (8, .int .i64 x3), (28, .int .i64 x11)] H (fun fr => by kernel_rfl) (fun fr => Steps.call (by kernel_rfl) hr) ?_
        intro fr t H
        refine at_seg [(7, [])] [(4, .ptr (some (h.size, 0))), (5, .ptr (some (h1.size, 0))), (6, rowV rqw1 x1.length), (7, rowV rqw2 x2.length), (8, .int .i64 x3), (9, .int .i64 x11)] H (noU_all rfl) (fun fr => by kernel_rfl) ?_
        intro fr H
        refine at_nil ?_
        show AW cfg 28 g (right (left (left (right (left (left (right (left (right (right (right (bodyC cfg.P 28)))))))))))) fr h7 _
        refine aw_seq (by kernel_rfl) ?_
        refine aw_reg (id := 7) (n := 2) [(0, []), (1, [])] (by kernel_rfl) (by kernel_rfl) ?_
        refine at_seg [(0, []), (1, [])] [(4, .ptr (some (h.size, 0))), (5, .ptr (some (h1.size, 0))), (6, rowV rqw1 x1.length), (7, rowV rqw2 x2.length), (8, .int .i64 x3), (9, .int .i64 x11), (30, .bool (decide (x11 < (0 : Int))))] H (noU_all rfl) (fun fr => by kernel_rfl) ?_
        intro fr H
        refine at_nil ?_
        show AW cfg 28 g (right (right (left (left (right (left (left (right (left (right (right (right (bodyC cfg.P 28))))))))))))) fr h7 _
        rcases iteB_some hm with ⟨hb, hm⟩ | ⟨hb, hm⟩
        · replace H := H.know 30 hb (by kernel_rfl)
          refine aw_true (x := .tmp 30) (by kernel_rfl) H (fun fr => by kernel_rfl) ?_
          refine aw_draw (id := 8) (n := 10) (by kernel_rfl) [(0, []), (1, []), (2, []), (3, []), (4, []), (5, []), (6, []), (7, []), (8, []), (9, [])] (by kernel_rfl) ?_
          refine at_seg [(0, [])] [(4, .ptr (some (h.size, 0))), (5, .ptr (some (h1.size, 0))), (6, rowV rqw1 x1.length), (7, rowV rqw2 x2.length), (8, .int .i64 x3), (31, .ptr (some (h1.size, 0)))] H (noU_all rfl) (fun fr => by kernel_rfl) ?_
          intro fr H
          refine at_step (v := rowV r1 x4.length) (h1 := h7) [(4, .ptr (some (h.size, 0))), (5, .ptr (some (h1.size, 0))), (6, rowV rqw1 x1.length), (7, rowV rqw2 x2.length), (8, .int .i64 x3), (32, rowV r1 x4.length)] H (fun fr => by kernel_rfl) (fun fr => .of (s_ld (by kernel_rfl) (A.ld1 4 rfl (o := 0) rfl))) ?_
          intro fr t H
          refine at_seg [(2, []), (3, [])] [(4, .ptr (some (h.size, 0))), (5, .ptr (some (h1.size, 0))), (6, rowV rqw1 x1.length), (7, rowV rqw2 x2.length), (8, .int .i64 x3), (32, rowV r1 x4.length), (33, rowV rqw2 x2.length), (34, .int .i64 x3)] H (noU_all rfl) (fun fr => by kernel_rfl) ?_
          intro fr H
          obtain ⟨x12, hx, hm⟩ := bind_some hm
          obtain ⟨i2, er2, _, hx, hq2⟩ := HH.ixO enc_S_api_Member (by decide) A 3 (xs := x2) rfl hx
          refine at_step (v := .ptr (some (i2, x3.toNat * 14))) (h1 := h7) [(4, .ptr (some (h.size, 0))), (5, .ptr (some (h1.size, 0))), (6, rowV rqw1 x1.length), (7, rowV rqw2 x2.length), (8, .int .i64 x3), (32, rowV r1 x4.length), (35, .ptr (some (i2, x3.toNat * 14)))] H (fun fr => by kernel_rfl) (fun fr => .of (s_ixL (s := rowS rqw2 x2.length) (by kernel_rfl) hx)) ?_
          intro fr t H
          refine at_seg [(5, [])] [(4, .ptr (some (h.size, 0))), (5, .ptr (some (h1.size, 0))), (6, rowV rqw1 x1.length), (7, rowV rqw2 x2.length), (8, .int .i64 x3), (32, rowV r1 x4.length), (36, .ptr (some (i2, x3.toNat * 14)))] H (noU_all rfl) (fun fr => by kernel_rfl) ?_
          intro fr H
          refine at_step (v := .str x12.Name) (h1 := h7) [(4, .ptr (some (h.size, 0))), (5, .ptr (some (h1.size, 0))), (6, rowV rqw1 x1.length), (7, rowV rqw2 x2.length), (8, .int .i64 x3), (32, rowV r1 x4.length), (37, .str x12.Name)] H (fun fr => by kernel_rfl) (fun fr => .of (s_ld (by kernel_rfl) (row_ld1 enc_S_api_Member (HH.row A 3 rfl er2) hq2 (o := 0) rfl))) ?_
          intro fr t H
          replace A : HH g h7 [.lst r1 9 (lst eS x4), .lst rqw1 63 (lst e_S_api_Member x1), .lst r2 9 (lst eS x5), .lst rqw2 63 (lst e_S_api_Member x2), .obj h1.size (.cells none 2 [rowV r1 x4.length, .slice none 0, rowV r2 x5.length]), .obj h.size (.cells none 2 [.slice none 0, .slice none 0, .slice none 0])] F := (A.front 2 rfl)
          have A1 := A.cut 1
          obtain ⟨x13, hx, hm⟩ := bind_some hm
          obtain ⟨v1, h8, hr, rqw4, rfl, A1⟩ := ok_boulterref38_put_sOS (av := [rowV r1 x4.length, .str x12.Name]) hx (by kernel_rfl) A1
          replace A : HH g h8 [.lst rqw4 9 (lst eS x13), .lst r1 9 (lst eS x4), .lst rqw1 63 (lst e_S_api_Member x1), .lst r2 9 (lst eS x5), .lst rqw2 63 (lst e_S_api_Member x2), .obj h1.size (.cells none 2 [rowV r1 x4.length, .slice none 0, rowV r2 x5.length]), .obj h.size (.cells none 2 [.slice none 0, .slice none 0, .slice none 0])] F := A.glue0 (n := 1) A1
          refine at_step (v := rowV rqw4 x13.length) (h1 := h8) [(4, .ptr (some (h.size, 0))), (5, .ptr (some (h1.size, 0))), (6, rowV rqw1 x1.length), (7, rowV rqw2 x2.length), (8, .int .i64 x3), (38, rowV rqw4 x13.length)] H (fun fr => by kernel_rfl) (fun fr => Steps.call (by kernel_rfl) hr) ?_
          intro fr t H
          refine at_seg [(8, [])] [(4, .ptr (some (h.size, 0))), (5, .ptr (some (h1.size, 0))), (6, rowV rqw1 x1.length), (7, rowV rqw2 x2.length), (8, .int .i64 x3), (38, rowV rqw4 x13.length), (39, .ptr (some (h1.size, 0)))] H (noU_all rfl) (fun fr => by kernel_rfl) ?_
          intro fr H
          obtain ⟨h9, hx, A1⟩ := A.st 5 rfl (o := 0) (new := [rowV rqw4 x13.length]) (ds := [rowV rqw4 x13.length, .slice none 0, rowV r2 x5.length]) (Nat.le_of_ble_eq_true rfl) rfl rfl
          replace A : HH g h9 [.lst rqw4 9 (lst eS x13), .lst r1 9 (lst eS x4), .lst rqw1 63 (lst e_S_api_Member x1), .lst r2 9 (lst eS x5), .lst rqw2 63 (lst e_S_api_Member x2), .obj h1.size (.cells none 2 [rowV rqw4 x13.length, .slice none 0, rowV r2 x5.length]), .obj h.size (.cells none 2 [.slice none 0, .slice none 0, .slice none 0])] F := A1
          refine at_step (v := .tuple []) (h1 := h9) [(4, .ptr (some (h.size, 0))), (5, .ptr (some (h1.size, 0))), (6, rowV rqw1 x1.length), (7, rowV rqw2 x2.length), (8, .int .i64 x3)] H (fun fr => by kernel_rfl) (fun fr => .of (s_st (by kernel_rfl) rfl hx)) ?_
          intro fr t H
          refine at_nil ?_
          replace A : HH g h9 [.lst r2 9 (lst eS x5), .lst rqw4 9 (lst eS x13), .lst rqw2 63 (lst e_S_api_Member x2), .lst rqw1 63 (lst e_S_api_Member x1), .obj h1.size (.cells none 2 [rowV rqw4 x13.length, .slice none 0, rowV r2 x5.length]), .obj h.size (.cells none 2 [.slice none 0, .slice none 0, .slice none 0])] F := (HH.dropF ((((((A.front 6 rfl).front 6 rfl).front 4 rfl).front 6 rfl).front 4 rfl).front 6 rfl) 6)
          exact Or.inl ⟨x13, x5, rfl, Option.some.inj hm, rqw4, r2, H.less _ (fun fr => by kernel_rfl), A⟩
        · replace H := H.know 30 hb (by kernel_rfl)
          refine aw_false (x := .tmp 30) (by kernel_rfl) H (fun fr => by kernel_rfl) ?_
          refine aw_seq (by kernel_rfl) ?_
          refine aw_draw (id := 9) (n := 10) (by kernel_rfl) [(0, []), (1, []), (2, []), (3, []), (4, []), (5, []), (6, []), (7, []), (8, []), (9, [])] (by kernel_rfl) ?_
          refine at_seg [(0, []), (1, [])] [(4, .ptr (some (h.size, 0))), (5, .ptr (some (h1.size, 0))), (6, rowV rqw1 x1.length), (7, rowV rqw2 x2.length), (8, .int .i64 x3), (40, rowV rqw1 x1.length), (41, .int .i64 x11)] H (noU_all rfl) (fun fr => by kernel_rfl) ?_
          intro fr H
          obtain ⟨x14, hx, hm⟩ := bind_some hm
          obtain ⟨i3, er3, _, hx, hq3⟩ := HH.ixO enc_S_api_Member (by decide) A 0 (xs := x1) rfl hx
          refine at_step (v := .ptr (some (i3, x11.toNat * 14))) (h1 := h7) [(4, .ptr (some (h.size, 0))), (5, .ptr (some (h1.size, 0))), (6, rowV rqw1 x1.length), (7, rowV rqw2 x2.length), (8, .int .i64 x3), (42, .ptr (some (i3, x11.toNat * 14)))] H (fun fr => by kernel_rfl) (fun fr => .of (s_ixL (s := rowS rqw1 x1.length) (by kernel_rfl) hx)) ?_
          intro fr t H
          refine at_step (v := .agg (e_S_api_Member x14)) (h1 := h7) [(4, .ptr (some (h.size, 0))), (5, .ptr (some (h1.size, 0))), (6, rowV rqw1 x1.length), (7, rowV rqw2 x2.length), (8, .int .i64 x3), (43, .agg (e_S_api_Member x14))] H (fun fr => by kernel_rfl) (fun fr => .of (s_ldA (by kernel_rfl) (row_ldA enc_S_api_Member (HH.row A 0 rfl er3) hq3 0 14 (Nat.le_of_ble_eq_true rfl)))) ?_
          intro fr t H
          refine at_seg [(4, []), (5, [])] [(4, .ptr (some (h.size, 0))), (5, .ptr (some (h1.size, 0))), (6, rowV rqw1 x1.length), (7, rowV rqw2 x2.length), (8, .int .i64 x3), (43, .agg (e_S_api_Member x14)), (44, rowV rqw2 x2.length), (45, .int .i64 x3)] H (noU_all rfl) (fun fr => by kernel_rfl) ?_
          intro fr H
          obtain ⟨x15, hx, hm⟩ := bind_some hm
          obtain ⟨i4, er4, _, hx, hq4⟩ := HH.ixO enc_S_api_Member (by decide) A 3 (xs := x2) rfl hx
          refine at_step (v := .ptr (some (i4, x3.toNat * 14))) (h1 := h7) [(4, .ptr (some (h.size, 0))), (5, .ptr (some (h1.size, 0))), (6, rowV rqw1 x1.length), (7, rowV rqw2 x2.length), (8, .int .i64 x3), (43, .agg (e_S_api_Member x14)), (46, .ptr (some (i4, x3.toNat * 14)))] H (fun fr => by kernel_rfl) (fun fr => .of (s_ixL (s := rowS rqw2 x2.length) (by kernel_rfl) hx)) ?_
          intro fr t H
          refine at_step (v := .agg (e_S_api_Member x15)) (h1 := h7) [(4, .ptr (some (h.size, 0))), (5, .ptr (some (h1.size, 0))), (6, rowV rqw1 x1.length), (7, rowV rqw2 x2.length), (8, .int .i64 x3), (43, .agg (e_S_api_Member x14)), (47, .agg (e_S_api_Member x15))] H (fun fr => by kernel_rfl) (fun fr => .of (s_ldA (by kernel_rfl) (row_ldA enc_S_api_Member (HH.row A 3 rfl er4) hq4 0 14 (Nat.le_of_ble_eq_true rfl)))) ?_
          intro fr t H
          have A1 := A.cut 0
          obtain ⟨x16, hx, hm⟩ := bind_some hm
          obtain ⟨v1, h10, hr, rfl, A1⟩ := ok_boulterref07_Same (av := [.agg (e_S_api_Member x14), .agg (e_S_api_Member x15)]) hx (by kernel_rfl) A1
          replace A : HH g h10 [.lst rqw1 63 (lst e_S_api_Member x1), .lst r2 9 (lst eS x5), .lst r1 9 (lst eS x4), .lst rqw2 63 (lst e_S_api_Member x2), .obj h1.size (.cells none 2 [rowV r1 x4.length, .slice none 0, rowV r2 x5.length]), .obj h.size (.cells none 2 [.slice none 0, .slice none 0, .slice none 0])] F := A.glue0 (n := 0) A1
          refine at_step (v := .bool x16) (h1 := h10) [(4, .ptr (some (h.size, 0))), (5, .ptr (some (h1.size, 0))), (6, rowV rqw1 x1.length), (7, rowV rqw2 x2.length), (8, .int .i64 x3), (48, .bool x16)] H (fun fr => by kernel_rfl) (fun fr => Steps.call (by kernel_rfl) hr) ?_
          intro fr t H
          refine at_seg [(9, [])] [(4, .ptr (some (h.size, 0))), (5, .ptr (some (h1.size, 0))), (6, rowV rqw1 x1.length), (7, rowV rqw2 x2.length), (8, .int .i64 x3), (49, .bool (!x16))] H (noU_all rfl) (fun fr => by kernel_rfl) ?_
          intro fr H
          refine at_nil ?_
          show AW cfg 28 g (right (right (right (right (left (left (right (left (left (right (left (right (right (right (bodyC cfg.P 28))))))))))))))) fr h10 _
          rcases iteB_some hm with ⟨hb, hm⟩ | ⟨hb, hm⟩
          · replace H := H.know 49 hb (by kernel_rfl)
            refine aw_true (x := .tmp 49) (by kernel_rfl) H (fun fr => by kernel_rfl) ?_
            refine aw_draw (id := 10) (n := 10) (by kernel_rfl) [(0, []), (1, []), (2, []), (3, []), (4, []), (5, []), (6, []), (7, []), (8, []), (9, [])] (by kernel_rfl) ?_
            refine at_seg [(0, [])] [(4, .ptr (some (h.size, 0))), (5, .ptr (some (h1.size, 0))), (6, rowV rqw1 x1.length), (7, rowV rqw2 x2.length), (8, .int .i64 x3), (50, .ptr (some (h1.size, 2)))] H (noU_all rfl) (fun fr => by kernel_rfl) ?_
            intro fr H
            refine at_step (v := rowV r2 x5.length) (h1 := h10) [(4, .ptr (some (h.size, 0))), (5, .ptr (some (h1.size, 0))), (6, rowV rqw1 x1.length), (7, rowV rqw2 x2.length), (8, .int .i64 x3), (51, rowV r2 x5.length)] H (fun fr => by kernel_rfl) (fun fr => .of (s_ld (by kernel_rfl) (A.ld1 4 rfl (o := 2) rfl))) ?_
            intro fr t H
            refine at_seg [(2, []), (3, [])] [(4, .ptr (some (h.size, 0))), (5, .ptr (some (h1.size, 0))), (6, rowV rqw1 x1.length), (7, rowV rqw2 x2.length), (8, .int .i64 x3), (51, rowV r2 x5.length), (52, rowV rqw2 x2.length), (53, .int .i64 x3)] H (noU_all rfl) (fun fr => by kernel_rfl) ?_
            intro fr H
            obtain ⟨x17, hx, hm⟩ := bind_some hm
            obtain ⟨i5, er5, _, hx, hq5⟩ := HH.ixO enc_S_api_Member (by decide) A 3 (xs := x2) rfl hx
            refine at_step (v := .ptr (some (i5, x3.toNat * 14))) (h1 := h10) [(4, .ptr (some (h.size, 0))), (5, .ptr (some (h1.size, 0))), (6, rowV rqw1 x1.length), (7, rowV rqw2 x2.length), (8, .int .i64 x3), (51, rowV r2 x5.length), (54, .ptr (some (i5, x3.toNat * 14)))] H (fun fr => by kernel_rfl) (fun fr => .of (s_ixL (s := rowS rqw2 x2.length) (by kernel_rfl) hx)) ?_
            intro fr t H
            refine at_seg [(5, [])] [(4, .ptr (some (h.size, 0))), (5, .ptr (some (h1.size, 0))), (6, rowV rqw1 x1.length), (7, rowV rqw2 x2.length), (8, .int .i64 x3), (51, rowV r2 x5.length), (55, .ptr (some (i5, x3.toNat * 14)))] H (noU_all rfl) (fun fr => by kernel_rfl) ?_
            intro fr H
            refine at_step (v := .str x17.Name) (h1 := h10) [(4, .ptr (some (h.size, 0))), (5, .ptr (some (h1.size, 0))), (6, rowV rqw1 x1.length), (7, rowV rqw2 x2.length), (8, .int .i64 x3), (51, rowV r2 x5.length), (56, .str x17.Name)] H (fun fr => by kernel_rfl) (fun fr => .of (s_ld (by kernel_rfl) (row_ld1 enc_S_api_Member (HH.row A 3 rfl er5) hq5 (o := 0) rfl))) ?_
            intro fr t H
            replace A : HH g h10 [.lst r2 9 (lst eS x5), .lst rqw1 63 (lst e_S_api_Member x1), .lst r1 9 (lst eS x4), .lst rqw2 63 (lst e_S_api_Member x2), .obj h1.size (.cells none 2 [rowV r1 x4.length, .slice none 0, rowV r2 x5.length]), .obj h.size (.cells none 2 [.slice none 0, .slice none 0, .slice none 0])] F := (A.front 1 rfl)
            have A1 := A.cut 1
            obtain ⟨x18, hx, hm⟩ := bind_some hm
            obtain ⟨v1, h11, hr, rqw6, rfl, A1⟩ := ok_boulterref38_put_sOS (av := [rowV r2 x5.length, .str x17.Name]) hx (by kernel_rfl) A1
            replace A : HH g h11 [.lst rqw6 9 (lst eS x18), .lst r2 9 (lst eS x5), .lst rqw1 63 (lst e_S_api_Member x1), .lst r1 9 (lst eS x4), .lst rqw2 63 (lst e_S_api_Member x2), .obj h1.size (.cells none 2 [rowV r1 x4.length, .slice none 0, rowV r2 x5.length]), .obj h.size (.cells none 2 [.slice none 0, .slice none 0, .slice none 0])] F := A.glue0 (n := 1) A1
            refine at_step (v := rowV rqw6 x18.length) (h1 := h11) [(4, .ptr (some (h.size, 0))), (5, .ptr (some (h1.size, 0))), (6, rowV rqw1 x1.length), (7, rowV rqw2 x2.length), (8, .int .i64 x3), (57, rowV rqw6 x18.length)] H (fun fr => by kernel_rfl) (fun fr => Steps.call (by kernel_rfl) hr) ?_
            intro fr t H
            refine at_seg [(8, [])] [(4, .ptr (some (h.size, 0))), (5, .ptr (some (h1.size, 0))), (6, rowV rqw1 x1.length), (7, rowV rqw2 x2.length), (8, .int .i64 x3), (57, rowV rqw6 x18.length), (58, .ptr (some (h1.size, 2)))] H (noU_all rfl) (fun fr => by kernel_rfl) ?_
            intro fr H
            obtain ⟨h12, hx, A1⟩ := A.st 5 rfl (o := 2) (new := [rowV rqw6 x18.length]) (ds := [rowV r1 x4.length, .slice none 0, rowV rqw6 x18.length]) (Nat.le_of_ble_eq_true rfl) rfl rfl
            replace A : HH g h12 [.lst rqw6 9 (lst eS x18), .lst r2 9 (lst eS x5), .lst rqw1 63 (lst e_S_api_Member x1), .lst r1 9 (lst eS x4), .lst rqw2 63 (lst e_S_api_Member x2), .obj h1.size (.cells none 2 [rowV r1 x4.length, .slice none 0, rowV rqw6 x18.length]), .obj h.size (.cells none 2 [.slice none 0, .slice none 0, .slice none 0])] F := A1
            refine at_step (v := .tuple []) (h1 := h12) [(4, .ptr (some (h.size, 0))), (5, .ptr (some (h1.size, 0))), (6, rowV rqw1 x1.length), (7, rowV rqw2 x2.length), (8, .int .i64 x3)] H (fun fr => by kernel_rfl) (fun fr => .of (s_st (by kernel_rfl) rfl hx)) ?_
            intro fr t H
            refine at_nil ?_
            replace A : HH g h12 [.lst rqw6 9 (lst eS x18), .lst r1 9 (lst eS x4), .lst rqw2 63 (lst e_S_api_Member x2), .lst rqw1 63 (lst e_S_api_Member x1), .obj h1.size (.cells none 2 [rowV r1 x4.length, .slice none 0, rowV rqw6 x18.length]), .obj h.size (.cells none 2 [.slice none 0, .slice none 0, .slice none 0])] F := (HH.dropF ((((((A.front 6 rfl).front 6 rfl).front 4 rfl).front 6 rfl).front 6 rfl).front 5 rfl) 6)
            exact Or.inl ⟨x4, x18, rfl, Option.some.inj hm, r1, rqw6, H.less _ (fun fr => by kernel_rfl), A⟩
          · replace H := H.know 49 hb (by kernel_rfl)
            refine aw_false (x := .tmp 49) (by kernel_rfl) H (fun fr => by kernel_rfl) ?_
            refine aw_skip (by kernel_rfl) ?_
            replace A : HH g h10 [.lst r2 9 (lst eS x5), .lst r1 9 (lst eS x4), .lst rqw2 63 (lst e_S_api_Member x2), .lst rqw1 63 (lst e_S_api_Member x1), .obj h1.size (.cells none 2 [rowV r1 x4.length, .slice none 0, rowV r2 x5.length]), .obj h.size (.cells none 2 [.slice none 0, .slice none 0, .slice none 0])] F := ((((((A.front 5 rfl).front 5 rfl).front 2 rfl).front 5 rfl).front 5 rfl).front 5 rfl)
            exact Or.inl ⟨x4, x5, rfl, Option.some.inj hm, r1, r2, H.less _ (fun fr => by kernel_rfl), A⟩
      · clear ho
        clear A
        intro e fr h13 hQ
        rcases hQ with ⟨x8, x9, rfl, rfl, r5, r6, H, A⟩ | hF
        · skip
          show AW cfg 28 g (right (right (left (left (right (left (right (right (right (bodyC cfg.P 28)))))))))) fr h13 _
          refine aw_reg (id := 5) (n := 3) [(0, []), (1, []), (2, [])] (by kernel_rfl) (by kernel_rfl) ?_
          refine at_seg [(0, []), (1, []), (2, [])] [(4, .ptr (some (h.size, 0))), (5, .ptr (some (h1.size, 0))), (6, rowV rqw1 x1.length), (7, rowV rqw2 x2.length), (8, .int .i64 (IntKind.i64.wrap (x3 + (1 : Int))))] H (noU_all rfl) (fun fr => by kernel_rfl) ?_
          intro fr H
          refine at_nil ?_
          exact Exists.intro (IntKind.i64.wrap (x3 + (1 : Int)), x8, x9) (And.intro (Option.some.inj hm).symm ⟨IntKind.i64.wrap (x3 + (1 : Int)), x8, x9, rfl, r5, r6, H.less _ (fun fr => by kernel_rfl), A⟩)
        · exact hF.elim
    · replace H := H.know 19 hb (by kernel_rfl)
      refine aw_false (x := .tmp 19) (by kernel_rfl) H (fun fr => by kernel_rfl) ?_
      refine aw_exit (i := 0) (by kernel_rfl) ?_
      exact Exists.intro _ (And.intro (Option.some.inj hm).symm (fun e => Or.inl ⟨x4, x5, rfl, e, r1, r2, H.less _ (fun fr => by kernel_rfl), A⟩))
  · clear ho
    clear A
    intro e fr h14 hQ
    rcases hQ with ⟨x6, x7, rfl, rfl, r3, r4, H, A⟩ | hF
    · skip
      show AW cfg 28 g (right (right (right (right (bodyC cfg.P 28))))) fr h14 _
      refine aw_seq (by kernel_rfl) ?_
      refine aw_seq (by kernel_rfl) ?_
      refine aw_reg (id := 11) (n := 1) [(0, [])] (by kernel_rfl) (by kernel_rfl) ?_
      refine at_seg [(0, [])] [(4, .ptr (some (h.size, 0))), (5, .ptr (some (h1.size, 0))), (6, rowV rqw1 x1.length), (7, rowV rqw2 x2.length), (10, .int .i64 (0 : Int))] H (noU_all rfl) (fun fr => by kernel_rfl) ?_
      intro fr H
      refine at_nil ?_
      show AW cfg 28 g (right (left (right (right (right (right (bodyC cfg.P 28))))))) fr h14 _
      refine aw_block (id := 2) (by kernel_rfl) ?_
      replace A : HH g h14 [.lst none 9 (lst eS ([] : List (List UInt8))), .lst r4 9 (lst eS x7), .lst r3 9 (lst eS x6), .lst rqw2 63 (lst e_S_api_Member x2), .lst rqw1 63 (lst e_S_api_Member x1), .obj h1.size (.cells none 2 [rowV r3 x6.length, .slice none 0, rowV r4 x7.length]), .obj h.size (.cells none 2 [.slice none 0, .slice none 0, .slice none 0])] F := A.nilL 9
      obtain ⟨o3, ho, hm⟩ := bind_some hm
      refine aw_mono (Q' := fun e fr' h' => (∃ (x21 : List (List UInt8)), e = .exit 2 ∧ x21 = o3 ∧ ∃ (r8 : Option Nat), Has fr' 83 [(4, .ptr (some (h.size, 0))), (5, .ptr (some (h1.size, 0)))] ∧ HH g h' [.lst r8 9 (lst eS x21), .lst r4 9 (lst eS x7), .lst r3 9 (lst eS x6), .obj h1.size (.cells none 2 [rowV r3 x6.length, rowV r8 x21.length, rowV r4 x7.length]), .obj h.size (.cells none 2 [.slice none 0, .slice none 0, .slice none 0])] F) ∨ False) ?_ ?_
      · refine aw_loop (by kernel_rfl) (fun (s : Int × (List (List UInt8))) fr' h' => ∃ (x19 : Int) (x20 : List (List UInt8)), (x19, x20) = s ∧ ∃ (r7 : Option Nat), Has fr' 83 [(4, .ptr (some (h.size, 0))), (5, .ptr (some (h1.size, 0))), (6, rowV rqw1 x1.length), (7, rowV rqw2 x2.length), (10, .int .i64 x19)] ∧ HH g h' [.lst r7 9 (lst eS x20), .lst r4 9 (lst eS x7), .lst r3 9 (lst eS x6), .lst rqw2 63 (lst e_S_api_Member x2), .lst rqw1 63 (lst e_S_api_Member x1), .obj h1.size (.cells none 2 [rowV r3 x6.length, rowV r7 x20.length, rowV r4 x7.length]), .obj h.size (.cells none 2 [.slice none 0, .slice none 0, .slice none 0])] F) ho ⟨(0 : Int), ([] : List (List UInt8)), rfl, none, H.less _ (fun fr => by kernel_rfl), A⟩ ?_
        clear ho hm H A
        intro s q fr h15 hI hm
        obtain ⟨x19, x20, rfl, r7, H, A⟩ := hI
        unfold M_boulterref38_Of_L1 at hm
        refine aw_seq (by kernel_rfl) ?_
        refine aw_seq (by kernel_rfl) ?_
        refine aw_reg (id := 12) (n := 4) [(0, []), (1, []), (2, []), (3, [])] (by kernel_rfl) (by kernel_rfl) ?_
        refine at_seg [(0, []), (1, []), (2, []), (3, [])] [(4, .ptr (some (h.size, 0))), (5, .ptr (some (h1.size, 0))), (6, rowV rqw1 x1.length), (7, rowV rqw2 x2.length), (10, .int .i64 x19), (62, .bool (decide (x19 < (x1.length : Int))))] H (noU_all rfl) (fun fr => by kernel_rfl) ?_
        intro fr H
        refine at_nil ?_
        show AW cfg 28 g (right (left (left (left (right (left (right (right (right (right (bodyC cfg.P 28))))))))))) fr h15 _
        rcases iteB_some hm with ⟨hb, hm⟩ | ⟨hb, hm⟩
        · replace H := H.know 62 hb (by kernel_rfl)
          refine aw_true (x := .tmp 62) (by kernel_rfl) H (fun fr => by kernel_rfl) ?_
          refine aw_skip (by kernel_rfl) ?_
          show AW cfg 28 g (right (left (left (right (left (right (right (right (right (bodyC cfg.P 28)))))))))) fr h15 _
          refine aw_seq (by kernel_rfl) ?_
          obtain ⟨o4, ho, hm⟩ := bind_some hm
          refine aw_mono (Q' := fun e fr' h' => (∃ (x22 : List (List UInt8)), e = .normal ∧ x22 = o4 ∧ ∃ (r9 : Option Nat), Has fr' 83 [(4, .ptr (some (h.size, 0))), (5, .ptr (some (h1.size, 0))), (6, rowV rqw1 x1.length), (7, rowV rqw2 x2.length), (10, .int .i64 x19)] ∧ HH g h' [.lst r9 9 (lst eS x22), .lst r4 9 (lst eS x7), .lst r3 9 (lst eS x6), .lst rqw2 63 (lst e_S_api_Member x2), .lst rqw1 63 (lst e_S_api_Member x1), .obj h1.size (.cells none 2 [rowV r3 x6.length, rowV r9 x22.length, rowV r4 x7.length]), .obj h.size (.cells none 2 [.slice none 0, .slice none 0, .slice none 0])] F) ∨ False) ?_ ?_
          · replace hm := ho
            clear ho
            refine aw_block (id := 3) (by kernel_rfl) ?_
            refine aw_seq (by kernel_rfl) ?_
            refine aw_reg (id := 14) (n := 8) [(0, []), (1, []), (2, []), (3, []), (4, []), (5, []), (6, []), (7, [])] (by kernel_rfl) (by kernel_rfl) ?_
            refine at_seg [(0, []), (1, []), (2, [])] [(4, .ptr (some (h.size, 0))), (5, .ptr (some (h1.size, 0))), (6, rowV rqw1 x1.length), (7, rowV rqw2 x2.length), (10, .int .i64 x19), (65, rowV rqw2 x2.length), (66, rowV rqw1 x1.length), (67, .int .i64 x19)] H (noU_all rfl) (fun fr => by kernel_rfl) ?_
            intro fr H
            obtain ⟨x23, hx, hm⟩ := bind_some hm
            obtain ⟨i6, er6, _, hx, hq6⟩ := HH.ixO enc_S_api_Member (by decide) A 4 (xs := x1) rfl hx
            refine at_step (v := .ptr (some (i6, x19.toNat * 14))) (h1 := h15) [(4, .ptr (some (h.size, 0))), (5, .ptr (some (h1.size, 0))), (6, rowV rqw1 x1.length), (7, rowV rqw2 x2.length), (10, .int .i64 x19), (65, rowV rqw2 x2.length), (68, .ptr (some (i6, x19.toNat * 14)))] H (fun fr => by kernel_rfl) (fun fr => .of (s_ixL (s := rowS rqw1 x1.length) (by kernel_rfl) hx)) ?_
            intro fr t H
            refine at_seg [(4, [])] [(4, .ptr (some (h.size, 0))), (5, .ptr (some (h1.size, 0))), (6, rowV rqw1 x1.length), (7, rowV rqw2 x2.length), (10, .int .i64 x19), (65, rowV rqw2 x2.length), (69, .ptr (some (i6, x19.toNat * 14)))] H (noU_all rfl) (fun fr => by kernel_rfl) ?_
            intro fr H
            refine at_step (v := .str x23.Name) (h1 := h15) [(4, .ptr (some (h.size, 0))), (5, .ptr (some (h1.size, 0))), (6, rowV rqw1 x1.length), (7, rowV rqw2 x2.length), (10, .int .i64 x19), (65, rowV rqw2 x2.length), (70, .str x23.Name)] H (fun fr => by kernel_rfl) (fun fr => .of (s_ld (by kernel_rfl) (row_ld1 enc_S_api_Member (HH.row A 4 rfl er6) hq6 (o := 0) rfl))) ?_
            intro fr t H
            replace A : HH g h15 [.lst rqw2 63 (lst e_S_api_Member x2), .lst r7 9 (lst eS x20), .lst r4 9 (lst eS x7), .lst r3 9 (lst eS x6), .lst rqw1 63 (lst e_S_api_Member x1), .obj h1.size (.cells none 2 [rowV r3 x6.length, rowV r7 x20.length, rowV r4 x7.length]), .obj h.size (.cells none 2 [.slice none 0, .slice none 0, .slice none 0])] F := (A.front 3 rfl)
            have A1 := A.cut 1
            obtain ⟨x24, hx, hm⟩ := bind_some hm
            obtain ⟨v1, h16, hr, rfl, A1⟩ := ok_boulterref12_Find_sOS (av := [rowV rqw2 x2.length, .str x23.Name]) hx (by kernel_rfl) A1
            replace A : HH g h16 [.lst rqw2 63 (lst e_S_api_Member x2), .lst r7 9 (lst eS x20), .lst r4 9 (lst eS x7), .lst r3 9 (lst eS x6), .lst rqw1 63 (lst e_S_api_Member x1), .obj h1.size (.cells none 2 [rowV r3 x6.length, rowV r7 x20.length, rowV r4 x7.length]), .obj h.size (.cells none 2 [.slice none 0, .slice none 0, .slice none 0])] F := A.glue0 (n := 1) A1
            refine at_step (v := .int .i64 x24) (h1 := h16) [(4, .ptr (some (h.size, 0))), (5, .ptr (some (h1.size, 0))), (6, rowV rqw1 x1.length), (7, rowV rqw2 x2.length), (10, .int .i64 x19), (71, .int .i64 x24)] H (fun fr => by kernel_rfl) (fun fr => Steps.call (by kernel_rfl) hr) ?_
            intro fr t H
            refine at_seg [(7, [])] [(4, .ptr (some (h.size, 0))), (5, .ptr (some (h1.size, 0))), (6, rowV rqw1 x1.length), (7, rowV rqw2 x2.length), (10, .int .i64 x19), (72, .bool (decide (x24 < (0 : Int))))] H (noU_all rfl) (fun fr => by kernel_rfl) ?_
            intro fr H
            refine at_nil ?_
            show AW cfg 28 g (right (left (left (right (left (left (right (left (right (right (right (right (bodyC cfg.P 28))))))))))))) fr h16 _
            rcases iteB_some hm with ⟨hb, hm⟩ | ⟨hb, hm⟩
            · replace H := H.know 72 hb (by kernel_rfl)
              refine aw_true (x := .tmp 72) (by kernel_rfl) H (fun fr => by kernel_rfl) ?_
              refine aw_draw (id := 15) (n := 10) (by kernel_rfl) [(0, []), (1, []), (2, []), (3, []), (4, []), (5, []), (6, []), (7, []), (8, []), (9, [])] (by kernel_rfl) ?_
              refine at_seg [(0, [])] [(4, .ptr (some (h.size, 0))), (5, .ptr (some (h1.size, 0))), (6, rowV rqw1 x1.length), (7, rowV rqw2 x2.length), (10, .int .i64 x19), (73, .ptr (some (h1.size, 1)))] H (noU_all rfl) (fun fr => by kernel_rfl) ?_
              intro fr H
              refine at_step (v := rowV r7 x20.length) (h1 := h16) [(4, .ptr (some (h.size, 0))), (5, .ptr (some (h1.size, 0))), (6, rowV rqw1 x1.length), (7, rowV rqw2 x2.length), (10, .int .i64 x19), (74, rowV r7 x20.length)] H (fun fr => by kernel_rfl) (fun fr => .of (s_ld (by kernel_rfl) (A.ld1 5 rfl (o := 1) rfl))) ?_
              intro fr t H
              refine at_seg [(2, []), (3, [])] [(4, .ptr (some (h.size, 0))), (5, .ptr (some (h1.size, 0))), (6, rowV rqw1 x1.length), (7, rowV rqw2 x2.length), (10, .int .i64 x19), (74, rowV r7 x20.length), (75, rowV rqw1 x1.length), (76, .int .i64 x19)] H (noU_all rfl) (fun fr => by kernel_rfl) ?_
              intro fr H
              obtain ⟨x25, hx, hm⟩ := bind_some hm
              obtain ⟨i7, er7, _, hx, hq7⟩ := HH.ixO enc_S_api_Member (by decide) A 4 (xs := x1) rfl hx
              refine at_step (v := .ptr (some (i7, x19.toNat * 14))) (h1 := h16) [(4, .ptr (some (h.size, 0))), (5, .ptr (some (h1.size, 0))), (6, rowV rqw1 x1.length), (7, rowV rqw2 x2.length), (10, .int .i64 x19), (74, rowV r7 x20.length), (77, .ptr (some (i7, x19.toNat * 14)))] H (fun fr => by kernel_rfl) (fun fr => .of (s_ixL (s := rowS rqw1 x1.length) (by kernel_rfl) hx)) ?_
              intro fr t H
              refine at_seg [(5, [])] [(4, .ptr (some (h.size, 0))), (5, .ptr (some (h1.size, 0))), (6, rowV rqw1 x1.length), (7, rowV rqw2 x2.length), (10, .int .i64 x19), (74, rowV r7 x20.length), (78, .ptr (some (i7, x19.toNat * 14)))] H (noU_all rfl) (fun fr => by kernel_rfl) ?_
              intro fr H
              refine at_step (v := .str x25.Name) (h1 := h16) [(4, .ptr (some (h.size, 0))), (5, .ptr (some (h1.size, 0))), (6, rowV rqw1 x1.length), (7, rowV rqw2 x2.length), (10, .int .i64 x19), (74, rowV r7 x20.length), (79, .str x25.Name)] H (fun fr => by kernel_rfl) (fun fr => .of (s_ld (by kernel_rfl) (row_ld1 enc_S_api_Member (HH.row A 4 rfl er7) hq7 (o := 0) rfl))) ?_
              intro fr t H
              replace A : HH g h16 [.lst r7 9 (lst eS x20), .lst rqw2 63 (lst e_S_api_Member x2), .lst r4 9 (lst eS x7), .lst r3 9 (lst eS x6), .lst rqw1 63 (lst e_S_api_Member x1), .obj h1.size (.cells none 2 [rowV r3 x6.length, rowV r7 x20.length, rowV r4 x7.length]), .obj h.size (.cells none 2 [.slice none 0, .slice none 0, .slice none 0])] F := (A.front 1 rfl)
              have A1 := A.cut 1
              obtain ⟨x26, hx, hm⟩ := bind_some hm
              obtain ⟨v1, h17, hr, rqw8, rfl, A1⟩ := ok_boulterref38_put_sOS (av := [rowV r7 x20.length, .str x25.Name]) hx (by kernel_rfl) A1
              replace A : HH g h17 [.lst rqw8 9 (lst eS x26), .lst r7 9 (lst eS x20), .lst rqw2 63 (lst e_S_api_Member x2), .lst r4 9 (lst eS x7), .lst r3 9 (lst eS x6), .lst rqw1 63 (lst e_S_api_Member x1), .obj h1.size (.cells none 2 [rowV r3 x6.length, rowV r7 x20.length, rowV r4 x7.length]), .obj h.size (.cells none 2 [.slice none 0, .slice none 0, .slice none 0])] F := A.glue0 (n := 1) A1
              refine at_step (v := rowV rqw8 x26.length) (h1 := h17) [(4, .ptr (some (h.size, 0))), (5, .ptr (some (h1.size, 0))), (6, rowV rqw1 x1.length), (7, rowV rqw2 x2.length), (10, .int .i64 x19), (80, rowV rqw8 x26.length)] H (fun fr => by kernel_rfl) (fun fr => Steps.call (by kernel_rfl) hr) ?_
              intro fr t H
              refine at_seg [(8, [])] [(4, .ptr (some (h.size, 0))), (5, .ptr (some (h1.size, 0))), (6, rowV rqw1 x1.length), (7, rowV rqw2 x2.length), (10, .int .i64 x19), (80, rowV rqw8 x26.length), (81, .ptr (some (h1.size, 1)))] H (noU_all rfl) (fun fr => by kernel_rfl) ?_
              intro fr H
              obtain ⟨h18, hx, A1⟩ := A.st 6 rfl (o := 1) (new := [rowV rqw8 x26.length]) (ds := [rowV r3 x6.length, rowV rqw8 x26.length, rowV r4 x7.length]) (Nat.le_of_ble_eq_true rfl) rfl rfl
              replace A : HH g h18 [.lst rqw8 9 (lst eS x26), .lst r7 9 (lst eS x20), .lst rqw2 63 (lst e_S_api_Member x2), .lst r4 9 (lst eS x7), .lst r3 9 (lst eS x6), .lst rqw1 63 (lst e_S_api_Member x1), .obj h1.size (.cells none 2 [rowV r3 x6.length, rowV rqw8 x26.length, rowV r4 x7.length]), .obj h.size (.cells none 2 [.slice none 0, .slice none 0, .slice none 0])] F := A1
              refine at_step (v := .tuple []) (h1 := h18) [(4, .ptr (some (h.size, 0))), (5, .ptr (some (h1.size, 0))), (6, rowV rqw1 x1.length), (7, rowV rqw2 x2.length), (10, .int .i64 x19)] H (fun fr => by kernel_rfl) (fun fr => .of (s_st (by kernel_rfl) rfl hx)) ?_
              intro fr t H
              refine at_nil ?_
              replace A : HH g h18 [.lst rqw8 9 (lst eS x26), .lst r4 9 (lst eS x7), .lst r3 9 (lst eS x6), .lst rqw2 63 (lst e_S_api_Member x2), .lst rqw1 63 (lst e_S_api_Member x1), .obj h1.size (.cells none 2 [rowV r3 x6.length, rowV rqw8 x26.length, rowV r4 x7.length]), .obj h.size (.cells none 2 [.slice none 0, .slice none 0, .slice none 0])] F := (HH.dropF (((((((A.front 7 rfl).front 7 rfl).front 7 rfl).front 5 rfl).front 7 rfl).front 7 rfl).front 6 rfl) 7)
              exact Or.inl ⟨x26, rfl, Option.some.inj hm, rqw8, H.less _ (fun fr => by kernel_rfl), A⟩
            · replace H := H.know 72 hb (by kernel_rfl)
              refine aw_false (x := .tmp 72) (by kernel_rfl) H (fun fr => by kernel_rfl) ?_
              refine aw_skip (by kernel_rfl) ?_
              replace A : HH g h16 [.lst r7 9 (lst eS x20), .lst r4 9 (lst eS x7), .lst r3 9 (lst eS x6), .lst rqw2 63 (lst e_S_api_Member x2), .lst rqw1 63 (lst e_S_api_Member x1), .obj h1.size (.cells none 2 [rowV r3 x6.length, rowV r7 x20.length, rowV r4 x7.length]), .obj h.size (.cells none 2 [.slice none 0, .slice none 0, .slice none 0])] F := (((((((A.front 6 rfl).front 6 rfl).front 6 rfl).front 3 rfl).front 6 rfl).front 6 rfl).front 6 rfl)
              exact Or.inl ⟨x20, rfl, Option.some.inj hm, r7, H.less _ (fun fr => by kernel_rfl), A⟩
          · clear ho
            clear A
            intro e fr h19 hQ
            rcases hQ with ⟨x22, rfl, rfl, r9, H, A⟩ | hF
            · skip
              show AW cfg 28 g (right (right (left (left (right (left (right (right (right (right (bodyC cfg.P 28))))))))))) fr h19 _
              refine aw_reg (id := 13) (n := 3) [(0, []), (1, []), (2, [])] (by kernel_rfl) (by kernel_rfl) ?_
              refine at_seg [(0, []), (1, []), (2, [])] [(4, .ptr (some (h.size, 0))), (5, .ptr (some (h1.size, 0))), (6, rowV rqw1 x1.length), (7, rowV rqw2 x2.length), (10, .int .i64 (IntKind.i64.wrap (x19 + (1 : Int))))] H (noU_all rfl) (fun fr => by kernel_rfl) ?_
              intro fr H
              refine at_nil ?_
              exact Exists.intro (IntKind.i64.wrap (x19 + (1 : Int)), x22) (And.intro (Option.some.inj hm).symm ⟨IntKind.i64.wrap (x19 + (1 : Int)), x22, rfl, r9, H.less _ (fun fr => by kernel_rfl), A⟩)
            · exact hF.elim
        · replace H := H.know 62 hb (by kernel_rfl)
          refine aw_false (x := .tmp 62) (by kernel_rfl) H (fun fr => by kernel_rfl) ?_
          refine aw_exit (i := 2) (by kernel_rfl) ?_
          replace A : HH g h15 [.lst r7 9 (lst eS x20), .lst r4 9 (lst eS x7), .lst r3 9 (lst eS x6), .obj h1.size (.cells none 2 [rowV r3 x6.length, rowV r7 x20.length, rowV r4 x7.length]), .obj h.size (.cells none 2 [.slice none 0, .slice none 0, .slice none 0])] F := (HH.dropF (((((A.front 6 rfl).front 6 rfl).front 4 rfl).front 4 rfl).front 4 rfl) 5)
          exact Exists.intro _ (And.intro (Option.some.inj hm).symm (fun e => Or.inl ⟨x20, rfl, e, r7, H.less _ (fun fr => by kernel_rfl), A⟩))
      · clear ho
        clear A
        intro e fr h20 hQ
        rcases hQ with ⟨x21, rfl, rfl, r8, H, A⟩ | hF
        · skip
          show AW cfg 28 g (right (right (right (right (right (bodyC cfg.P 28)))))) fr h20 _
          refine aw_seq (by kernel_rfl) ?_
          refine aw_reg (id := 16) (n := 2) [(0, []), (1, [])] (by kernel_rfl) (by kernel_rfl) ?_
          refine at_step (v := .agg [rowV r3 x6.length, rowV r8 x21.length, rowV r4 x7.length]) (h1 := h20) [(4, .ptr (some (h.size, 0))), (82, .agg [rowV r3 x6.length, rowV r8 x21.length, rowV r4 x7.length])] H (fun fr => by kernel_rfl) (fun fr => .of (s_ldA (by kernel_rfl) (A.ldA 3 rfl (o := 0) (n := 3) ⟨Nat.le_of_ble_eq_true rfl, rfl⟩))) ?_
          intro fr t H
          obtain ⟨h21, hx, A1⟩ := A.st 4 rfl (o := 0) (new := [rowV r3 x6.length, rowV r8 x21.length, rowV r4 x7.length]) (ds := [rowV r3 x6.length, rowV r8 x21.length, rowV r4 x7.length]) (Nat.le_of_ble_eq_true rfl) rfl rfl
          replace A : HH g h21 [.lst r8 9 (lst eS x21), .lst r4 9 (lst eS x7), .lst r3 9 (lst eS x6), .obj h1.size (.cells none 2 [rowV r3 x6.length, rowV r8 x21.length, rowV r4 x7.length]), .obj h.size (.cells none 2 [rowV r3 x6.length, rowV r8 x21.length, rowV r4 x7.length])] F := A1
          refine at_step (v := .tuple []) (h1 := h21) [(4, .ptr (some (h.size, 0)))] H (fun fr => by kernel_rfl) (fun fr => .of (s_stG (by kernel_rfl) (stG_st hx rfl))) ?_
          intro fr t H
          refine at_nil ?_
          show AW cfg 28 g (right (right (right (right (right (right (bodyC cfg.P 28))))))) fr h21 _
          refine aw_ret (by kernel_rfl) ?_
          have e1 := Option.some.inj hm
          subst e1
          refine ⟨.inl rfl, .agg [rowV r3 x6.length, rowV r8 x21.length, rowV r4 x7.length], resL_one (.cell (resT H (fun fr => by kernel_rfl)) (load_ldA (by kernel_rfl) (by kernel_rfl) (A.ldA 4 rfl (o := 0) (n := 3) ⟨Nat.le_of_ble_eq_true rfl, rfl⟩)) .nil), ?_⟩
          obtain ⟨h22, hz0, A1⟩ := (A.front 2 rfl).frz (n := x6.length) (z := 1) (encS.lenL _) (by decide)
          replace A : HH g h22 [.lst r8 9 (lst eS x21), .lst r4 9 (lst eS x7), .obj h1.size (.cells none 2 [rowV r3 x6.length, rowV r8 x21.length, rowV r4 x7.length]), .obj h.size (.cells none 2 [rowV r3 x6.length, rowV r8 x21.length, rowV r4 x7.length])] F := A1
          obtain ⟨h23, hz1, A1⟩ := (A.front 0 rfl).frz (n := x21.length) (z := 1) (encS.lenL _) (by decide)
          replace A : HH g h23 [.lst r4 9 (lst eS x7), .obj h1.size (.cells none 2 [rowV r3 x6.length, rowV r8 x21.length, rowV r4 x7.length]), .obj h.size (.cells none 2 [rowV r3 x6.length, rowV r8 x21.length, rowV r4 x7.length])] F := A1
          obtain ⟨h24, hz2, A1⟩ := (A.front 0 rfl).frz (n := x7.length) (z := 1) (encS.lenL _) (by decide)
          replace A : HH g h24 [.obj h1.size (.cells none 2 [rowV r3 x6.length, rowV r8 x21.length, rowV r4 x7.length]), .obj h.size (.cells none 2 [rowV r3 x6.length, rowV r8 x21.length, rowV r4 x7.length])] F := A1
          refine ⟨.agg [vs eS x6, vs eS x21, vs eS x7], h24, by first | rfl | (simp only [fz3T, fz3A, fz3B, fz3R, fz2A, fz2R, fz2V, fz2I, fz2B, fz2S, fz2N, fzL0, fzL1, fz1I, fz1B, fz1S, fz1V, fz1N, Option.map_some, hz0, hz1, hz2] <;> rfl), ?_⟩
          replace A : HH g h24 [] F := (HH.dropF A 0)
          exact ⟨rfl, A⟩
        · exact hF.elim
    · exact hF.elim
/-! ### boulter/delta.kept -/
noncomputable def M_delta_kept_L0 (p0 : List S_api_Member) (p1 : List ((List UInt8) × Int)) (s : (List S_api_Member) × Int) : Option (((List S_api_Member) × Int) ⊕ (((List S_api_Member)))) :=
  match s with
  | (x1, x2) => iteB (decide (x2 < (p0.length : Int))) (((ixV p0 x2).bind fun x5 => iteB (((mfind p1 x5.Name).isSome) && (((mfind p1 x5.Name).getD (0 : Int)) == x2)) (need (okN 32 x5.Extra.length) <| need (okN 168 (x1.length + ([x5] : List S_api_Member).length)) <| some (x1 ++ ([x5] : List S_api_Member))) (some x1) : Option (((List S_api_Member)))).bind fun x4 => some (.inl (x4, IntKind.i64.wrap (x2 + (1 : Int))))) (some (.inr x1))
noncomputable def M_delta_kept (p0 : List S_api_Member) (p1 : List ((List UInt8) × Int)) : Option ((List S_api_Member)) :=
 (loop (M_delta_kept_L0 p0 p1) (([] : List S_api_Member), (0 : Int))).bind fun x3 => some x3
theorem ok_delta_kept {g : Gd} {h : AHeap} {F : List Ck} {p0 : List S_api_Member} {p1 : List ((List UInt8) × Int)} {bp1 : Nat} {q0 : List S_api_Member} {av : List AVal} (hm : M_delta_kept p0 p1 = some q0) (hc : canL (cfg.still 45) av = [vs e_S_api_Member p0, .map (some bp1)]) (A : HH g h [.obj bp1 (.map 2 (encM (fun k : List UInt8 => .str k) (fun v : Int => .int .i64 v) p1))] F) : ∃ v h', Runs cfg g h 45 av v h' ∧ ∃ (rq0 : Option Nat), v = rowV rq0 q0.length ∧ HH g h' [.lst rq0 63 (lst e_S_api_Member q0), .obj bp1 (.map 2 (encM (fun k : List UInt8 => .str k) (fun v : Int => .int .i64 v) p1))] F := by
  refine runsQ1 (n := 40) (rs := [.tmp 4]) (by kernel_rfl) hc (by kernel_rfl) ?_
  clear hc
  unfold M_delta_kept at hm
  refine start (n := 40) [(0, vs e_S_api_Member p0), (1, .map (some bp1))] (by kernel_rfl) (by kernel_rfl) ?_
  intro fr H
  refine aw_seq (by kernel_rfl) ?_
  refine aw_reg (id := 0) (n := 1) [(0, [])] (by kernel_rfl) (by kernel_rfl) ?_
  refine at_seg [(0, [])] [(0, vs e_S_api_Member p0), (1, .map (some bp1))] H (noU_all rfl) (fun fr => by kernel_rfl) ?_
  intro fr H
  refine at_nil ?_
  show AW cfg 45 g (right (bodyC cfg.P 45)) fr h _
  refine aw_seq (by kernel_rfl) ?_
  refine aw_reg (id := 1) (n := 1) [(0, [])] (by kernel_rfl) (by kernel_rfl) ?_
  refine at_seg [(0, [])] [(0, vs e_S_api_Member p0), (1, .map (some bp1)), (5, .slice none 0)] H (noU_all rfl) (fun fr => by kernel_rfl) ?_
  intro fr H
  refine at_nil ?_
  show AW cfg 45 g (right (right (bodyC cfg.P 45))) fr h _
  refine aw_seq (by kernel_rfl) ?_
  refine aw_seq (by kernel_rfl) ?_
  refine aw_reg (id := 2) (n := 3) [(0, []), (1, []), (2, [])] (by kernel_rfl) (by kernel_rfl) ?_
  refine at_seg [(0, []), (1, []), (2, [])] [(1, .map (some bp1)), (5, .slice none 0), (10, vs e_S_api_Member p0), (11, .int .i64 (p0.length : Int)), (12, .int .i64 (0 : Int))] H (noU_all rfl) (fun fr => by kernel_rfl) ?_
  intro fr H
  refine at_nil ?_
  show AW cfg 45 g (right (left (right (right (bodyC cfg.P 45))))) fr h _
  refine aw_block (id := 0) (by kernel_rfl) ?_
  replace A : HH g h [.lst none 63 (lst e_S_api_Member ([] : List S_api_Member)), .obj bp1 (.map 2 (encM (fun k : List UInt8 => .str k) (fun v : Int => .int .i64 v) p1))] F := A.nilL 63
  obtain ⟨o1, ho, hm⟩ := bind_some hm
  refine aw_mono (Q' := fun e fr' h' => (∃ (x3 : List S_api_Member), e = .exit 0 ∧ x3 = o1 ∧ ∃ (r2 : Option Nat), Has fr' 40 [(5, rowV r2 x3.length)] ∧ HH g h' [.lst r2 63 (lst e_S_api_Member x3), .obj bp1 (.map 2 (encM (fun k : List UInt8 => .str k) (fun v : Int => .int .i64 v) p1))] F) ∨ False) ?_ ?_
  · refine aw_loop (by kernel_rfl) (fun (s : (List S_api_Member) × Int) fr' h' => ∃ (x1 : List S_api_Member) (x2 : Int), (x1, x2) = s ∧ ∃ (r1 : Option Nat), Has fr' 40 [(1, .map (some bp1)), (5, rowV r1 x1.length), (10, vs e_S_api_Member p0), (11, .int .i64 (p0.length : Int)), (12, .int .i64 x2)] ∧ HH g h' [.lst r1 63 (lst e_S_api_Member x1), .obj bp1 (.map 2 (encM (fun k : List UInt8 => .str k) (fun v : Int => .int .i64 v) p1))] F) ho ⟨([] : List S_api_Member), (0 : Int), rfl, none, H.less _ (fun fr => by kernel_rfl), A⟩ ?_
    clear ho hm H A
    intro s q fr h1 hI hm
    obtain ⟨x1, x2, rfl, r1, H, A⟩ := hI
    unfold M_delta_kept_L0 at hm
    refine aw_seq (by kernel_rfl) ?_
    refine aw_reg (id := 3) (n := 1) [(0, [])] (by kernel_rfl) (by kernel_rfl) ?_
    refine at_seg [(0, [])] [(1, .map (some bp1)), (5, rowV r1 x1.length), (10, vs e_S_api_Member p0), (11, .int .i64 (p0.length : Int)), (12, .int .i64 x2), (13, .bool (decide (x2 < (p0.length : Int))))] H (noU_all rfl) (fun fr => by kernel_rfl) ?_
    intro fr H
    refine at_nil ?_
    show AW cfg 45 g (right (left (left (right (left (right (right (bodyC cfg.P 45)))))))) fr h1 _
    refine aw_seq (by kernel_rfl) ?_
    rcases iteB_some hm with ⟨hb, hm⟩ | ⟨hb, hm⟩
    · replace H := H.know 13 hb (by kernel_rfl)
      refine aw_true (x := .tmp 13) (by kernel_rfl) H (fun fr => by kernel_rfl) ?_
      refine aw_skip (by kernel_rfl) ?_
      show AW cfg 45 g (right (right (left (left (right (left (right (right (bodyC cfg.P 45))))))))) fr h1 _
      refine aw_seq (by kernel_rfl) ?_
      obtain ⟨o2, ho, hm⟩ := bind_some hm
      refine aw_mono (Q' := fun e fr' h' => (∃ (x4 : List S_api_Member), e = .normal ∧ x4 = o2 ∧ ∃ (r3 : Option Nat), Has fr' 40 [(1, .map (some bp1)), (5, rowV r3 x4.length), (10, vs e_S_api_Member p0), (11, .int .i64 (p0.length : Int)), (12, .int .i64 x2)] ∧ HH g h' [.lst r3 63 (lst e_S_api_Member x4), .obj bp1 (.map 2 (encM (fun k : List UInt8 => .str k) (fun v : Int => .int .i64 v) p1))] F) ∨ False) ?_ ?_
      · replace hm := ho
        clear ho
        refine aw_block (id := 1) (by kernel_rfl) ?_
        refine aw_seq (by kernel_rfl) ?_
        refine aw_reg (id := 4) (n := 6) [(0, []), (1, []), (2, []), (3, []), (4, []), (5, [])] (by kernel_rfl) (by kernel_rfl) ?_
        refine at_seg [(0, [])] [(1, .map (some bp1)), (5, rowV r1 x1.length), (10, vs e_S_api_Member p0), (11, .int .i64 (p0.length : Int)), (12, .int .i64 x2), (14, .int .i64 x2)] H (noU_all rfl) (fun fr => by kernel_rfl) ?_
        intro fr H
        obtain ⟨x5, hx, hm⟩ := bind_some hm
        refine at_step (v := .vptr [.str x5.Name, .str x5.Link, .int .u8 x5.Kind, .int .i64 x5.Mode, .int .i64 x5.Uid, .int .i64 x5.Gid, .str x5.Uname, .str x5.Gname, .int .i64 x5.Major, .int .i64 x5.Minor, .int .i64 x5.Time.Sec, .int .i64 x5.Time.Nsec, vs e_S_api_Pair x5.Extra, .str x5.Data]) (h1 := h1) [(1, .map (some bp1)), (5, rowV r1 x1.length), (10, vs e_S_api_Member p0), (11, .int .i64 (p0.length : Int)), (12, .int .i64 x2), (14, .int .i64 x2), (15, .vptr [.str x5.Name, .str x5.Link, .int .u8 x5.Kind, .int .i64 x5.Mode, .int .i64 x5.Uid, .int .i64 x5.Gid, .str x5.Uname, .str x5.Gname, .int .i64 x5.Major, .int .i64 x5.Minor, .int .i64 x5.Time.Sec, .int .i64 x5.Time.Nsec, vs e_S_api_Pair x5.Extra, .str x5.Data])] H (fun fr => by kernel_rfl) (fun fr => .of (s_ixV (e := e_S_api_Member) (x := x5) enc_S_api_Member (by decide) (by kernel_rfl) hx)) ?_
        intro fr t H
        refine at_step (v := .agg (e_S_api_Member x5)) (h1 := h1) [(1, .map (some bp1)), (5, rowV r1 x1.length), (10, vs e_S_api_Member p0), (11, .int .i64 (p0.length : Int)), (12, .int .i64 x2), (14, .int .i64 x2), (16, .agg (e_S_api_Member x5))] H (fun fr => by kernel_rfl) (fun fr => .of (s_lv (by kernel_rfl))) ?_
        intro fr t H
        obtain ⟨h2, e1⟩ : ∃ x, x = h1.push (.cells none 2 [.str ([] : List UInt8), .str ([] : List UInt8), .int .u8 (0 : Int), .int .i64 (0 : Int), .int .i64 (0 : Int), .int .i64 (0 : Int), .str ([] : List UInt8), .str ([] : List UInt8), .int .i64 (0 : Int), .int .i64 (0 : Int), .int .i64 (0 : Int), .int .i64 (0 : Int), .slice none 0, .str ([] : List UInt8)]) := ⟨_, rfl⟩
        replace A := (A.push _).to e1
        refine at_step (v := .ptr (some (h1.size, 0))) (h1 := h2) [(1, .map (some bp1)), (5, rowV r1 x1.length), (7, .ptr (some (h1.size, 0))), (10, vs e_S_api_Member p0), (11, .int .i64 (p0.length : Int)), (12, .int .i64 x2), (14, .int .i64 x2), (16, .agg (e_S_api_Member x5))] H (fun fr => by kernel_rfl) (fun fr => .of (s_n' (by kernel_rfl) (congrArg some e1.symm))) ?_
        intro fr t H
        refine at_seg [(4, [])] [(1, .map (some bp1)), (5, rowV r1 x1.length), (6, .int .i64 x2), (7, .ptr (some (h1.size, 0))), (10, vs e_S_api_Member p0), (11, .int .i64 (p0.length : Int)), (12, .int .i64 x2), (16, .agg (e_S_api_Member x5))] H (noU_all rfl) (fun fr => by kernel_rfl) ?_
        intro fr H
        obtain ⟨h3, hx, A1⟩ := A.st 0 rfl (o := 0) (new := [.str x5.Name, .str x5.Link, .int .u8 x5.Kind, .int .i64 x5.Mode, .int .i64 x5.Uid, .int .i64 x5.Gid, .str x5.Uname, .str x5.Gname, .int .i64 x5.Major, .int .i64 x5.Minor, .int .i64 x5.Time.Sec, .int .i64 x5.Time.Nsec, vs e_S_api_Pair x5.Extra, .str x5.Data]) (ds := [.str x5.Name, .str x5.Link, .int .u8 x5.Kind, .int .i64 x5.Mode, .int .i64 x5.Uid, .int .i64 x5.Gid, .str x5.Uname, .str x5.Gname, .int .i64 x5.Major, .int .i64 x5.Minor, .int .i64 x5.Time.Sec, .int .i64 x5.Time.Nsec, vs e_S_api_Pair x5.Extra, .str x5.Data]) (Nat.le_of_ble_eq_true rfl) rfl rfl
        replace A : HH g h3 [.obj h1.size (.cells none 2 (e_S_api_Member x5)), .lst r1 63 (lst e_S_api_Member x1), .obj bp1 (.map 2 (encM (fun k : List UInt8 => .str k) (fun v : Int => .int .i64 v) p1))] F := A1
        refine at_step (v := .tuple []) (h1 := h3) [(1, .map (some bp1)), (5, rowV r1 x1.length), (6, .int .i64 x2), (7, .ptr (some (h1.size, 0))), (10, vs e_S_api_Member p0), (11, .int .i64 (p0.length : Int)), (12, .int .i64 x2)] H (fun fr => by kernel_rfl) (fun fr => .of (s_stG (by kernel_rfl) (stG_st hx rfl))) ?_
        intro fr t H
        refine at_nil ?_
        show AW cfg 45 g (right (left (left (right (right (left (left (right (left (right (right (bodyC cfg.P 45)))))))))))) fr h3 _
        refine aw_seq (by kernel_rfl) ?_
        refine aw_reg (id := 5) (n := 9) [(0, []), (1, []), (2, []), (3, []), (4, []), (5, []), (6, []), (7, []), (8, [])] (by kernel_rfl) (by kernel_rfl) ?_
        refine at_seg [(0, []), (1, [])] [(1, .map (some bp1)), (5, rowV r1 x1.length), (6, .int .i64 x2), (7, .ptr (some (h1.size, 0))), (10, vs e_S_api_Member p0), (11, .int .i64 (p0.length : Int)), (12, .int .i64 x2), (18, .map (some bp1)), (19, .ptr (some (h1.size, 0)))] H (noU_all rfl) (fun fr => by kernel_rfl) ?_
        intro fr H
        refine at_step (v := .str x5.Name) (h1 := h3) [(1, .map (some bp1)), (5, rowV r1 x1.length), (6, .int .i64 x2), (7, .ptr (some (h1.size, 0))), (10, vs e_S_api_Member p0), (11, .int .i64 (p0.length : Int)), (12, .int .i64 x2), (18, .map (some bp1)), (20, .str x5.Name)] H (fun fr => by kernel_rfl) (fun fr => .of (s_ld (by kernel_rfl) (A.ld1 0 rfl (o := 0) rfl))) ?_
        intro fr t H
        refine at_step (v := .tuple [.int .i64 ((mfind p1 x5.Name).getD (0 : Int)), .bool ((mfind p1 x5.Name).isSome)]) (h1 := h3) [(1, .map (some bp1)), (5, rowV r1 x1.length), (6, .int .i64 x2), (7, .ptr (some (h1.size, 0))), (10, vs e_S_api_Member p0), (11, .int .i64 (p0.length : Int)), (12, .int .i64 x2), (21, .tuple [.int .i64 ((mfind p1 x5.Name).getD (0 : Int)), .bool ((mfind p1 x5.Name).isSome)])] H (fun fr => by kernel_rfl) (fun fr => .of (s_lkT (by kernel_rfl) (HH.mlook (kt := 9) (et := 3) (ek := fun k : List UInt8 => .str k) (ev := fun v : Int => .int .i64 v) (keyS (by kernel_rfl)) A 2 rfl (t := 68) (by kernel_rfl) (z := (0 : Int)) (by kernel_rfl) x5.Name))) ?_
        intro fr t H
        refine at_seg [(4, []), (5, []), (6, []), (7, []), (8, [])] [(1, .map (some bp1)), (5, rowV r1 x1.length), (6, .int .i64 x2), (7, .ptr (some (h1.size, 0))), (8, .int .i64 ((mfind p1 x5.Name).getD (0 : Int))), (9, .bool ((mfind p1 x5.Name).isSome)), (10, vs e_S_api_Member p0), (11, .int .i64 (p0.length : Int)), (12, .int .i64 x2)] H (noU_all rfl) (fun fr => by kernel_rfl) ?_
        intro fr H
        refine at_nil ?_
        show AW cfg 45 g (right (right (left (left (right (right (left (left (right (left (right (right (bodyC cfg.P 45))))))))))))) fr h3 _
        refine aw_seq (by kernel_rfl) ?_
        refine aw_reg (id := 6) (n := 6) [(0, []), (1, []), (2, []), (3, []), (4, []), (5, [])] (by kernel_rfl) (by kernel_rfl) ?_
        refine at_seg [(0, []), (1, [])] [(1, .map (some bp1)), (5, rowV r1 x1.length), (6, .int .i64 x2), (7, .ptr (some (h1.size, 0))), (8, .int .i64 ((mfind p1 x5.Name).getD (0 : Int))), (10, vs e_S_api_Member p0), (11, .int .i64 (p0.length : Int)), (12, .int .i64 x2), (25, .bool ((mfind p1 x5.Name).isSome))] H (noU_all rfl) (fun fr => by kernel_rfl) ?_
        intro fr H
        refine at_cut [(2, []), (3, []), (4, []), (5, [])] (fun fr' h' => h3 = h' ∧ Has fr' 40 [(1, .map (some bp1)), (5, rowV r1 x1.length), (7, .ptr (some (h1.size, 0))), (10, vs e_S_api_Member p0), (11, .int .i64 (p0.length : Int)), (12, .int .i64 x2), (29, .bool (((mfind p1 x5.Name).isSome) && (((mfind p1 x5.Name).getD (0 : Int)) == x2)))]) ?_ ?_
        · cases hb : ((mfind p1 x5.Name).isSome : Bool) with
          | true =>
            replace H := H.know 25 hb (by kernel_rfl)
            refine at_seg [(2, []), (3, []), (4, []), (5, [])] [(1, .map (some bp1)), (5, rowV r1 x1.length), (7, .ptr (some (h1.size, 0))), (10, vs e_S_api_Member p0), (11, .int .i64 (p0.length : Int)), (12, .int .i64 x2), (29, .bool (((mfind p1 x5.Name).getD (0 : Int)) == x2))] H (noU_all rfl) (fun fr => by kernel_rfl) ?_
            intro fr H
            exact at_nil ⟨rfl, by first | exact H.less _ (fun fr => by rfl) | exact H.less _ (fun fr => by rw [hb]; rfl)⟩
          | false =>
            replace H := H.know 25 hb (by kernel_rfl)
            refine at_seg [(2, []), (3, []), (4, []), (5, [])] [(1, .map (some bp1)), (5, rowV r1 x1.length), (7, .ptr (some (h1.size, 0))), (10, vs e_S_api_Member p0), (11, .int .i64 (p0.length : Int)), (12, .int .i64 x2), (29, .bool false)] H (noU_all rfl) (fun fr => by kernel_rfl) ?_
            intro fr H
            exact at_nil ⟨rfl, by first | exact H.less _ (fun fr => by rfl) | exact H.less _ (fun fr => by rw [hb]; rfl)⟩
        · intro t fr h' hK
          obtain ⟨e, H⟩ := hK
          subst e
          refine at_nil ?_
          show AW cfg 45 g (right (right (right (left (left (right (right (left (left (right (left (right (right (bodyC cfg.P 45)))))))))))))) fr h3 _
          rcases iteB_some hm with ⟨hb, hm⟩ | ⟨hb, hm⟩
          · replace H := H.know 29 hb (by kernel_rfl)
            refine aw_true (x := .tmp 29) (by kernel_rfl) H (fun fr => by kernel_rfl) ?_
            refine aw_seq (by kernel_rfl) ?_
            refine aw_reg (id := 7) (n := 5) [(0, []), (1, []), (2, []), (3, []), (4, [])] (by kernel_rfl) (by kernel_rfl) ?_
            refine at_seg [(0, [])] [(1, .map (some bp1)), (5, rowV r1 x1.length), (7, .ptr (some (h1.size, 0))), (10, vs e_S_api_Member p0), (11, .int .i64 (p0.length : Int)), (12, .int .i64 x2), (30, .ptr (some (h1.size, 12)))] H (noU_all rfl) (fun fr => by kernel_rfl) ?_
            intro fr H
            refine at_step (v := vs e_S_api_Pair x5.Extra) (h1 := h3) [(1, .map (some bp1)), (5, rowV r1 x1.length), (7, .ptr (some (h1.size, 0))), (10, vs e_S_api_Member p0), (11, .int .i64 (p0.length : Int)), (12, .int .i64 x2), (31, vs e_S_api_Pair x5.Extra)] H (fun fr => by kernel_rfl) (fun fr => .of (s_ld (by kernel_rfl) (A.ld1 0 rfl (o := 12) rfl))) ?_
            intro fr t H
            have A1 := A.cut 0
            obtain ⟨hb, hm⟩ := need_some hm
            refine at_step (v := vs e_S_api_Pair x5.Extra) (h1 := h3) [(1, .map (some bp1)), (5, rowV r1 x1.length), (7, .ptr (some (h1.size, 0))), (10, vs e_S_api_Member p0), (11, .int .i64 (p0.length : Int)), (12, .int .i64 x2), (32, vs e_S_api_Pair x5.Extra)] H (fun fr => by kernel_rfl) (fun fr => Steps.call (by kernel_rfl) (runsCloneF (C := cfg) (f := 67) (a := 0) (t := 88) (xs := x5.Extra) enc_S_api_Pair (by decide) (by kernel_rfl) (l := exts) rfl (by kernel_rfl) (by kernel_rfl) rfl (firstV enc_S_api_Pair _ x5.Extra) (enc_S_api_Pair.canL _) hb)) ?_
            intro fr t H
            refine at_seg [(3, [])] [(1, .map (some bp1)), (5, rowV r1 x1.length), (7, .ptr (some (h1.size, 0))), (10, vs e_S_api_Member p0), (11, .int .i64 (p0.length : Int)), (12, .int .i64 x2), (32, vs e_S_api_Pair x5.Extra), (33, .ptr (some (h1.size, 12)))] H (noU_all rfl) (fun fr => by kernel_rfl) ?_
            intro fr H
            obtain ⟨h5, hx, A1⟩ := A.st 0 rfl (o := 12) (new := [vs e_S_api_Pair x5.Extra]) (ds := [.str x5.Name, .str x5.Link, .int .u8 x5.Kind, .int .i64 x5.Mode, .int .i64 x5.Uid, .int .i64 x5.Gid, .str x5.Uname, .str x5.Gname, .int .i64 x5.Major, .int .i64 x5.Minor, .int .i64 x5.Time.Sec, .int .i64 x5.Time.Nsec, vs e_S_api_Pair x5.Extra, .str x5.Data]) (Nat.le_of_ble_eq_true rfl) rfl rfl
            replace A : HH g h5 [.obj h1.size (.cells none 2 (e_S_api_Member x5)), .lst r1 63 (lst e_S_api_Member x1), .obj bp1 (.map 2 (encM (fun k : List UInt8 => .str k) (fun v : Int => .int .i64 v) p1))] F := A1
            refine at_step (v := .tuple []) (h1 := h5) [(1, .map (some bp1)), (5, rowV r1 x1.length), (7, .ptr (some (h1.size, 0))), (10, vs e_S_api_Member p0), (11, .int .i64 (p0.length : Int)), (12, .int .i64 x2)] H (fun fr => by kernel_rfl) (fun fr => .of (s_st (by kernel_rfl) rfl hx)) ?_
            intro fr t H
            refine at_nil ?_
            show AW cfg 45 g (right (left (right (right (right (left (left (right (right (left (left (right (left (right (right (bodyC cfg.P 45)))))))))))))))) fr h5 _
            refine aw_reg (id := 8) (n := 5) [(0, []), (1, []), (2, []), (3, []), (4, [])] (by kernel_rfl) (by kernel_rfl) ?_
            refine at_seg [(0, [])] [(1, .map (some bp1)), (7, .ptr (some (h1.size, 0))), (10, vs e_S_api_Member p0), (11, .int .i64 (p0.length : Int)), (12, .int .i64 x2), (34, rowV r1 x1.length)] H (noU_all rfl) (fun fr => by kernel_rfl) ?_
            intro fr H
            refine at_step (v := .agg (e_S_api_Member x5)) (h1 := h5) [(1, .map (some bp1)), (10, vs e_S_api_Member p0), (11, .int .i64 (p0.length : Int)), (12, .int .i64 x2), (34, rowV r1 x1.length), (35, .agg (e_S_api_Member x5))] H (fun fr => by kernel_rfl) (fun fr => .of (s_ldA (by kernel_rfl) (A.ldA 0 rfl (o := 0) (n := 14) ⟨Nat.le_of_ble_eq_true rfl, rfl⟩))) ?_
            intro fr t H
            obtain ⟨h6, e2⟩ : ∃ x, x = h5.push (.cells (some 63) 2 [.str x5.Name, .str x5.Link, .int .u8 x5.Kind, .int .i64 x5.Mode, .int .i64 x5.Uid, .int .i64 x5.Gid, .str x5.Uname, .str x5.Gname, .int .i64 x5.Major, .int .i64 x5.Minor, .int .i64 x5.Time.Sec, .int .i64 x5.Time.Nsec, vs e_S_api_Pair x5.Extra, .str x5.Data]) := ⟨_, rfl⟩
            replace A := (A.pushL _ _).to e2
            refine at_step (v := rowV (some h5.size) (([x5] : List S_api_Member).length)) (h1 := h6) [(1, .map (some bp1)), (10, vs e_S_api_Member p0), (11, .int .i64 (p0.length : Int)), (12, .int .i64 x2), (34, rowV r1 x1.length), (36, rowV (some h5.size) (([x5] : List S_api_Member).length))] H (fun fr => by kernel_rfl) (fun fr => .of (s_n' (by kernel_rfl) (congrArg some e2.symm))) ?_
            intro fr t H
            obtain ⟨hb, hm⟩ := need_some hm
            obtain ⟨r5, h7, hx, A1⟩ := HH.appO enc_S_api_Member (by decide) A 2 (xs := x1) (ys := ([x5] : List S_api_Member)) rfl (row_first A 0 rfl (n := ([x5] : List S_api_Member).length) (z := 14) rfl (by decide)) rfl rfl hb
            replace A : HH g h7 [.lst (some h5.size) 63 ([.str x5.Name, .str x5.Link, .int .u8 x5.Kind, .int .i64 x5.Mode, .int .i64 x5.Uid, .int .i64 x5.Gid, .str x5.Uname, .str x5.Gname, .int .i64 x5.Major, .int .i64 x5.Minor, .int .i64 x5.Time.Sec, .int .i64 x5.Time.Nsec, vs e_S_api_Pair x5.Extra, .str x5.Data]), .obj h1.size (.cells none 2 (e_S_api_Member x5)), .lst r5 63 (lst e_S_api_Member (x1 ++ ([x5] : List S_api_Member))), .obj bp1 (.map 2 (encM (fun k : List UInt8 => .str k) (fun v : Int => .int .i64 v) p1))] F := A1
            replace A : HH g h7 [.obj h1.size (.cells none 2 (e_S_api_Member x5)), .lst r5 63 (lst e_S_api_Member (x1 ++ ([x5] : List S_api_Member))), .obj bp1 (.map 2 (encM (fun k : List UInt8 => .str k) (fun v : Int => .int .i64 v) p1))] F := (HH.dropF (((A.front 3 rfl).front 3 rfl).front 3 rfl) 3)
            refine at_step (v := rowV r5 ((x1 ++ ([x5] : List S_api_Member)).length)) (h1 := h7) [(1, .map (some bp1)), (10, vs e_S_api_Member p0), (11, .int .i64 (p0.length : Int)), (12, .int .i64 x2), (37, rowV r5 ((x1 ++ ([x5] : List S_api_Member)).length))] H (fun fr => by kernel_rfl) (fun fr => .of (s_app (s := rowS r1 x1.length) (by kernel_rfl) hx)) ?_
            intro fr t H
            refine at_seg [(4, [])] [(1, .map (some bp1)), (5, rowV r5 ((x1 ++ ([x5] : List S_api_Member)).length)), (10, vs e_S_api_Member p0), (11, .int .i64 (p0.length : Int)), (12, .int .i64 x2)] H (noU_all rfl) (fun fr => by kernel_rfl) ?_
            intro fr H
            refine at_nil ?_
            replace A : HH g h7 [.lst r5 63 (lst e_S_api_Member (x1 ++ ([x5] : List S_api_Member))), .obj bp1 (.map 2 (encM (fun k : List UInt8 => .str k) (fun v : Int => .int .i64 v) p1))] F := (HH.dropF ((A.front 2 rfl).front 2 rfl) 2)
            exact Or.inl ⟨(x1 ++ ([x5] : List S_api_Member)), rfl, Option.some.inj hm, r5, H.less _ (fun fr => by kernel_rfl), A⟩
          · replace H := H.know 29 hb (by kernel_rfl)
            refine aw_false (x := .tmp 29) (by kernel_rfl) H (fun fr => by kernel_rfl) ?_
            refine aw_skip (by kernel_rfl) ?_
            replace A : HH g h3 [.lst r1 63 (lst e_S_api_Member x1), .obj bp1 (.map 2 (encM (fun k : List UInt8 => .str k) (fun v : Int => .int .i64 v) p1))] F := (HH.dropF ((A.front 2 rfl).front 2 rfl) 2)
            exact Or.inl ⟨x1, rfl, Option.some.inj hm, r1, H.less _ (fun fr => by kernel_rfl), A⟩
      · clear ho
        clear A
        intro e fr h8 hQ
        rcases hQ with ⟨x4, rfl, rfl, r3, H, A⟩ | hF
        · skip
          show AW cfg 45 g (right (right (right (left (left (right (left (right (right (bodyC cfg.P 45)))))))))) fr h8 _
          refine aw_reg (id := 9) (n := 2) [(0, []), (1, [])] (by kernel_rfl) (by kernel_rfl) ?_
          refine at_seg [(0, []), (1, [])] [(1, .map (some bp1)), (5, rowV r3 x4.length), (10, vs e_S_api_Member p0), (11, .int .i64 (p0.length : Int)), (12, .int .i64 (IntKind.i64.wrap (x2 + (1 : Int))))] H (noU_all rfl) (fun fr => by kernel_rfl) ?_
          intro fr H
          refine at_nil ?_
          exact Exists.intro (x4, IntKind.i64.wrap (x2 + (1 : Int))) (And.intro (Option.some.inj hm).symm ⟨x4, IntKind.i64.wrap (x2 + (1 : Int)), rfl, r3, H.less _ (fun fr => by kernel_rfl), A⟩)
        · exact hF.elim
    · replace H := H.know 13 hb (by kernel_rfl)
      refine aw_false (x := .tmp 13) (by kernel_rfl) H (fun fr => by kernel_rfl) ?_
      refine aw_exit (i := 0) (by kernel_rfl) ?_
      exact Exists.intro _ (And.intro (Option.some.inj hm).symm (fun e => Or.inl ⟨x1, rfl, e, r1, H.less _ (fun fr => by kernel_rfl), A⟩))
  · clear ho
    clear A
    intro e fr h9 hQ
    rcases hQ with ⟨x3, rfl, rfl, r2, H, A⟩ | hF
    · skip
      show AW cfg 45 g (right (right (right (bodyC cfg.P 45)))) fr h9 _
      refine aw_seq (by kernel_rfl) ?_
      refine aw_reg (id := 10) (n := 2) [(0, []), (1, [])] (by kernel_rfl) (by kernel_rfl) ?_
      refine at_seg [(0, []), (1, [])] [(4, rowV r2 x3.length)] H (noU_all rfl) (fun fr => by kernel_rfl) ?_
      intro fr H
      refine at_nil ?_
      show AW cfg 45 g (right (right (right (right (bodyC cfg.P 45))))) fr h9 _
      refine aw_ret (by kernel_rfl) ?_
      have e1 := Option.some.inj hm
      subst e1
      refine ⟨.inl rfl, rowV r2 x3.length, resH H (fun fr => by kernel_rfl), ?_⟩
      exact ⟨r2, rfl, A⟩
    · exact hF.elim
/-! ### boulter/delta.Last -/
noncomputable def M_delta_Last (p0 : List S_api_Member) : Option ((List S_api_Member)) :=
 (M_delta_places p0).bind fun x1 => (M_delta_kept p0 x1).bind fun x2 => some x2
theorem ok_delta_Last {g : Gd} {h : AHeap} {F : List Ck} {p0 : List S_api_Member} {q0 : List S_api_Member} {av : List AVal} (hm : M_delta_Last p0 = some q0) (hc : canL (cfg.still 23) av = [vs e_S_api_Member p0]) (A : HH g h [] F) : ∃ v h', Runs cfg g h 23 av v h' ∧ ∃ (rq0 : Option Nat), v = rowV rq0 q0.length ∧ HH g h' [.lst rq0 63 (lst e_S_api_Member q0)] F := by
  refine runsQ1 (n := 7) (rs := [.tmp 2]) (by kernel_rfl) hc (by kernel_rfl) ?_
  clear hc
  unfold M_delta_Last at hm
  refine start (n := 7) [(0, vs e_S_api_Member p0)] (by kernel_rfl) (by kernel_rfl) ?_
  intro fr H
  refine aw_seq (by kernel_rfl) ?_
  refine aw_reg (id := 0) (n := 1) [(0, [])] (by kernel_rfl) (by kernel_rfl) ?_
  refine at_seg [(0, [])] [(0, vs e_S_api_Member p0)] H (noU_all rfl) (fun fr => by kernel_rfl) ?_
  intro fr H
  refine at_nil ?_
  show AW cfg 23 g (right (bodyC cfg.P 23)) fr h _
  refine aw_seq (by kernel_rfl) ?_
  refine aw_reg (id := 1) (n := 5) [(0, []), (1, []), (2, []), (3, []), (4, [])] (by kernel_rfl) (by kernel_rfl) ?_
  refine at_seg [(0, []), (1, [])] [(3, vs e_S_api_Member p0), (4, vs e_S_api_Member p0)] H (noU_all rfl) (fun fr => by kernel_rfl) ?_
  intro fr H
  have A1 := A.cut 0
  obtain ⟨x1, hx, hm⟩ := bind_some hm
  obtain ⟨v1, h1, hr, bqw1, rfl, A1⟩ := ok_delta_places (av := [vs e_S_api_Member p0]) hx (by kernel_rfl) A1
  replace A : HH g h1 [.obj bqw1 (.map 2 (encM (fun k : List UInt8 => .str k) (fun v : Int => .int .i64 v) x1))] F := A.glue0 (n := 0) A1
  refine at_step (v := .map (some bqw1)) (h1 := h1) [(3, vs e_S_api_Member p0), (5, .map (some bqw1))] H (fun fr => by kernel_rfl) (fun fr => Steps.call (by kernel_rfl) hr) ?_
  intro fr t H
  have A1 := A.cut 1
  obtain ⟨x2, hx, hm⟩ := bind_some hm
  obtain ⟨v1, h2, hr, rqw2, rfl, A1⟩ := ok_delta_kept (av := [vs e_S_api_Member p0, .map (some bqw1)]) hx (by kernel_rfl) A1
  replace A : HH g h2 [.lst rqw2 63 (lst e_S_api_Member x2), .obj bqw1 (.map 2 (encM (fun k : List UInt8 => .str k) (fun v : Int => .int .i64 v) x1))] F := A.glue0 (n := 1) A1
  refine at_step (v := rowV rqw2 x2.length) (h1 := h2) [(6, rowV rqw2 x2.length)] H (fun fr => by kernel_rfl) (fun fr => Steps.call (by kernel_rfl) hr) ?_
  intro fr t H
  refine at_seg [(4, [])] [(2, rowV rqw2 x2.length)] H (noU_all rfl) (fun fr => by kernel_rfl) ?_
  intro fr H
  refine at_nil ?_
  show AW cfg 23 g (right (right (bodyC cfg.P 23))) fr h2 _
  refine aw_ret (by kernel_rfl) ?_
  have e1 := Option.some.inj hm
  subst e1
  refine ⟨.inl rfl, rowV rqw2 x2.length, resH H (fun fr => by kernel_rfl), ?_⟩
  replace A : HH g h2 [.lst rqw2 63 (lst e_S_api_Member x2)] F := (HH.dropF (A.front 0 rfl) 1)
  exact ⟨rqw2, rfl, A⟩
/-! ### slices.insertionSortCmpFunc[boulter/api.Member] -/
noncomputable def M_slices_insertionSortCmpFunc_boulter_api_Member_sOIIF_8ba1_L1 (p1 : Int) (s : (List S_api_Member) × Int) : Option (((List S_api_Member) × Int) ⊕ (((List S_api_Member)))) :=
  match s with
  | (x4, x5) => (iteB (decide (x5 > p1)) ((ixV x4 x5).bind fun x8 => (ixV x4 (IntKind.i64.wrap (x5 - (1 : Int)))).bind fun x9 => (M_delta_byName_1 x8 x9).bind fun x10 => some (decide (x10 < (0 : Int)))) (some false) : Option (Bool)).bind fun x7 => iteB x7 ((ixV x4 (IntKind.i64.wrap (x5 - (1 : Int)))).bind fun x11 => (ixV x4 x5).bind fun x12 => (ixV x4 x5).bind fun x13 => (ixV (x4.set x5.toNat x11) (IntKind.i64.wrap (x5 - (1 : Int)))).bind fun x14 => some (.inl (((x4.set x5.toNat x11).set (IntKind.i64.wrap (x5 - (1 : Int))).toNat x12), IntKind.i64.wrap (x5 - (1 : Int))))) (some (.inr x4))
noncomputable def M_slices_insertionSortCmpFunc_boulter_api_Member_sOIIF_8ba1_L0 (p1 : Int) (p2 : Int) (s : (List S_api_Member) × Int) : Option (((List S_api_Member) × Int) ⊕ (((List S_api_Member)))) :=
  match s with
  | (x1, x2) => iteB (decide (x2 < p2)) ((loop (M_slices_insertionSortCmpFunc_boulter_api_Member_sOIIF_8ba1_L1 p1) (x1, x2)).bind fun x6 => some (.inl (x6, IntKind.i64.wrap (x2 + (1 : Int))))) (some (.inr x1))
noncomputable def M_slices_insertionSortCmpFunc_boulter_api_Member_sOIIF_8ba1 (p0 : List S_api_Member) (p1 : Int) (p2 : Int) : Option ((List S_api_Member)) :=
 (loop (M_slices_insertionSortCmpFunc_boulter_api_Member_sOIIF_8ba1_L0 p1 p2) (p0, IntKind.i64.wrap (p1 + (1 : Int)))).bind fun x3 => some x3
theorem ok_slices_insertionSortCmpFunc_boulter_api_Member_sOIIF_8ba1 {g : Gd} {h : AHeap} {F : List Ck} {p0 : List S_api_Member} {p1 : Int} {p2 : Int} {rp0 : Option Nat} {u0 : List S_api_Member} {av : List AVal} (hm : M_slices_insertionSortCmpFunc_boulter_api_Member_sOIIF_8ba1 p0 p1 p2 = some u0) (hc : canL (cfg.still 98) av = [rowV rp0 p0.length, .int .i64 p1, .int .i64 p2, .func (.func 74) [] []]) (A : HH g h [.lst rp0 63 (lst e_S_api_Member p0)] F) : ∃ v h', Runs cfg g h 98 av v h' ∧ ∃ (hl'0 : u0.length = p0.length), v = .tuple [] ∧ HH g h' [.lst rp0 63 (lst e_S_api_Member u0)] F := by
  refine runsQ1 (n := 53) (rs := []) (by kernel_rfl) hc (by kernel_rfl) ?_
  clear hc
  unfold M_slices_insertionSortCmpFunc_boulter_api_Member_sOIIF_8ba1 at hm
  refine start (n := 53) [(0, rowV rp0 p0.length), (1, .int .i64 p1), (2, .int .i64 p2), (3, .func (.func 74) [] [])] (by kernel_rfl) (by kernel_rfl) ?_
  intro fr H
  refine aw_seq (by kernel_rfl) ?_
  refine aw_reg (id := 0) (n := 3) [(0, []), (1, []), (2, [])] (by kernel_rfl) (by kernel_rfl) ?_
  refine at_seg [(0, []), (1, []), (2, [])] [(0, rowV rp0 p0.length), (1, .int .i64 p1), (2, .int .i64 p2), (3, .func (.func 74) [] []), (8, .int .i64 (IntKind.i64.wrap (p1 + (1 : Int))))] H (noU_all rfl) (fun fr => by kernel_rfl) ?_
  intro fr H
  refine at_nil ?_
  show AW cfg 98 g (right (bodyC cfg.P 98)) fr h _
  refine aw_block (id := 0) (by kernel_rfl) ?_
  obtain ⟨o1, ho, hm⟩ := bind_some hm
  refine aw_mono (Q' := fun e fr' h' => (∃ (x3 : List S_api_Member), e = .exit 0 ∧ x3 = o1 ∧ ∃ (hl2 : x3.length = p0.length), Has fr' 53 [] ∧ HH g h' [.lst rp0 63 (lst e_S_api_Member x3)] F) ∨ False) ?_ ?_
  · refine aw_loop (by kernel_rfl) (fun (s : (List S_api_Member) × Int) fr' h' => ∃ (x1 : List S_api_Member) (x2 : Int), (x1, x2) = s ∧ ∃ (hl1 : x1.length = p0.length), Has fr' 53 [(0, rowV rp0 x1.length), (1, .int .i64 p1), (2, .int .i64 p2), (3, .func (.func 74) [] []), (8, .int .i64 x2)] ∧ HH g h' [.lst rp0 63 (lst e_S_api_Member x1)] F) ho ⟨p0, IntKind.i64.wrap (p1 + (1 : Int)), rfl, rfl, H.less _ (fun fr => by kernel_rfl), A⟩ ?_
    clear ho hm H A
    intro s q fr h1 hI hm
    obtain ⟨x1, x2, rfl, hl1, H, A⟩ := hI
    unfold M_slices_insertionSortCmpFunc_boulter_api_Member_sOIIF_8ba1_L0 at hm
    refine aw_seq (by kernel_rfl) ?_
    refine aw_seq (by kernel_rfl) ?_
    refine aw_reg (id := 1) (n := 3) [(0, []), (1, []), (2, [])] (by kernel_rfl) (by kernel_rfl) ?_
    refine at_seg [(0, []), (1, []), (2, [])] [(0, rowV rp0 x1.length), (1, .int .i64 p1), (2, .int .i64 p2), (3, .func (.func 74) [] []), (8, .int .i64 x2), (14, .bool (decide (x2 < p2)))] H (noU_all rfl) (fun fr => by kernel_rfl) ?_
    intro fr H
    refine at_nil ?_
    show AW cfg 98 g (right (left (left (left (right (bodyC cfg.P 98)))))) fr h1 _
    rcases iteB_some hm with ⟨hb, hm⟩ | ⟨hb, hm⟩
    · replace H := H.know 14 hb (by kernel_rfl)
      refine aw_true (x := .tmp 14) (by kernel_rfl) H (fun fr => by kernel_rfl) ?_
      refine aw_skip (by kernel_rfl) ?_
      show AW cfg 98 g (right (left (left (right (bodyC cfg.P 98))))) fr h1 _
      refine aw_seq (by kernel_rfl) ?_
      refine aw_block (id := 1) (by kernel_rfl) ?_
      refine aw_seq (by kernel_rfl) ?_
      refine aw_reg (id := 3) (n := 2) [(0, []), (1, [])] (by kernel_rfl) (by kernel_rfl) ?_
      refine at_seg [(0, []), (1, [])] [(0, rowV rp0 x1.length), (1, .int .i64 p1), (2, .int .i64 p2), (3, .func (.func 74) [] []), (8, .int .i64 x2), (9, .int .i64 x2)] H (noU_all rfl) (fun fr => by kernel_rfl) ?_
      intro fr H
      refine at_nil ?_
      show AW cfg 98 g (right (left (left (right (left (left (right (bodyC cfg.P 98)))))))) fr h1 _
      refine aw_block (id := 2) (by kernel_rfl) ?_
      obtain ⟨o2, ho, hm⟩ := bind_some hm
      refine aw_mono (Q' := fun e fr' h' => (∃ (x6 : List S_api_Member), e = .exit 2 ∧ x6 = o2 ∧ ∃ (hl4 : x6.length = p0.length), Has fr' 53 [(0, rowV rp0 x6.length), (1, .int .i64 p1), (2, .int .i64 p2), (3, .func (.func 74) [] []), (8, .int .i64 x2)] ∧ HH g h' [.lst rp0 63 (lst e_S_api_Member x6)] F) ∨ False) ?_ ?_
      · refine aw_loop (by kernel_rfl) (fun (s : (List S_api_Member) × Int) fr' h' => ∃ (x4 : List S_api_Member) (x5 : Int), (x4, x5) = s ∧ ∃ (hl3 : x4.length = p0.length), Has fr' 53 [(0, rowV rp0 x4.length), (1, .int .i64 p1), (2, .int .i64 p2), (3, .func (.func 74) [] []), (8, .int .i64 x2), (9, .int .i64 x5)] ∧ HH g h' [.lst rp0 63 (lst e_S_api_Member x4)] F) ho ⟨x1, x2, rfl, hl1, H.less _ (fun fr => by kernel_rfl), A⟩ ?_
        clear ho hm H A
        intro s q fr h2 hI hm
        obtain ⟨x4, x5, rfl, hl3, H, A⟩ := hI
        unfold M_slices_insertionSortCmpFunc_boulter_api_Member_sOIIF_8ba1_L1 at hm
        refine aw_seq (by kernel_rfl) ?_
        refine aw_seq (by kernel_rfl) ?_
        refine aw_draw (id := 4) (n := 17) (by kernel_rfl) [(0, []), (1, []), (2, []), (3, []), (4, []), (5, []), (6, []), (7, []), (8, []), (9, []), (10, []), (11, []), (12, []), (13, []), (14, []), (15, []), (16, [])] (by kernel_rfl) ?_
        refine at_seg [(0, []), (1, []), (2, []), (3, [])] [(0, rowV rp0 x4.length), (1, .int .i64 p1), (2, .int .i64 p2), (3, .func (.func 74) [] []), (8, .int .i64 x2), (9, .int .i64 x5), (21, .bool (decide (x5 > p1)))] H (noU_all rfl) (fun fr => by kernel_rfl) ?_
        intro fr H
        obtain ⟨x7, ho, hm⟩ := bind_some hm
        refine at_cut [(4, []), (5, []), (6, []), (7, []), (8, []), (9, []), (10, []), (11, []), (12, []), (13, []), (14, []), (15, []), (16, [])] (fun fr' h' => Has fr' 53 [(0, rowV rp0 x4.length), (1, .int .i64 p1), (2, .int .i64 p2), (3, .func (.func 74) [] []), (8, .int .i64 x2), (9, .int .i64 x5), (34, .bool x7)] ∧ HH g h' [.lst rp0 63 (lst e_S_api_Member x4)] F) ?_ ?_
        · rcases iteB_some ho with ⟨hb, hm⟩ | ⟨hb, hm⟩
          · replace H := H.know 21 hb (by kernel_rfl)
            refine at_seg [(4, []), (5, []), (6, [])] [(0, rowV rp0 x4.length), (1, .int .i64 p1), (2, .int .i64 p2), (3, .func (.func 74) [] []), (8, .int .i64 x2), (9, .int .i64 x5), (21, .bool true), (22, .func (.func 74) [] []), (23, rowV rp0 x4.length), (24, .int .i64 x5)] H (noU_all rfl) (fun fr => by kernel_rfl) ?_
            intro fr H
            obtain ⟨x8, hx, hm⟩ := bind_some hm
            obtain ⟨i1, er1, _, hx, hq1⟩ := HH.ixO enc_S_api_Member (by decide) A 0 (xs := x4) rfl hx
            refine at_step (v := .ptr (some (i1, x5.toNat * 14))) (h1 := h2) [(0, rowV rp0 x4.length), (1, .int .i64 p1), (2, .int .i64 p2), (3, .func (.func 74) [] []), (8, .int .i64 x2), (9, .int .i64 x5), (21, .bool true), (22, .func (.func 74) [] []), (25, .ptr (some (i1, x5.toNat * 14)))] H (fun fr => by kernel_rfl) (fun fr => .of (s_ixL (s := rowS rp0 x4.length) (by kernel_rfl) hx)) ?_
            intro fr t H
            refine at_step (v := .agg (e_S_api_Member x8)) (h1 := h2) [(0, rowV rp0 x4.length), (1, .int .i64 p1), (2, .int .i64 p2), (3, .func (.func 74) [] []), (8, .int .i64 x2), (9, .int .i64 x5), (21, .bool true), (22, .func (.func 74) [] []), (26, .agg (e_S_api_Member x8))] H (fun fr => by kernel_rfl) (fun fr => .of (s_ldA (by kernel_rfl) (row_ldA enc_S_api_Member (HH.row A 0 rfl er1) hq1 0 14 (Nat.le_of_ble_eq_true rfl)))) ?_
            intro fr t H
            refine at_seg [(9, []), (10, []), (11, [])] [(0, rowV rp0 x4.length), (1, .int .i64 p1), (2, .int .i64 p2), (3, .func (.func 74) [] []), (8, .int .i64 x2), (9, .int .i64 x5), (21, .bool true), (22, .func (.func 74) [] []), (26, .agg (e_S_api_Member x8)), (27, rowV rp0 x4.length), (29, .int .i64 (IntKind.i64.wrap (x5 - (1 : Int))))] H (noU_all rfl) (fun fr => by kernel_rfl) ?_
            intro fr H
            obtain ⟨x9, hx, hm⟩ := bind_some hm
            obtain ⟨i2, er2, _, hx, hq2⟩ := HH.ixO enc_S_api_Member (by decide) A 0 (xs := x4) rfl hx
            refine at_step (v := .ptr (some (i2, (IntKind.i64.wrap (x5 - (1 : Int))).toNat * 14))) (h1 := h2) [(0, rowV rp0 x4.length), (1, .int .i64 p1), (2, .int .i64 p2), (3, .func (.func 74) [] []), (8, .int .i64 x2), (9, .int .i64 x5), (21, .bool true), (22, .func (.func 74) [] []), (26, .agg (e_S_api_Member x8)), (30, .ptr (some (i2, (IntKind.i64.wrap (x5 - (1 : Int))).toNat * 14)))] H (fun fr => by kernel_rfl) (fun fr => .of (s_ixL (s := rowS rp0 x4.length) (by kernel_rfl) hx)) ?_
            intro fr t H
            refine at_step (v := .agg (e_S_api_Member x9)) (h1 := h2) [(0, rowV rp0 x4.length), (1, .int .i64 p1), (2, .int .i64 p2), (3, .func (.func 74) [] []), (8, .int .i64 x2), (9, .int .i64 x5), (21, .bool true), (22, .func (.func 74) [] []), (26, .agg (e_S_api_Member x8)), (31, .agg (e_S_api_Member x9))] H (fun fr => by kernel_rfl) (fun fr => .of (s_ldA (by kernel_rfl) (row_ldA enc_S_api_Member (HH.row A 0 rfl er2) hq2 0 14 (Nat.le_of_ble_eq_true rfl)))) ?_
            intro fr t H
            have A1 := A.cut 0
            obtain ⟨x10, hx, hm⟩ := bind_some hm
            obtain ⟨v1, h4, hr, rfl, A1⟩ := ok_delta_byName_1 (av := [.agg (e_S_api_Member x8), .agg (e_S_api_Member x9)]) hx (by kernel_rfl) A1
            replace A : HH g h4 [.lst rp0 63 (lst e_S_api_Member x4)] F := A.glue0 (n := 0) A1
            refine at_step (v := .int .i64 x10) (h1 := h4) [(0, rowV rp0 x4.length), (1, .int .i64 p1), (2, .int .i64 p2), (3, .func (.func 74) [] []), (8, .int .i64 x2), (9, .int .i64 x5), (21, .bool true), (32, .int .i64 x10)] H (fun fr => by kernel_rfl) (fun fr => Steps.call (by kernel_rfl) hr) ?_
            intro fr t H
            refine at_seg [(15, []), (16, [])] [(0, rowV rp0 x4.length), (1, .int .i64 p1), (2, .int .i64 p2), (3, .func (.func 74) [] []), (8, .int .i64 x2), (9, .int .i64 x5), (34, .bool (decide (x10 < (0 : Int))))] H (noU_all rfl) (fun fr => by kernel_rfl) ?_
            intro fr H
            have e1 := Option.some.inj hm
            subst e1
            exact at_nil ⟨H.less _ (fun fr => by kernel_rfl), A⟩
          · replace H := H.know 21 hb (by kernel_rfl)
            refine at_seg [(4, []), (5, []), (6, []), (7, []), (8, []), (9, []), (10, []), (11, []), (12, []), (13, []), (14, []), (15, []), (16, [])] [(0, rowV rp0 x4.length), (1, .int .i64 p1), (2, .int .i64 p2), (3, .func (.func 74) [] []), (8, .int .i64 x2), (9, .int .i64 x5), (34, .bool false)] H (noU_all rfl) (fun fr => by kernel_rfl) ?_
            intro fr H
            have e1 := Option.some.inj hm
            subst e1
            exact at_nil ⟨H.less _ (fun fr => by kernel_rfl), A⟩
        · clear A
          intro t fr h3 hK
          obtain ⟨H, A⟩ := hK
          refine at_nil ?_
          show AW cfg 98 g (right (left (left (left (right (left (left (right (left (left (right (bodyC cfg.P 98)))))))))))) fr h3 _
          rcases iteB_some hm with ⟨hb, hm⟩ | ⟨hb, hm⟩
          · replace H := H.know 34 hb (by kernel_rfl)
            refine aw_true (x := .tmp 34) (by kernel_rfl) H (fun fr => by kernel_rfl) ?_
            refine aw_skip (by kernel_rfl) ?_
            show AW cfg 98 g (right (left (left (right (left (left (right (left (left (right (bodyC cfg.P 98))))))))))) fr h3 _
            refine aw_seq (by kernel_rfl) ?_
            refine aw_block (id := 3) (by kernel_rfl) ?_
            refine aw_draw (id := 6) (n := 18) (by kernel_rfl) [(0, []), (1, []), (2, []), (3, []), (4, []), (5, []), (6, []), (7, []), (8, []), (9, []), (10, []), (11, []), (12, []), (13, []), (14, []), (15, []), (16, []), (17, [])] (by kernel_rfl) ?_
            refine at_seg [(0, []), (1, []), (2, []), (3, []), (4, []), (5, []), (6, []), (7, [])] [(0, rowV rp0 x4.length), (1, .int .i64 p1), (2, .int .i64 p2), (3, .func (.func 74) [] []), (8, .int .i64 x2), (9, .int .i64 x5), (37, rowV rp0 x4.length), (38, .int .i64 x5), (39, rowV rp0 x4.length), (41, .int .i64 (IntKind.i64.wrap (x5 - (1 : Int)))), (42, rowV rp0 x4.length), (44, .int .i64 (IntKind.i64.wrap (x5 - (1 : Int))))] H (noU_all rfl) (fun fr => by kernel_rfl) ?_
            intro fr H
            obtain ⟨x11, hx, hm⟩ := bind_some hm
            obtain ⟨i3, er3, _, hx, hq3⟩ := HH.ixO enc_S_api_Member (by decide) A 0 (xs := x4) rfl hx
            refine at_step (v := .ptr (some (i3, (IntKind.i64.wrap (x5 - (1 : Int))).toNat * 14))) (h1 := h3) [(0, rowV rp0 x4.length), (1, .int .i64 p1), (2, .int .i64 p2), (3, .func (.func 74) [] []), (8, .int .i64 x2), (9, .int .i64 x5), (37, rowV rp0 x4.length), (38, .int .i64 x5), (39, rowV rp0 x4.length), (41, .int .i64 (IntKind.i64.wrap (x5 - (1 : Int)))), (45, .ptr (some (i3, (IntKind.i64.wrap (x5 - (1 : Int))).toNat * 14)))] H (fun fr => by kernel_rfl) (fun fr => .of (s_ixL (s := rowS rp0 x4.length) (by kernel_rfl) hx)) ?_
            intro fr t H
            refine at_step (v := .agg (e_S_api_Member x11)) (h1 := h3) [(0, rowV rp0 x4.length), (1, .int .i64 p1), (2, .int .i64 p2), (3, .func (.func 74) [] []), (8, .int .i64 x2), (9, .int .i64 x5), (37, rowV rp0 x4.length), (38, .int .i64 x5), (39, rowV rp0 x4.length), (41, .int .i64 (IntKind.i64.wrap (x5 - (1 : Int)))), (46, .agg (e_S_api_Member x11))] H (fun fr => by kernel_rfl) (fun fr => .of (s_ldA (by kernel_rfl) (row_ldA enc_S_api_Member (HH.row A 0 rfl er3) hq3 0 14 (Nat.le_of_ble_eq_true rfl)))) ?_
            intro fr t H
            refine at_seg [(10, []), (11, [])] [(0, rowV rp0 x4.length), (1, .int .i64 p1), (2, .int .i64 p2), (3, .func (.func 74) [] []), (8, .int .i64 x2), (9, .int .i64 x5), (37, rowV rp0 x4.length), (38, .int .i64 x5), (39, rowV rp0 x4.length), (41, .int .i64 (IntKind.i64.wrap (x5 - (1 : Int)))), (46, .agg (e_S_api_Member x11)), (47, rowV rp0 x4.length), (48, .int .i64 x5)] H (noU_all rfl) (fun fr => by kernel_rfl) ?_
            intro fr H
            obtain ⟨x12, hx, hm⟩ := bind_some hm
            obtain ⟨i4, er4, _, hx, hq4⟩ := HH.ixO enc_S_api_Member (by decide) A 0 (xs := x4) rfl hx
            refine at_step (v := .ptr (some (i4, x5.toNat * 14))) (h1 := h3) [(0, rowV rp0 x4.length), (1, .int .i64 p1), (2, .int .i64 p2), (3, .func (.func 74) [] []), (8, .int .i64 x2), (9, .int .i64 x5), (37, rowV rp0 x4.length), (38, .int .i64 x5), (39, rowV rp0 x4.length), (41, .int .i64 (IntKind.i64.wrap (x5 - (1 : Int)))), (46, .agg (e_S_api_Member x11)), (49, .ptr (some (i4, x5.toNat * 14)))] H (fun fr => by kernel_rfl) (fun fr => .of (s_ixL (s := rowS rp0 x4.length) (by kernel_rfl) hx)) ?_
            intro fr t H
            refine at_step (v := .agg (e_S_api_Member x12)) (h1 := h3) [(0, rowV rp0 x4.length), (1, .int .i64 p1), (2, .int .i64 p2), (3, .func (.func 74) [] []), (8, .int .i64 x2), (9, .int .i64 x5), (37, rowV rp0 x4.length), (38, .int .i64 x5), (39, rowV rp0 x4.length), (41, .int .i64 (IntKind.i64.wrap (x5 - (1 : Int)))), (46, .agg (e_S_api_Member x11)), (50, .agg (e_S_api_Member x12))] H (fun fr => by kernel_rfl) (fun fr => .of (s_ldA (by kernel_rfl) (row_ldA enc_S_api_Member (HH.row A 0 rfl er4) hq4 0 14 (Nat.le_of_ble_eq_true rfl)))) ?_
            intro fr t H
            obtain ⟨x13, hx, hm⟩ := bind_some hm
            obtain ⟨i5, er5, _, hx, hq5⟩ := HH.ixO enc_S_api_Member (by decide) A 0 (xs := x4) rfl hx
            refine at_step (v := .ptr (some (i5, x5.toNat * 14))) (h1 := h3) [(0, rowV rp0 x4.length), (1, .int .i64 p1), (2, .int .i64 p2), (3, .func (.func 74) [] []), (8, .int .i64 x2), (9, .int .i64 x5), (39, rowV rp0 x4.length), (41, .int .i64 (IntKind.i64.wrap (x5 - (1 : Int)))), (46, .agg (e_S_api_Member x11)), (50, .agg (e_S_api_Member x12)), (51, .ptr (some (i5, x5.toNat * 14)))] H (fun fr => by kernel_rfl) (fun fr => .of (s_ixL (s := rowS rp0 x4.length) (by kernel_rfl) hx)) ?_
            intro fr t H
            obtain ⟨h5, hx, A1⟩ := HH.stO enc_S_api_Member A 0 rfl er5 hq5 (y := x11) (o := 0) (new := [.str x11.Name, .str x11.Link, .int .u8 x11.Kind, .int .i64 x11.Mode, .int .i64 x11.Uid, .int .i64 x11.Gid, .str x11.Uname, .str x11.Gname, .int .i64 x11.Major, .int .i64 x11.Minor, .int .i64 x11.Time.Sec, .int .i64 x11.Time.Nsec, vs e_S_api_Pair x11.Extra, .str x11.Data]) rfl rfl (Nat.le_of_ble_eq_true rfl)
            have hl5 : (x4.set x5.toNat x11).length = p0.length := List.length_set.trans hl3
            have el : rowV rp0 x4.length = rowV rp0 (x4.set x5.toNat x11).length := congrArg _ List.length_set.symm
            try rw [el] at H
            try rw [el] at A1
            replace A : HH g h5 [.lst rp0 63 (lst e_S_api_Member (x4.set x5.toNat x11))] F := A1
            refine at_step (v := .tuple []) (h1 := h5) [(0, rowV rp0 ((x4.set x5.toNat x11).length)), (1, .int .i64 p1), (2, .int .i64 p2), (3, .func (.func 74) [] []), (8, .int .i64 x2), (9, .int .i64 x5), (39, rowV rp0 ((x4.set x5.toNat x11).length)), (41, .int .i64 (IntKind.i64.wrap (x5 - (1 : Int)))), (50, .agg (e_S_api_Member x12))] H (fun fr => by kernel_rfl) (fun fr => .of (s_stG (by kernel_rfl) (stG_st hx rfl))) ?_
            intro fr t H
            obtain ⟨x14, hx, hm⟩ := bind_some hm
            obtain ⟨i6, er6, _, hx, hq6⟩ := HH.ixO enc_S_api_Member (by decide) A 0 (xs := (x4.set x5.toNat x11)) rfl hx
            refine at_step (v := .ptr (some (i6, (IntKind.i64.wrap (x5 - (1 : Int))).toNat * 14))) (h1 := h5) [(0, rowV rp0 ((x4.set x5.toNat x11).length)), (1, .int .i64 p1), (2, .int .i64 p2), (3, .func (.func 74) [] []), (8, .int .i64 x2), (9, .int .i64 x5), (50, .agg (e_S_api_Member x12)), (52, .ptr (some (i6, (IntKind.i64.wrap (x5 - (1 : Int))).toNat * 14)))] H (fun fr => by kernel_rfl) (fun fr => .of (s_ixL (s := rowS rp0 ((x4.set x5.toNat x11).length)) (by kernel_rfl) hx)) ?_
            intro fr t H
            obtain ⟨h6, hx, A1⟩ := HH.stO enc_S_api_Member A 0 rfl er6 hq6 (y := x12) (o := 0) (new := [.str x12.Name, .str x12.Link, .int .u8 x12.Kind, .int .i64 x12.Mode, .int .i64 x12.Uid, .int .i64 x12.Gid, .str x12.Uname, .str x12.Gname, .int .i64 x12.Major, .int .i64 x12.Minor, .int .i64 x12.Time.Sec, .int .i64 x12.Time.Nsec, vs e_S_api_Pair x12.Extra, .str x12.Data]) rfl rfl (Nat.le_of_ble_eq_true rfl)
            have hl6 : ((x4.set x5.toNat x11).set (IntKind.i64.wrap (x5 - (1 : Int))).toNat x12).length = p0.length := List.length_set.trans hl5
            have el : rowV rp0 (x4.set x5.toNat x11).length = rowV rp0 ((x4.set x5.toNat x11).set (IntKind.i64.wrap (x5 - (1 : Int))).toNat x12).length := congrArg _ List.length_set.symm
            try rw [el] at H
            try rw [el] at A1
            replace A : HH g h6 [.lst rp0 63 (lst e_S_api_Member ((x4.set x5.toNat x11).set (IntKind.i64.wrap (x5 - (1 : Int))).toNat x12))] F := A1
            refine at_step (v := .tuple []) (h1 := h6) [(0, rowV rp0 (((x4.set x5.toNat x11).set (IntKind.i64.wrap (x5 - (1 : Int))).toNat x12).length)), (1, .int .i64 p1), (2, .int .i64 p2), (3, .func (.func 74) [] []), (8, .int .i64 x2), (9, .int .i64 x5)] H (fun fr => by kernel_rfl) (fun fr => .of (s_stG (by kernel_rfl) (stG_st hx rfl))) ?_
            intro fr t H
            refine at_nil ?_
            show AW cfg 98 g (right (right (left (left (right (left (left (right (left (left (right (bodyC cfg.P 98)))))))))))) fr h6 _
            refine aw_reg (id := 5) (n := 3) [(0, []), (1, []), (2, [])] (by kernel_rfl) (by kernel_rfl) ?_
            refine at_seg [(0, []), (1, []), (2, [])] [(0, rowV rp0 (((x4.set x5.toNat x11).set (IntKind.i64.wrap (x5 - (1 : Int))).toNat x12).length)), (1, .int .i64 p1), (2, .int .i64 p2), (3, .func (.func 74) [] []), (8, .int .i64 x2), (9, .int .i64 (IntKind.i64.wrap (x5 - (1 : Int))))] H (noU_all rfl) (fun fr => by kernel_rfl) ?_
            intro fr H
            refine at_nil ?_
            exact Exists.intro (((x4.set x5.toNat x11).set (IntKind.i64.wrap (x5 - (1 : Int))).toNat x12), IntKind.i64.wrap (x5 - (1 : Int))) (And.intro (Option.some.inj hm).symm ⟨((x4.set x5.toNat x11).set (IntKind.i64.wrap (x5 - (1 : Int))).toNat x12), IntKind.i64.wrap (x5 - (1 : Int)), rfl, hl6, H.less _ (fun fr => by kernel_rfl), A⟩)
          · replace H := H.know 34 hb (by kernel_rfl)
            refine aw_false (x := .tmp 34) (by kernel_rfl) H (fun fr => by kernel_rfl) ?_
            refine aw_exit (i := 2) (by kernel_rfl) ?_
            exact Exists.intro _ (And.intro (Option.some.inj hm).symm (fun e => Or.inl ⟨x4, rfl, e, hl3, H.less _ (fun fr => by kernel_rfl), A⟩))
      · clear ho
        clear A
        intro e fr h7 hQ
        rcases hQ with ⟨x6, rfl, rfl, hl4, H, A⟩ | hF
        · skip
          show AW cfg 98 g (right (right (left (left (right (bodyC cfg.P 98)))))) fr h7 _
          refine aw_reg (id := 2) (n := 3) [(0, []), (1, []), (2, [])] (by kernel_rfl) (by kernel_rfl) ?_
          refine at_seg [(0, []), (1, []), (2, [])] [(0, rowV rp0 x6.length), (1, .int .i64 p1), (2, .int .i64 p2), (3, .func (.func 74) [] []), (8, .int .i64 (IntKind.i64.wrap (x2 + (1 : Int))))] H (noU_all rfl) (fun fr => by kernel_rfl) ?_
          intro fr H
          refine at_nil ?_
          exact Exists.intro (x6, IntKind.i64.wrap (x2 + (1 : Int))) (And.intro (Option.some.inj hm).symm ⟨x6, IntKind.i64.wrap (x2 + (1 : Int)), rfl, hl4, H.less _ (fun fr => by kernel_rfl), A⟩)
        · exact hF.elim
    · replace H := H.know 14 hb (by kernel_rfl)
      refine aw_false (x := .tmp 14) (by kernel_rfl) H (fun fr => by kernel_rfl) ?_
      refine aw_exit (i := 0) (by kernel_rfl) ?_
      exact Exists.intro _ (And.intro (Option.some.inj hm).symm (fun e => Or.inl ⟨x1, rfl, e, hl1, H.less _ (fun fr => by kernel_rfl), A⟩))
  · clear ho
    clear A
    intro e fr h8 hQ
    rcases hQ with ⟨x3, rfl, rfl, hl2, H, A⟩ | hF
    · skip
      have e1 := Option.some.inj hm
      subst e1
      refine ⟨.inr rfl, .tuple [], resH H (fun fr => by kernel_rfl), ?_⟩
      exact ⟨hl2, rfl, A⟩
    · exact hF.elim
end Go.Av.L
