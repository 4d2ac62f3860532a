/-
  Models of functions, and that the abstract run tells them. Written by lift2.py.
-/
import Derived.Test.YteeaeioplbameaaKCfg
import Derived.Test.YteeaeioplbameaaK0
namespace Go.Av.L
open Go.Av Go.Lib
set_option maxRecDepth 10000
set_option linter.unusedVariables false
set_option linter.unusedSimpArgs false
/-! ### boulter/boulterlaw08.FeedFull -/
noncomputable def M_boulterlaw08_FeedFull_L0 (p0 : Int) (s : (List UInt8) × Int × Bool × (List (List UInt8)) × Int) : Option (((List UInt8) × Int × Bool × (List (List UInt8)) × Int) ⊕ (((List UInt8) × Int × Bool × (List (List UInt8))) ⊕ ((List UInt8) × Int × Bool × (List (List UInt8)) × Bool))) :=
  match s with
  | (x2, x3, x4, x5, x6) => iteB (decide (x6 < (IntKind.i64.wrap ((60 : Int) + (Int.tmod (IntKind.i64.wrap p0) (10 : Int)))))) ((M_feed_Feed_Put_sPCHO (⟨x5, x2, x3, x4⟩ : S_feed_Feed) ([(97 : UInt8), (98 : UInt8)] : List UInt8)).bind fun (x16, x17, x18) => iteB ((!((x16 == (0 : Int)) == (decide (x6 < (64 : Int))))) || ((x16 != (0 : Int)) && (x16 != (8 : Int)))) (some (.inr (.inr (x17.now_, x17.size_, x17.closed_, x18, false)))) (some (.inl (x17.now_, x17.size_, x17.closed_, x18, IntKind.i64.wrap (x6 + (1 : Int)))))) (some (.inr (.inl (x2, x3, x4, x5))))
noncomputable def M_boulterlaw08_FeedFull (p0 : Int) (p1 : Int) : Option (Bool) :=
 (M_feed_New).bind fun x1w1 => (loop (M_boulterlaw08_FeedFull_L0 p0) (x1w1.now_, x1w1.size_, x1w1.closed_, x1w1.wait_, (0 : Int))).bind fun o1 => (match o1 with | .inl (x7, x8, x9, x10) => (M_feed_Feed_Some_sPCHI (⟨x10, x7, x8, x9⟩ : S_feed_Feed) (Int.tmod (IntKind.i64.wrap p1) (5 : Int))).bind fun (x19, x20, x21) => (iteB ((x19.length : Int) != (Int.tmod (IntKind.i64.wrap p1) (5 : Int))) (some true) ((M_feed_Feed_Chunks_sPCH (⟨x21, x20.now_, x20.size_, x20.closed_⟩ : S_feed_Feed)).bind fun x23 => some (x23 != (IntKind.i64.wrap ((mn (IntKind.i64.wrap ((60 : Int) + (Int.tmod (IntKind.i64.wrap p0) (10 : Int)))) (64 : Int)) - (IntKind.i64.wrap (Int.tdiv (Int.tmod (IntKind.i64.wrap p1) (5 : Int)) (2 : Int))))))) : Option (Bool)).bind fun x22 => (iteB x22 (some (x20.now_, x20.size_, x20.closed_, x21, true)) ((M_feed_Feed_Put_sPCHO (⟨x21, x20.now_, x20.size_, x20.closed_⟩ : S_feed_Feed) ([] : List UInt8)).bind fun (x29, x30, x31) => some (x30.now_, x30.size_, x30.closed_, x31, x29 != (0 : Int))) : Option ((List UInt8) × Int × Bool × (List (List UInt8)) × Bool)).bind fun (x24, x25, x26, x27, x28) => iteB x28 (some false) ((M_feed_Feed_Put_sPCHO (⟨x27, x24, x25, x26⟩ : S_feed_Feed) ([(99 : UInt8)] : List UInt8)).bind fun (x32, x33, x34) => (iteB (((x32 == (0 : Int)) == (decide ((IntKind.i64.wrap ((mn (IntKind.i64.wrap ((60 : Int) + (Int.tmod (IntKind.i64.wrap p0) (10 : Int)))) (64 : Int)) - (IntKind.i64.wrap (Int.tdiv (Int.tmod (IntKind.i64.wrap p1) (5 : Int)) (2 : Int))))) < (64 : Int)))) && ((x32 == (0 : Int)) || (x32 == (8 : Int)))) (need (mkN 1 (65537 : Int)) <| (M_feed_Feed_Put_sPCHO (⟨x34, x33.now_, x33.size_, x33.closed_⟩ : S_feed_Feed) (List.replicate (65537 : Int).toNat (0 : UInt8))).bind fun (x40, x41, x42) => some (x41.now_, x41.size_, x41.closed_, x42, x40 == (12 : Int))) (some (x33.now_, x33.size_, x33.closed_, x34, false)) : Option ((List UInt8) × Int × Bool × (List (List UInt8)) × Bool)).bind fun (x35, x36, x37, x38, x39) => (iteB x39 ((M_boulterlaw08_awake).bind fun x44 => some x44) (some false) : Option (Bool)).bind fun x43 => some x43) | .inr (x11, x12, x13, x14, x15) => some x15)
theorem ok_boulterlaw08_FeedFull {g : Gd} {h : AHeap} {F : List Ck} {p0 : Int} {p1 : Int} {q0 : Bool} {av : List AVal} (hm : M_boulterlaw08_FeedFull p0 p1 = some q0) (hc : canL (cfg.still 4) av = [.int .u8 p0, .int .u8 p1]) (A : HH g h [] F) : ∃ v h', Runs cfg g h 4 av v h' ∧ v = .bool q0 ∧ HH g h' [] F := by
  refine runsQ1 (n := 96) (rs := [.tmp 4]) (by kernel_rfl) hc (by kernel_rfl) ?_
  clear hc
  unfold M_boulterlaw08_FeedFull at hm
  refine start (n := 96) [(0, .int .u8 p0), (1, .int .u8 p1)] (by kernel_rfl) (by kernel_rfl) ?_
  intro fr H
  refine aw_seq (by kernel_rfl) ?_
  refine aw_reg (id := 0) (n := 1) [(0, [])] (by kernel_rfl) (by kernel_rfl) ?_
  refine at_seg [(0, [])] [(0, .int .u8 p0), (1, .int .u8 p1)] H (noU_all rfl) (fun fr => by kernel_rfl) ?_
  intro fr H
  refine at_nil ?_
  show AW cfg 4 g (right (bodyC cfg.P 4)) fr h _
  refine aw_seq (by kernel_rfl) ?_
  refine aw_reg (id := 1) (n := 2) [(0, []), (1, [])] (by kernel_rfl) (by kernel_rfl) ?_
  have A1 := A.cut 0
  obtain ⟨x1w1, hx, hm⟩ := bind_some hm
  obtain ⟨v1, h1, hr, bx1w1, bx1w1_0, rfl, A1⟩ := ok_feed_New (av := []) hx (by kernel_rfl) A1
  replace A : HH g h1 [.obj bx1w1 (.cells none 2 [.chan (some bx1w1_0), .str x1w1.now_, .int .i64 x1w1.size_, .bool x1w1.closed_]), .obj bx1w1_0 (.chan 64 (lst eS x1w1.wait_))] F := A.glue0 (n := 0) A1
  refine at_step (v := .ptr (some (bx1w1, 0))) (h1 := h1) [(0, .int .u8 p0), (1, .int .u8 p1), (14, .ptr (some (bx1w1, 0)))] H (fun fr => by kernel_rfl) (fun fr => Steps.call (by kernel_rfl) hr) ?_
  intro fr t H
  refine at_seg [(1, [])] [(0, .int .u8 p0), (1, .int .u8 p1), (5, .ptr (some (bx1w1, 0)))] H (noU_all rfl) (fun fr => by kernel_rfl) ?_
  intro fr H
  refine at_nil ?_
  show AW cfg 4 g (right (right (bodyC cfg.P 4))) fr h1 _
  refine aw_seq (by kernel_rfl) ?_
  refine aw_seq (by kernel_rfl) ?_
  refine aw_reg (id := 2) (n := 2) [(0, []), (1, [])] (by kernel_rfl) (by kernel_rfl) ?_
  refine at_seg [(0, []), (1, [])] [(0, .int .u8 p0), (1, .int .u8 p1), (5, .ptr (some (bx1w1, 0))), (16, .bool false)] H (noU_all rfl) (fun fr => by kernel_rfl) ?_
  intro fr H
  refine at_nil ?_
  show AW cfg 4 g (right (left (right (right (bodyC cfg.P 4))))) fr h1 _
  refine aw_false (x := .tmp 16) (by kernel_rfl) H (fun fr => by kernel_rfl) ?_
  refine aw_skip (by kernel_rfl) ?_
  show AW cfg 4 g (right (right (right (bodyC cfg.P 4)))) fr h1 _
  refine aw_seq (by kernel_rfl) ?_
  refine aw_reg (id := 4) (n := 5) [(0, []), (1, []), (2, []), (3, []), (4, [])] (by kernel_rfl) (by kernel_rfl) ?_
  refine at_seg [(0, []), (1, []), (2, []), (3, []), (4, [])] [(1, .int .u8 p1), (5, .ptr (some (bx1w1, 0))), (6, .int .i64 (IntKind.i64.wrap ((60 : Int) + (Int.tmod (IntKind.i64.wrap p0) (10 : Int)))))] H (noU_all rfl) (fun fr => by kernel_rfl) ?_
  intro fr H
  refine at_nil ?_
  show AW cfg 4 g (right (right (right (right (bodyC cfg.P 4))))) fr h1 _
  refine aw_seq (by kernel_rfl) ?_
  refine aw_seq (by kernel_rfl) ?_
  refine aw_reg (id := 5) (n := 2) [(0, []), (1, [])] (by kernel_rfl) (by kernel_rfl) ?_
  refine at_seg [(0, []), (1, [])] [(1, .int .u8 p1), (5, .ptr (some (bx1w1, 0))), (6, .int .i64 (IntKind.i64.wrap ((60 : Int) + (Int.tmod (IntKind.i64.wrap p0) (10 : Int))))), (21, .int .i64 (IntKind.i64.wrap ((60 : Int) + (Int.tmod (IntKind.i64.wrap p0) (10 : Int))))), (22, .int .i64 (0 : Int))] H (noU_all rfl) (fun fr => by kernel_rfl) ?_
  intro fr H
  refine at_nil ?_
  show AW cfg 4 g (right (left (right (right (right (right (bodyC cfg.P 4))))))) fr h1 _
  refine aw_block (id := 0) (by kernel_rfl) ?_
  obtain ⟨o1, ho, hm⟩ := bind_some hm
  refine aw_mono (Q' := fun e fr' h' => (∃ (x7 : List UInt8) (x8 : Int) (x9 : Bool) (x10 : List (List UInt8)), e = .exit 0 ∧ .inl (x7, x8, x9, x10) = o1 ∧ Has fr' 96 [(1, .int .u8 p1), (5, .ptr (some (bx1w1, 0))), (6, .int .i64 (IntKind.i64.wrap ((60 : Int) + (Int.tmod (IntKind.i64.wrap p0) (10 : Int)))))] ∧ HH g h' [.obj bx1w1 (.cells none 2 [.chan (some bx1w1_0), .str x7, .int .i64 x8, .bool x9]), .obj bx1w1_0 (.chan 64 (lst eS x10))] F) ∨ (∃ (x11 : List UInt8) (x12 : Int) (x13 : Bool) (x14 : List (List UInt8)) (x15 : Bool), e = .ret ∧ .inr (x11, x12, x13, x14, x15) = o1 ∧ Has fr' 96 [(4, .bool x15)] ∧ HH g h' [.obj bx1w1 (.cells none 2 [.chan (some bx1w1_0), .str x11, .int .i64 x12, .bool x13]), .obj bx1w1_0 (.chan 64 (lst eS x14))] F) ∨ False) ?_ ?_
  · refine aw_loop (by kernel_rfl) (fun (s : (List UInt8) × Int × Bool × (List (List UInt8)) × Int) fr' h' => ∃ (x2 : List UInt8) (x3 : Int) (x4 : Bool) (x5 : List (List UInt8)) (x6 : Int), (x2, x3, x4, x5, x6) = s ∧ Has fr' 96 [(1, .int .u8 p1), (5, .ptr (some (bx1w1, 0))), (6, .int .i64 (IntKind.i64.wrap ((60 : Int) + (Int.tmod (IntKind.i64.wrap p0) (10 : Int))))), (21, .int .i64 (IntKind.i64.wrap ((60 : Int) + (Int.tmod (IntKind.i64.wrap p0) (10 : Int))))), (22, .int .i64 x6)] ∧ HH g h' [.obj bx1w1 (.cells none 2 [.chan (some bx1w1_0), .str x2, .int .i64 x3, .bool x4]), .obj bx1w1_0 (.chan 64 (lst eS x5))] F) ho ⟨x1w1.now_, x1w1.size_, x1w1.closed_, x1w1.wait_, (0 : Int), rfl, H.less _ (fun fr => by kernel_rfl), A⟩ ?_
    clear ho hm H A
    intro s q fr h2 hI hm
    obtain ⟨x2, x3, x4, x5, x6, rfl, H, A⟩ := hI
    unfold M_boulterlaw08_FeedFull_L0 at hm
    refine aw_seq (by kernel_rfl) ?_
    refine aw_reg (id := 6) (n := 1) [(0, [])] (by kernel_rfl) (by kernel_rfl) ?_
    refine at_seg [(0, [])] [(1, .int .u8 p1), (5, .ptr (some (bx1w1, 0))), (6, .int .i64 (IntKind.i64.wrap ((60 : Int) + (Int.tmod (IntKind.i64.wrap p0) (10 : Int))))), (21, .int .i64 (IntKind.i64.wrap ((60 : Int) + (Int.tmod (IntKind.i64.wrap p0) (10 : Int))))), (22, .int .i64 x6), (23, .bool (decide (x6 < (IntKind.i64.wrap ((60 : Int) + (Int.tmod (IntKind.i64.wrap p0) (10 : Int)))))))] H (noU_all rfl) (fun fr => by kernel_rfl) ?_
    intro fr H
    refine at_nil ?_
    show AW cfg 4 g (right (left (left (right (left (right (right (right (right (bodyC cfg.P 4)))))))))) fr h2 _
    refine aw_seq (by kernel_rfl) ?_
    rcases iteB_some hm with ⟨hb, hm⟩ | ⟨hb, hm⟩
    · replace H := H.know 23 hb (by kernel_rfl)
      refine aw_true (x := .tmp 23) (by kernel_rfl) H (fun fr => by kernel_rfl) ?_
      refine aw_skip (by kernel_rfl) ?_
      show AW cfg 4 g (right (right (left (left (right (left (right (right (right (right (bodyC cfg.P 4))))))))))) fr h2 _
      refine aw_seq (by kernel_rfl) ?_
      refine aw_block (id := 1) (by kernel_rfl) ?_
      refine aw_seq (by kernel_rfl) ?_
      refine aw_reg (id := 7) (n := 2) [(0, []), (1, [])] (by kernel_rfl) (by kernel_rfl) ?_
      refine at_seg [(0, []), (1, [])] [(1, .int .u8 p1), (5, .ptr (some (bx1w1, 0))), (6, .int .i64 (IntKind.i64.wrap ((60 : Int) + (Int.tmod (IntKind.i64.wrap p0) (10 : Int))))), (7, .int .i64 x6), (21, .int .i64 (IntKind.i64.wrap ((60 : Int) + (Int.tmod (IntKind.i64.wrap p0) (10 : Int))))), (22, .int .i64 x6)] H (noU_all rfl) (fun fr => by kernel_rfl) ?_
      intro fr H
      refine at_nil ?_
      show AW cfg 4 g (right (left (left (right (right (left (left (right (left (right (right (right (right (bodyC cfg.P 4)))))))))))))) fr h2 _
      refine aw_seq (by kernel_rfl) ?_
      refine aw_reg (id := 8) (n := 5) [(0, []), (1, []), (2, []), (3, []), (4, [])] (by kernel_rfl) (by kernel_rfl) ?_
      refine at_seg [(0, [])] [(1, .int .u8 p1), (5, .ptr (some (bx1w1, 0))), (6, .int .i64 (IntKind.i64.wrap ((60 : Int) + (Int.tmod (IntKind.i64.wrap p0) (10 : Int))))), (7, .int .i64 x6), (21, .int .i64 (IntKind.i64.wrap ((60 : Int) + (Int.tmod (IntKind.i64.wrap p0) (10 : Int))))), (22, .int .i64 x6), (25, .ptr (some (bx1w1, 0)))] H (noU_all rfl) (fun fr => by kernel_rfl) ?_
      intro fr H
      obtain ⟨h3, e1⟩ : ∃ x, x = h2.push (.cells (some 5) 2 [.int .u8 (97 : Int), .int .u8 (98 : Int)]) := ⟨_, rfl⟩
      replace A := (A.pushL _ _).to e1
      refine at_step (v := rowV (some h2.size) (([(97 : UInt8), (98 : UInt8)] : List UInt8).length)) (h1 := h3) [(1, .int .u8 p1), (5, .ptr (some (bx1w1, 0))), (6, .int .i64 (IntKind.i64.wrap ((60 : Int) + (Int.tmod (IntKind.i64.wrap p0) (10 : Int))))), (7, .int .i64 x6), (21, .int .i64 (IntKind.i64.wrap ((60 : Int) + (Int.tmod (IntKind.i64.wrap p0) (10 : Int))))), (22, .int .i64 x6), (25, .ptr (some (bx1w1, 0))), (26, rowV (some h2.size) (([(97 : UInt8), (98 : UInt8)] : List UInt8).length))] H (fun fr => by kernel_rfl) (fun fr => .of (s_n' (by kernel_rfl) (congrArg some e1.symm))) ?_
      intro fr t H
      obtain ⟨h4, hx, A1⟩ := HH.cvW (P := cfg.P) (t := 22) (e0 := 5) A 0 rfl (n := ([(97 : UInt8), (98 : UInt8)] : List UInt8).length) (by first | decide | simp) (by first | rfl | simp [lst, eY]) (by kernel_rfl) (by kernel_rfl)
      replace A : HH g h4 [.lst (some h2.size) 5 ([.int .u8 (97 : Int), .int .u8 (98 : Int)]), .obj bx1w1 (.cells none 2 [.chan (some bx1w1_0), .str x2, .int .i64 x3, .bool x4]), .obj bx1w1_0 (.chan 64 (lst eS x5))] F := A1
      refine at_step (v := rowV (some h2.size) (([(97 : UInt8), (98 : UInt8)] : List UInt8).length)) (h1 := h4) [(1, .int .u8 p1), (5, .ptr (some (bx1w1, 0))), (6, .int .i64 (IntKind.i64.wrap ((60 : Int) + (Int.tmod (IntKind.i64.wrap p0) (10 : Int))))), (7, .int .i64 x6), (21, .int .i64 (IntKind.i64.wrap ((60 : Int) + (Int.tmod (IntKind.i64.wrap p0) (10 : Int))))), (22, .int .i64 x6), (25, .ptr (some (bx1w1, 0))), (27, rowV (some h2.size) (([(97 : UInt8), (98 : UInt8)] : List UInt8).length))] H (fun fr => by kernel_rfl) (fun fr => .of (s_cvW (by kernel_rfl) hx)) ?_
      intro fr t H
      replace A : HH g h4 [.lst (some h2.size) 5 (lst eY ([(97 : UInt8), (98 : UInt8)] : List UInt8)), .obj bx1w1 (.cells none 2 [.chan (some bx1w1_0), .str x2, .int .i64 x3, .bool x4]), .obj bx1w1_0 (.chan 64 (lst eS x5))] F := A
      replace A : HH g h4 [.obj bx1w1 (.cells none 2 [.chan (some bx1w1_0), .str x2, .int .i64 x3, .bool x4]), .obj bx1w1_0 (.chan 64 (lst eS x5)), .lst (some h2.size) 5 (lst eY ([(97 : UInt8), (98 : UInt8)] : List UInt8))] F := (((A.front 0 rfl).front 2 rfl).front 2 rfl)
      have A1 := A.cut 3
      obtain ⟨⟨x16, x17, x18⟩, hx, hm⟩ := bind_some hm
      obtain ⟨v1, h5, hr, rfl, A1⟩ := ok_feed_Feed_Put_sPCHO (av := [.ptr (some (bx1w1, 0)), rowV (some h2.size) (([(97 : UInt8), (98 : UInt8)] : List UInt8).length)]) hx (by kernel_rfl) A1
      replace A : HH g h5 [.obj bx1w1 (.cells none 2 [.chan (some bx1w1_0), .str x17.now_, .int .i64 x17.size_, .bool x17.closed_]), .obj bx1w1_0 (.chan 64 (lst eS x18)), .lst (some h2.size) 5 (lst eY ([(97 : UInt8), (98 : UInt8)] : List UInt8))] F := A.glue0 (n := 3) A1
      refine at_step (v := .int .i64 x16) (h1 := h5) [(1, .int .u8 p1), (5, .ptr (some (bx1w1, 0))), (6, .int .i64 (IntKind.i64.wrap ((60 : Int) + (Int.tmod (IntKind.i64.wrap p0) (10 : Int))))), (7, .int .i64 x6), (21, .int .i64 (IntKind.i64.wrap ((60 : Int) + (Int.tmod (IntKind.i64.wrap p0) (10 : Int))))), (22, .int .i64 x6), (28, .int .i64 x16)] H (fun fr => by kernel_rfl) (fun fr => Steps.call (by kernel_rfl) hr) ?_
      intro fr t H
      refine at_seg [(4, [])] [(1, .int .u8 p1), (5, .ptr (some (bx1w1, 0))), (6, .int .i64 (IntKind.i64.wrap ((60 : Int) + (Int.tmod (IntKind.i64.wrap p0) (10 : Int))))), (7, .int .i64 x6), (8, .int .i64 x16), (21, .int .i64 (IntKind.i64.wrap ((60 : Int) + (Int.tmod (IntKind.i64.wrap p0) (10 : Int))))), (22, .int .i64 x6)] H (noU_all rfl) (fun fr => by kernel_rfl) ?_
      intro fr H
      refine at_nil ?_
      show AW cfg 4 g (right (right (left (left (right (right (left (left (right (left (right (right (right (right (bodyC cfg.P 4))))))))))))))) fr h5 _
      refine aw_seq (by kernel_rfl) ?_
      refine aw_reg (id := 9) (n := 13) [(0, []), (1, []), (2, []), (3, []), (4, []), (5, []), (6, []), (7, []), (8, []), (9, []), (10, []), (11, []), (12, [])] (by kernel_rfl) (by kernel_rfl) ?_
      refine at_seg [(0, []), (1, []), (2, []), (3, []), (4, []), (5, [])] [(1, .int .u8 p1), (5, .ptr (some (bx1w1, 0))), (6, .int .i64 (IntKind.i64.wrap ((60 : Int) + (Int.tmod (IntKind.i64.wrap p0) (10 : Int))))), (8, .int .i64 x16), (21, .int .i64 (IntKind.i64.wrap ((60 : Int) + (Int.tmod (IntKind.i64.wrap p0) (10 : Int))))), (22, .int .i64 x6), (34, .bool (!((x16 == (0 : Int)) == (decide (x6 < (64 : Int))))))] H (noU_all rfl) (fun fr => by kernel_rfl) ?_
      intro fr H
      refine at_cut [(6, []), (7, []), (8, []), (9, []), (10, []), (11, []), (12, [])] (fun fr' h' => h5 = h' ∧ Has fr' 96 [(1, .int .u8 p1), (5, .ptr (some (bx1w1, 0))), (6, .int .i64 (IntKind.i64.wrap ((60 : Int) + (Int.tmod (IntKind.i64.wrap p0) (10 : Int))))), (21, .int .i64 (IntKind.i64.wrap ((60 : Int) + (Int.tmod (IntKind.i64.wrap p0) (10 : Int))))), (22, .int .i64 x6), (41, .bool ((!((x16 == (0 : Int)) == (decide (x6 < (64 : Int))))) || ((x16 != (0 : Int)) && (x16 != (8 : Int)))))]) ?_ ?_
      · cases hb : (!((x16 == (0 : Int)) == (decide (x6 < (64 : Int)))) : Bool) with
        | true =>
          replace H := H.know 34 hb (by kernel_rfl)
          refine at_seg [(6, []), (7, []), (8, []), (9, []), (10, []), (11, []), (12, [])] [(1, .int .u8 p1), (5, .ptr (some (bx1w1, 0))), (6, .int .i64 (IntKind.i64.wrap ((60 : Int) + (Int.tmod (IntKind.i64.wrap p0) (10 : Int))))), (21, .int .i64 (IntKind.i64.wrap ((60 : Int) + (Int.tmod (IntKind.i64.wrap p0) (10 : Int))))), (22, .int .i64 x6), (41, .bool true)] H (noU_all rfl) (fun fr => by kernel_rfl) ?_
          intro fr H
          exact at_nil ⟨rfl, by first | exact H.less _ (fun fr => by rfl) | exact H.less _ (fun fr => by rw [hb]; rfl)⟩
        | false =>
          replace H := H.know 34 hb (by kernel_rfl)
          refine at_seg [(6, []), (7, []), (8, [])] [(1, .int .u8 p1), (5, .ptr (some (bx1w1, 0))), (6, .int .i64 (IntKind.i64.wrap ((60 : Int) + (Int.tmod (IntKind.i64.wrap p0) (10 : Int))))), (8, .int .i64 x16), (21, .int .i64 (IntKind.i64.wrap ((60 : Int) + (Int.tmod (IntKind.i64.wrap p0) (10 : Int))))), (22, .int .i64 x6), (34, .bool false), (37, .bool (x16 != (0 : Int)))] H (noU_all rfl) (fun fr => by kernel_rfl) ?_
          intro fr H
          refine at_cut [(9, []), (10, []), (11, [])] (fun fr' h' => h5 = h' ∧ Has fr' 96 [(1, .int .u8 p1), (5, .ptr (some (bx1w1, 0))), (6, .int .i64 (IntKind.i64.wrap ((60 : Int) + (Int.tmod (IntKind.i64.wrap p0) (10 : Int))))), (21, .int .i64 (IntKind.i64.wrap ((60 : Int) + (Int.tmod (IntKind.i64.wrap p0) (10 : Int))))), (22, .int .i64 x6), (34, .bool false), (40, .bool ((x16 != (0 : Int)) && (x16 != (8 : Int))))]) ?_ ?_
          · cases hb : (x16 != (0 : Int) : Bool) with
            | true =>
              replace H := H.know 37 hb (by kernel_rfl)
              refine at_seg [(9, []), (10, []), (11, [])] [(1, .int .u8 p1), (5, .ptr (some (bx1w1, 0))), (6, .int .i64 (IntKind.i64.wrap ((60 : Int) + (Int.tmod (IntKind.i64.wrap p0) (10 : Int))))), (21, .int .i64 (IntKind.i64.wrap ((60 : Int) + (Int.tmod (IntKind.i64.wrap p0) (10 : Int))))), (22, .int .i64 x6), (34, .bool false), (40, .bool (x16 != (8 : Int)))] H (noU_all rfl) (fun fr => by kernel_rfl) ?_
              intro fr H
              exact at_nil ⟨rfl, by first | exact H.less _ (fun fr => by rfl) | exact H.less _ (fun fr => by rw [hb]; rfl)⟩
            | false =>
              replace H := H.know 37 hb (by kernel_rfl)
              refine at_seg [(9, []), (10, []), (11, [])] [(1, .int .u8 p1), (5, .ptr (some (bx1w1, 0))), (6, .int .i64 (IntKind.i64.wrap ((60 : Int) + (Int.tmod (IntKind.i64.wrap p0) (10 : Int))))), (21, .int .i64 (IntKind.i64.wrap ((60 : Int) + (Int.tmod (IntKind.i64.wrap p0) (10 : Int))))), (22, .int .i64 x6), (34, .bool false), (40, .bool false)] H (noU_all rfl) (fun fr => by kernel_rfl) ?_
              intro fr H
              exact at_nil ⟨rfl, by first | exact H.less _ (fun fr => by rfl) | exact H.less _ (fun fr => by rw [hb]; rfl)⟩
          · intro t fr h' hK
            obtain ⟨e, H⟩ := hK
            subst e
            refine at_seg [(12, [])] [(1, .int .u8 p1), (5, .ptr (some (bx1w1, 0))), (6, .int .i64 (IntKind.i64.wrap ((60 : Int) + (Int.tmod (IntKind.i64.wrap p0) (10 : Int))))), (21, .int .i64 (IntKind.i64.wrap ((60 : Int) + (Int.tmod (IntKind.i64.wrap p0) (10 : Int))))), (22, .int .i64 x6), (41, .bool ((x16 != (0 : Int)) && (x16 != (8 : Int))))] H (noU_all rfl) (fun fr => by kernel_rfl) ?_
            intro fr H
            exact at_nil ⟨rfl, by first | exact H.less _ (fun fr => by rfl) | exact H.less _ (fun fr => by rw [hb]; rfl)⟩
      · intro t fr h' hK
        obtain ⟨e, H⟩ := hK
        subst e
        refine at_nil ?_
        show AW cfg 4 g (right (right (right (left (left (right (right (left (left (right (left (right (right (right (right (bodyC cfg.P 4)))))))))))))))) fr h5 _
        rcases iteB_some hm with ⟨hb, hm⟩ | ⟨hb, hm⟩
        · replace H := H.know 41 hb (by kernel_rfl)
          refine aw_true (x := .tmp 41) (by kernel_rfl) H (fun fr => by kernel_rfl) ?_
          refine aw_seq (by kernel_rfl) ?_
          refine aw_reg (id := 10) (n := 1) [(0, [])] (by kernel_rfl) (by kernel_rfl) ?_
          refine at_seg [(0, [])] [(4, .bool false)] H (noU_all rfl) (fun fr => by kernel_rfl) ?_
          intro fr H
          refine at_nil ?_
          show AW cfg 4 g (right (left (right (right (right (left (left (right (right (left (left (right (left (right (right (right (right (bodyC cfg.P 4)))))))))))))))))) fr h5 _
          refine aw_ret (by kernel_rfl) ?_
          replace A : HH g h5 [.obj bx1w1 (.cells none 2 [.chan (some bx1w1_0), .str x17.now_, .int .i64 x17.size_, .bool x17.closed_]), .obj bx1w1_0 (.chan 64 (lst eS x18))] F := (HH.dropF ((A.front 1 rfl).front 1 rfl) 2)
          exact Exists.intro _ (And.intro (Option.some.inj hm).symm (fun e => Or.inr (Or.inl ⟨x17.now_, x17.size_, x17.closed_, x18, false, rfl, e, H.less _ (fun fr => by kernel_rfl), A⟩)))
        · replace H := H.know 41 hb (by kernel_rfl)
          refine aw_false (x := .tmp 41) (by kernel_rfl) H (fun fr => by kernel_rfl) ?_
          refine aw_skip (by kernel_rfl) ?_
          show AW cfg 4 g (right (right (right (left (left (right (left (right (right (right (right (bodyC cfg.P 4)))))))))))) fr h5 _
          refine aw_reg (id := 11) (n := 2) [(0, []), (1, [])] (by kernel_rfl) (by kernel_rfl) ?_
          refine at_seg [(0, []), (1, [])] [(1, .int .u8 p1), (5, .ptr (some (bx1w1, 0))), (6, .int .i64 (IntKind.i64.wrap ((60 : Int) + (Int.tmod (IntKind.i64.wrap p0) (10 : Int))))), (21, .int .i64 (IntKind.i64.wrap ((60 : Int) + (Int.tmod (IntKind.i64.wrap p0) (10 : Int))))), (22, .int .i64 (IntKind.i64.wrap (x6 + (1 : Int))))] H (noU_all rfl) (fun fr => by kernel_rfl) ?_
          intro fr H
          refine at_nil ?_
          replace A : HH g h5 [.obj bx1w1 (.cells none 2 [.chan (some bx1w1_0), .str x17.now_, .int .i64 x17.size_, .bool x17.closed_]), .obj bx1w1_0 (.chan 64 (lst eS x18))] F := (HH.dropF ((A.front 1 rfl).front 1 rfl) 2)
          exact Exists.intro (x17.now_, x17.size_, x17.closed_, x18, IntKind.i64.wrap (x6 + (1 : Int))) (And.intro (Option.some.inj hm).symm ⟨x17.now_, x17.size_, x17.closed_, x18, IntKind.i64.wrap (x6 + (1 : Int)), rfl, H.less _ (fun fr => by kernel_rfl), A⟩)
    · replace H := H.know 23 hb (by kernel_rfl)
      refine aw_false (x := .tmp 23) (by kernel_rfl) H (fun fr => by kernel_rfl) ?_
      refine aw_exit (i := 0) (by kernel_rfl) ?_
      exact Exists.intro _ (And.intro (Option.some.inj hm).symm (fun e => Or.inl ⟨x2, x3, x4, x5, rfl, e, H.less _ (fun fr => by kernel_rfl), A⟩))
  · clear ho
    clear A
    intro e fr h6 hQ
    rcases hQ with ⟨x7, x8, x9, x10, rfl, rfl, H, A⟩ | ⟨x11, x12, x13, x14, x15, rfl, rfl, H, A⟩ | hF
    · skip
      show AW cfg 4 g (right (right (right (right (right (bodyC cfg.P 4)))))) fr h6 _
      refine aw_seq (by kernel_rfl) ?_
      refine aw_reg (id := 12) (n := 3) [(0, []), (1, []), (2, [])] (by kernel_rfl) (by kernel_rfl) ?_
      refine at_seg [(0, []), (1, []), (2, [])] [(1, .int .u8 p1), (5, .ptr (some (bx1w1, 0))), (9, .int .i64 (mn (IntKind.i64.wrap ((60 : Int) + (Int.tmod (IntKind.i64.wrap p0) (10 : Int)))) (64 : Int)))] H (noU_all rfl) (fun fr => by kernel_rfl) ?_
      intro fr H
      refine at_nil ?_
      show AW cfg 4 g (right (right (right (right (right (right (bodyC cfg.P 4))))))) fr h6 _
      refine aw_seq (by kernel_rfl) ?_
      refine aw_reg (id := 13) (n := 4) [(0, []), (1, []), (2, []), (3, [])] (by kernel_rfl) (by kernel_rfl) ?_
      refine at_seg [(0, []), (1, []), (2, []), (3, [])] [(5, .ptr (some (bx1w1, 0))), (9, .int .i64 (mn (IntKind.i64.wrap ((60 : Int) + (Int.tmod (IntKind.i64.wrap p0) (10 : Int)))) (64 : Int))), (10, .int .i64 (Int.tmod (IntKind.i64.wrap p1) (5 : Int)))] H (noU_all rfl) (fun fr => by kernel_rfl) ?_
      intro fr H
      refine at_nil ?_
      show AW cfg 4 g (right (right (right (right (right (right (right (bodyC cfg.P 4)))))))) fr h6 _
      refine aw_seq (by kernel_rfl) ?_
      refine aw_reg (id := 14) (n := 4) [(0, []), (1, []), (2, []), (3, [])] (by kernel_rfl) (by kernel_rfl) ?_
      refine at_seg [(0, []), (1, [])] [(5, .ptr (some (bx1w1, 0))), (9, .int .i64 (mn (IntKind.i64.wrap ((60 : Int) + (Int.tmod (IntKind.i64.wrap p0) (10 : Int)))) (64 : Int))), (10, .int .i64 (Int.tmod (IntKind.i64.wrap p1) (5 : Int))), (48, .ptr (some (bx1w1, 0))), (49, .int .i64 (Int.tmod (IntKind.i64.wrap p1) (5 : Int)))] H (noU_all rfl) (fun fr => by kernel_rfl) ?_
      intro fr H
      have A1 := A.cut 2
      obtain ⟨⟨x19, x20, x21⟩, hx, hm⟩ := bind_some hm
      obtain ⟨v1, h7, hr, rfl, A1⟩ := ok_feed_Feed_Some_sPCHI (av := [.ptr (some (bx1w1, 0)), .int .i64 (Int.tmod (IntKind.i64.wrap p1) (5 : Int))]) hx (by kernel_rfl) A1
      replace A : HH g h7 [.obj bx1w1 (.cells none 2 [.chan (some bx1w1_0), .str x20.now_, .int .i64 x20.size_, .bool x20.closed_]), .obj bx1w1_0 (.chan 64 (lst eS x21))] F := A.glue0 (n := 2) A1
      refine at_step (v := .str x19) (h1 := h7) [(5, .ptr (some (bx1w1, 0))), (9, .int .i64 (mn (IntKind.i64.wrap ((60 : Int) + (Int.tmod (IntKind.i64.wrap p0) (10 : Int)))) (64 : Int))), (10, .int .i64 (Int.tmod (IntKind.i64.wrap p1) (5 : Int))), (50, .str x19)] H (fun fr => by kernel_rfl) (fun fr => Steps.call (by kernel_rfl) hr) ?_
      intro fr t H
      refine at_seg [(3, [])] [(5, .ptr (some (bx1w1, 0))), (9, .int .i64 (mn (IntKind.i64.wrap ((60 : Int) + (Int.tmod (IntKind.i64.wrap p0) (10 : Int)))) (64 : Int))), (10, .int .i64 (Int.tmod (IntKind.i64.wrap p1) (5 : Int))), (11, .str x19)] H (noU_all rfl) (fun fr => by kernel_rfl) ?_
      intro fr H
      refine at_nil ?_
      show AW cfg 4 g (right (right (right (right (right (right (right (right (bodyC cfg.P 4))))))))) fr h7 _
      refine aw_seq (by kernel_rfl) ?_
      refine aw_reg (id := 15) (n := 5) [(0, []), (1, []), (2, []), (3, []), (4, [])] (by kernel_rfl) (by kernel_rfl) ?_
      refine at_seg [(0, []), (1, []), (2, []), (3, []), (4, [])] [(5, .ptr (some (bx1w1, 0))), (10, .int .i64 (Int.tmod (IntKind.i64.wrap p1) (5 : Int))), (11, .str x19), (12, .int .i64 (IntKind.i64.wrap ((mn (IntKind.i64.wrap ((60 : Int) + (Int.tmod (IntKind.i64.wrap p0) (10 : Int)))) (64 : Int)) - (IntKind.i64.wrap (Int.tdiv (Int.tmod (IntKind.i64.wrap p1) (5 : Int)) (2 : Int))))))] H (noU_all rfl) (fun fr => by kernel_rfl) ?_
      intro fr H
      refine at_nil ?_
      show AW cfg 4 g (right (right (right (right (right (right (right (right (right (bodyC cfg.P 4)))))))))) fr h7 _
      refine aw_seq (by kernel_rfl) ?_
      refine aw_seq (by kernel_rfl) ?_
      refine aw_reg (id := 16) (n := 15) [(0, []), (1, []), (2, []), (3, []), (4, []), (5, []), (6, []), (7, []), (8, []), (9, []), (10, []), (11, []), (12, []), (13, []), (14, [])] (by kernel_rfl) (by kernel_rfl) ?_
      refine at_seg [(0, []), (1, []), (2, []), (3, []), (4, [])] [(5, .ptr (some (bx1w1, 0))), (12, .int .i64 (IntKind.i64.wrap ((mn (IntKind.i64.wrap ((60 : Int) + (Int.tmod (IntKind.i64.wrap p0) (10 : Int)))) (64 : Int)) - (IntKind.i64.wrap (Int.tdiv (Int.tmod (IntKind.i64.wrap p1) (5 : Int)) (2 : Int)))))), (59, .bool ((x19.length : Int) != (Int.tmod (IntKind.i64.wrap p1) (5 : Int))))] H (noU_all rfl) (fun fr => by kernel_rfl) ?_
      intro fr H
      obtain ⟨x22, ho, hm⟩ := bind_some hm
      refine at_cut [(5, []), (6, []), (7, []), (8, []), (9, [])] (fun fr' h' => Has fr' 96 [(5, .ptr (some (bx1w1, 0))), (12, .int .i64 (IntKind.i64.wrap ((mn (IntKind.i64.wrap ((60 : Int) + (Int.tmod (IntKind.i64.wrap p0) (10 : Int)))) (64 : Int)) - (IntKind.i64.wrap (Int.tdiv (Int.tmod (IntKind.i64.wrap p1) (5 : Int)) (2 : Int)))))), (64, .bool x22)] ∧ HH g h' [.obj bx1w1 (.cells none 2 [.chan (some bx1w1_0), .str x20.now_, .int .i64 x20.size_, .bool x20.closed_]), .obj bx1w1_0 (.chan 64 (lst eS x21))] F) ?_ ?_
      · rcases iteB_some ho with ⟨hb, hm⟩ | ⟨hb, hm⟩
        · replace H := H.know 59 hb (by kernel_rfl)
          refine at_seg [(5, []), (6, []), (7, []), (8, []), (9, [])] [(5, .ptr (some (bx1w1, 0))), (12, .int .i64 (IntKind.i64.wrap ((mn (IntKind.i64.wrap ((60 : Int) + (Int.tmod (IntKind.i64.wrap p0) (10 : Int)))) (64 : Int)) - (IntKind.i64.wrap (Int.tdiv (Int.tmod (IntKind.i64.wrap p1) (5 : Int)) (2 : Int)))))), (64, .bool true)] H (noU_all rfl) (fun fr => by kernel_rfl) ?_
          intro fr H
          have e1 := Option.some.inj hm
          subst e1
          exact at_nil ⟨H.less _ (fun fr => by kernel_rfl), A⟩
        · replace H := H.know 59 hb (by kernel_rfl)
          refine at_seg [(5, [])] [(5, .ptr (some (bx1w1, 0))), (12, .int .i64 (IntKind.i64.wrap ((mn (IntKind.i64.wrap ((60 : Int) + (Int.tmod (IntKind.i64.wrap p0) (10 : Int)))) (64 : Int)) - (IntKind.i64.wrap (Int.tdiv (Int.tmod (IntKind.i64.wrap p1) (5 : Int)) (2 : Int)))))), (59, .bool false), (60, .ptr (some (bx1w1, 0)))] H (noU_all rfl) (fun fr => by kernel_rfl) ?_
          intro fr H
          have A1 := A.cut 2
          obtain ⟨x23, hx, hm⟩ := bind_some hm
          obtain ⟨v1, h9, hr, rfl, A1⟩ := ok_feed_Feed_Chunks_sPCH (av := [.ptr (some (bx1w1, 0))]) hx (by kernel_rfl) A1
          replace A : HH g h9 [.obj bx1w1 (.cells none 2 [.chan (some bx1w1_0), .str x20.now_, .int .i64 x20.size_, .bool x20.closed_]), .obj bx1w1_0 (.chan 64 (lst eS x21))] F := A.glue0 (n := 2) A1
          refine at_step (v := .int .i64 x23) (h1 := h9) [(5, .ptr (some (bx1w1, 0))), (12, .int .i64 (IntKind.i64.wrap ((mn (IntKind.i64.wrap ((60 : Int) + (Int.tmod (IntKind.i64.wrap p0) (10 : Int)))) (64 : Int)) - (IntKind.i64.wrap (Int.tdiv (Int.tmod (IntKind.i64.wrap p1) (5 : Int)) (2 : Int)))))), (59, .bool false), (61, .int .i64 x23)] H (fun fr => by kernel_rfl) (fun fr => Steps.call (by kernel_rfl) hr) ?_
          intro fr t H
          refine at_seg [(7, []), (8, []), (9, [])] [(5, .ptr (some (bx1w1, 0))), (12, .int .i64 (IntKind.i64.wrap ((mn (IntKind.i64.wrap ((60 : Int) + (Int.tmod (IntKind.i64.wrap p0) (10 : Int)))) (64 : Int)) - (IntKind.i64.wrap (Int.tdiv (Int.tmod (IntKind.i64.wrap p1) (5 : Int)) (2 : Int)))))), (64, .bool (x23 != (IntKind.i64.wrap ((mn (IntKind.i64.wrap ((60 : Int) + (Int.tmod (IntKind.i64.wrap p0) (10 : Int)))) (64 : Int)) - (IntKind.i64.wrap (Int.tdiv (Int.tmod (IntKind.i64.wrap p1) (5 : Int)) (2 : Int)))))))] H (noU_all rfl) (fun fr => by kernel_rfl) ?_
          intro fr H
          have e1 := Option.some.inj hm
          subst e1
          exact at_nil ⟨H.less _ (fun fr => by kernel_rfl), A⟩
      · clear A
        intro t fr h8 hK
        obtain ⟨H, A⟩ := hK
        refine at_seg [(10, [])] [(5, .ptr (some (bx1w1, 0))), (12, .int .i64 (IntKind.i64.wrap ((mn (IntKind.i64.wrap ((60 : Int) + (Int.tmod (IntKind.i64.wrap p0) (10 : Int)))) (64 : Int)) - (IntKind.i64.wrap (Int.tdiv (Int.tmod (IntKind.i64.wrap p1) (5 : Int)) (2 : Int)))))), (65, .bool x22)] H (noU_all rfl) (fun fr => by kernel_rfl) ?_
        intro fr H
        obtain ⟨⟨x24, x25, x26, x27, x28⟩, ho, hm⟩ := bind_some hm
        refine at_cut [(11, []), (12, []), (13, []), (14, [])] (fun fr' h' => Has fr' 96 [(5, .ptr (some (bx1w1, 0))), (12, .int .i64 (IntKind.i64.wrap ((mn (IntKind.i64.wrap ((60 : Int) + (Int.tmod (IntKind.i64.wrap p0) (10 : Int)))) (64 : Int)) - (IntKind.i64.wrap (Int.tdiv (Int.tmod (IntKind.i64.wrap p1) (5 : Int)) (2 : Int)))))), (69, .bool x28)] ∧ HH g h' [.obj bx1w1 (.cells none 2 [.chan (some bx1w1_0), .str x24, .int .i64 x25, .bool x26]), .obj bx1w1_0 (.chan 64 (lst eS x27))] F) ?_ ?_
        · rcases iteB_some ho with ⟨hb, hm⟩ | ⟨hb, hm⟩
          · replace H := H.know 65 hb (by kernel_rfl)
            refine at_seg [(11, []), (12, []), (13, []), (14, [])] [(5, .ptr (some (bx1w1, 0))), (12, .int .i64 (IntKind.i64.wrap ((mn (IntKind.i64.wrap ((60 : Int) + (Int.tmod (IntKind.i64.wrap p0) (10 : Int)))) (64 : Int)) - (IntKind.i64.wrap (Int.tdiv (Int.tmod (IntKind.i64.wrap p1) (5 : Int)) (2 : Int)))))), (69, .bool true)] H (noU_all rfl) (fun fr => by kernel_rfl) ?_
            intro fr H
            have e0 := Option.some.inj hm
            obtain ⟨e1, f1⟩ := Prod.mk.inj e0
            obtain ⟨e2, f2⟩ := Prod.mk.inj f1
            obtain ⟨e3, f3⟩ := Prod.mk.inj f2
            obtain ⟨e4, f4⟩ := Prod.mk.inj f3
            subst e1
            subst e2
            subst e3
            subst e4
            subst f4
            exact at_nil ⟨H.less _ (fun fr => by kernel_rfl), A⟩
          · replace H := H.know 65 hb (by kernel_rfl)
            refine at_seg [(11, [])] [(5, .ptr (some (bx1w1, 0))), (12, .int .i64 (IntKind.i64.wrap ((mn (IntKind.i64.wrap ((60 : Int) + (Int.tmod (IntKind.i64.wrap p0) (10 : Int)))) (64 : Int)) - (IntKind.i64.wrap (Int.tdiv (Int.tmod (IntKind.i64.wrap p1) (5 : Int)) (2 : Int)))))), (65, .bool false), (66, .ptr (some (bx1w1, 0)))] H (noU_all rfl) (fun fr => by kernel_rfl) ?_
            intro fr H
            replace A : HH g h8 [.lst none 5 (lst eY ([] : List UInt8)), .obj bx1w1 (.cells none 2 [.chan (some bx1w1_0), .str x20.now_, .int .i64 x20.size_, .bool x20.closed_]), .obj bx1w1_0 (.chan 64 (lst eS x21))] F := A.nilL 5
            replace A : HH g h8 [.obj bx1w1 (.cells none 2 [.chan (some bx1w1_0), .str x20.now_, .int .i64 x20.size_, .bool x20.closed_]), .obj bx1w1_0 (.chan 64 (lst eS x21)), .lst none 5 (lst eY ([] : List UInt8))] F := (((A.front 0 rfl).front 2 rfl).front 2 rfl)
            have A1 := A.cut 3
            obtain ⟨⟨x29, x30, x31⟩, hx, hm⟩ := bind_some hm
            obtain ⟨v1, h11, hr, rfl, A1⟩ := ok_feed_Feed_Put_sPCHO (av := [.ptr (some (bx1w1, 0)), rowV none (([] : List UInt8).length)]) hx (by kernel_rfl) A1
            replace A : HH g h11 [.obj bx1w1 (.cells none 2 [.chan (some bx1w1_0), .str x30.now_, .int .i64 x30.size_, .bool x30.closed_]), .obj bx1w1_0 (.chan 64 (lst eS x31)), .lst none 5 (lst eY ([] : List UInt8))] F := A.glue0 (n := 3) A1
            refine at_step (v := .int .i64 x29) (h1 := h11) [(5, .ptr (some (bx1w1, 0))), (12, .int .i64 (IntKind.i64.wrap ((mn (IntKind.i64.wrap ((60 : Int) + (Int.tmod (IntKind.i64.wrap p0) (10 : Int)))) (64 : Int)) - (IntKind.i64.wrap (Int.tdiv (Int.tmod (IntKind.i64.wrap p1) (5 : Int)) (2 : Int)))))), (65, .bool false), (67, .int .i64 x29)] H (fun fr => by kernel_rfl) (fun fr => Steps.call (by kernel_rfl) hr) ?_
            intro fr t H
            refine at_seg [(13, []), (14, [])] [(5, .ptr (some (bx1w1, 0))), (12, .int .i64 (IntKind.i64.wrap ((mn (IntKind.i64.wrap ((60 : Int) + (Int.tmod (IntKind.i64.wrap p0) (10 : Int)))) (64 : Int)) - (IntKind.i64.wrap (Int.tdiv (Int.tmod (IntKind.i64.wrap p1) (5 : Int)) (2 : Int)))))), (69, .bool (x29 != (0 : Int)))] H (noU_all rfl) (fun fr => by kernel_rfl) ?_
            intro fr H
            have e0 := Option.some.inj hm
            obtain ⟨e1, f1⟩ := Prod.mk.inj e0
            obtain ⟨e2, f2⟩ := Prod.mk.inj f1
            obtain ⟨e3, f3⟩ := Prod.mk.inj f2
            obtain ⟨e4, f4⟩ := Prod.mk.inj f3
            subst e1
            subst e2
            subst e3
            subst e4
            subst f4
            replace A : HH g h11 [.obj bx1w1 (.cells none 2 [.chan (some bx1w1_0), .str x30.now_, .int .i64 x30.size_, .bool x30.closed_]), .obj bx1w1_0 (.chan 64 (lst eS x31))] F := (HH.dropF ((A.front 1 rfl).front 1 rfl) 2)
            exact at_nil ⟨H.less _ (fun fr => by kernel_rfl), A⟩
        · clear A
          intro t fr h10 hK
          obtain ⟨H, A⟩ := hK
          refine at_nil ?_
          show AW cfg 4 g (right (left (right (right (right (right (right (right (right (right (right (bodyC cfg.P 4)))))))))))) fr h10 _
          rcases iteB_some hm with ⟨hb, hm⟩ | ⟨hb, hm⟩
          · replace H := H.know 69 hb (by kernel_rfl)
            refine aw_true (x := .tmp 69) (by kernel_rfl) H (fun fr => by kernel_rfl) ?_
            refine aw_seq (by kernel_rfl) ?_
            refine aw_reg (id := 17) (n := 1) [(0, [])] (by kernel_rfl) (by kernel_rfl) ?_
            refine at_seg [(0, [])] [(4, .bool false)] H (noU_all rfl) (fun fr => by kernel_rfl) ?_
            intro fr H
            refine at_nil ?_
            show AW cfg 4 g (right (left (right (left (right (right (right (right (right (right (right (right (right (bodyC cfg.P 4)))))))))))))) fr h10 _
            refine aw_ret (by kernel_rfl) ?_
            have e1 := Option.some.inj hm
            subst e1
            refine ⟨.inl rfl, .bool false, resH H (fun fr => by kernel_rfl), ?_⟩
            replace A : HH g h10 [] F := (HH.dropF A 0)
            exact ⟨rfl, A⟩
          · replace H := H.know 69 hb (by kernel_rfl)
            refine aw_false (x := .tmp 69) (by kernel_rfl) H (fun fr => by kernel_rfl) ?_
            refine aw_skip (by kernel_rfl) ?_
            show AW cfg 4 g (right (right (right (right (right (right (right (right (right (right (bodyC cfg.P 4))))))))))) fr h10 _
            refine aw_seq (by kernel_rfl) ?_
            refine aw_reg (id := 18) (n := 5) [(0, []), (1, []), (2, []), (3, []), (4, [])] (by kernel_rfl) (by kernel_rfl) ?_
            refine at_seg [(0, [])] [(5, .ptr (some (bx1w1, 0))), (12, .int .i64 (IntKind.i64.wrap ((mn (IntKind.i64.wrap ((60 : Int) + (Int.tmod (IntKind.i64.wrap p0) (10 : Int)))) (64 : Int)) - (IntKind.i64.wrap (Int.tdiv (Int.tmod (IntKind.i64.wrap p1) (5 : Int)) (2 : Int)))))), (70, .ptr (some (bx1w1, 0)))] H (noU_all rfl) (fun fr => by kernel_rfl) ?_
            intro fr H
            obtain ⟨h12, e2⟩ : ∃ x, x = h10.push (.cells (some 5) 2 [.int .u8 (99 : Int)]) := ⟨_, rfl⟩
            replace A := (A.pushL _ _).to e2
            refine at_step (v := rowV (some h10.size) (([(99 : UInt8)] : List UInt8).length)) (h1 := h12) [(5, .ptr (some (bx1w1, 0))), (12, .int .i64 (IntKind.i64.wrap ((mn (IntKind.i64.wrap ((60 : Int) + (Int.tmod (IntKind.i64.wrap p0) (10 : Int)))) (64 : Int)) - (IntKind.i64.wrap (Int.tdiv (Int.tmod (IntKind.i64.wrap p1) (5 : Int)) (2 : Int)))))), (70, .ptr (some (bx1w1, 0))), (71, rowV (some h10.size) (([(99 : UInt8)] : List UInt8).length))] H (fun fr => by kernel_rfl) (fun fr => .of (s_n' (by kernel_rfl) (congrArg some e2.symm))) ?_
            intro fr t H
            obtain ⟨h13, hx, A1⟩ := HH.cvW (P := cfg.P) (t := 22) (e0 := 5) A 0 rfl (n := ([(99 : UInt8)] : List UInt8).length) (by first | decide | simp) (by first | rfl | simp [lst, eY]) (by kernel_rfl) (by kernel_rfl)
            replace A : HH g h13 [.lst (some h10.size) 5 ([.int .u8 (99 : Int)]), .obj bx1w1 (.cells none 2 [.chan (some bx1w1_0), .str x24, .int .i64 x25, .bool x26]), .obj bx1w1_0 (.chan 64 (lst eS x27))] F := A1
            refine at_step (v := rowV (some h10.size) (([(99 : UInt8)] : List UInt8).length)) (h1 := h13) [(5, .ptr (some (bx1w1, 0))), (12, .int .i64 (IntKind.i64.wrap ((mn (IntKind.i64.wrap ((60 : Int) + (Int.tmod (IntKind.i64.wrap p0) (10 : Int)))) (64 : Int)) - (IntKind.i64.wrap (Int.tdiv (Int.tmod (IntKind.i64.wrap p1) (5 : Int)) (2 : Int)))))), (70, .ptr (some (bx1w1, 0))), (72, rowV (some h10.size) (([(99 : UInt8)] : List UInt8).length))] H (fun fr => by kernel_rfl) (fun fr => .of (s_cvW (by kernel_rfl) hx)) ?_
            intro fr t H
            replace A : HH g h13 [.lst (some h10.size) 5 (lst eY ([(99 : UInt8)] : List UInt8)), .obj bx1w1 (.cells none 2 [.chan (some bx1w1_0), .str x24, .int .i64 x25, .bool x26]), .obj bx1w1_0 (.chan 64 (lst eS x27))] F := A
            replace A : HH g h13 [.obj bx1w1 (.cells none 2 [.chan (some bx1w1_0), .str x24, .int .i64 x25, .bool x26]), .obj bx1w1_0 (.chan 64 (lst eS x27)), .lst (some h10.size) 5 (lst eY ([(99 : UInt8)] : List UInt8))] F := (((A.front 0 rfl).front 2 rfl).front 2 rfl)
            have A1 := A.cut 3
            obtain ⟨⟨x32, x33, x34⟩, hx, hm⟩ := bind_some hm
            obtain ⟨v1, h14, hr, rfl, A1⟩ := ok_feed_Feed_Put_sPCHO (av := [.ptr (some (bx1w1, 0)), rowV (some h10.size) (([(99 : UInt8)] : List UInt8).length)]) hx (by kernel_rfl) A1
            replace A : HH g h14 [.obj bx1w1 (.cells none 2 [.chan (some bx1w1_0), .str x33.now_, .int .i64 x33.size_, .bool x33.closed_]), .obj bx1w1_0 (.chan 64 (lst eS x34)), .lst (some h10.size) 5 (lst eY ([(99 : UInt8)] : List UInt8))] F := A.glue0 (n := 3) A1
            refine at_step (v := .int .i64 x32) (h1 := h14) [(5, .ptr (some (bx1w1, 0))), (12, .int .i64 (IntKind.i64.wrap ((mn (IntKind.i64.wrap ((60 : Int) + (Int.tmod (IntKind.i64.wrap p0) (10 : Int)))) (64 : Int)) - (IntKind.i64.wrap (Int.tdiv (Int.tmod (IntKind.i64.wrap p1) (5 : Int)) (2 : Int)))))), (73, .int .i64 x32)] H (fun fr => by kernel_rfl) (fun fr => Steps.call (by kernel_rfl) hr) ?_
            intro fr t H
            refine at_seg [(4, [])] [(5, .ptr (some (bx1w1, 0))), (12, .int .i64 (IntKind.i64.wrap ((mn (IntKind.i64.wrap ((60 : Int) + (Int.tmod (IntKind.i64.wrap p0) (10 : Int)))) (64 : Int)) - (IntKind.i64.wrap (Int.tdiv (Int.tmod (IntKind.i64.wrap p1) (5 : Int)) (2 : Int)))))), (13, .int .i64 x32)] H (noU_all rfl) (fun fr => by kernel_rfl) ?_
            intro fr H
            refine at_nil ?_
            show AW cfg 4 g (right (right (right (right (right (right (right (right (right (right (right (bodyC cfg.P 4)))))))))))) fr h14 _
            refine aw_seq (by kernel_rfl) ?_
            refine aw_reg (id := 19) (n := 23) [(0, []), (1, []), (2, []), (3, []), (4, []), (5, []), (6, []), (7, []), (8, []), (9, []), (10, []), (11, []), (12, []), (13, []), (14, []), (15, []), (16, []), (17, []), (18, []), (19, []), (20, []), (21, []), (22, [])] (by kernel_rfl) (by kernel_rfl) ?_
            refine at_seg [(0, []), (1, []), (2, []), (3, []), (4, []), (5, [])] [(5, .ptr (some (bx1w1, 0))), (13, .int .i64 x32), (79, .bool ((x32 == (0 : Int)) == (decide ((IntKind.i64.wrap ((mn (IntKind.i64.wrap ((60 : Int) + (Int.tmod (IntKind.i64.wrap p0) (10 : Int)))) (64 : Int)) - (IntKind.i64.wrap (Int.tdiv (Int.tmod (IntKind.i64.wrap p1) (5 : Int)) (2 : Int))))) < (64 : Int)))))] H (noU_all rfl) (fun fr => by kernel_rfl) ?_
            intro fr H
            refine at_cut [(6, []), (7, []), (8, []), (9, []), (10, []), (11, []), (12, [])] (fun fr' h' => h14 = h' ∧ Has fr' 96 [(5, .ptr (some (bx1w1, 0))), (86, .bool (((x32 == (0 : Int)) == (decide ((IntKind.i64.wrap ((mn (IntKind.i64.wrap ((60 : Int) + (Int.tmod (IntKind.i64.wrap p0) (10 : Int)))) (64 : Int)) - (IntKind.i64.wrap (Int.tdiv (Int.tmod (IntKind.i64.wrap p1) (5 : Int)) (2 : Int))))) < (64 : Int)))) && ((x32 == (0 : Int)) || (x32 == (8 : Int)))))]) ?_ ?_
            · cases hb : ((x32 == (0 : Int)) == (decide ((IntKind.i64.wrap ((mn (IntKind.i64.wrap ((60 : Int) + (Int.tmod (IntKind.i64.wrap p0) (10 : Int)))) (64 : Int)) - (IntKind.i64.wrap (Int.tdiv (Int.tmod (IntKind.i64.wrap p1) (5 : Int)) (2 : Int))))) < (64 : Int))) : Bool) with
              | true =>
                replace H := H.know 79 hb (by kernel_rfl)
                refine at_seg [(6, []), (7, []), (8, [])] [(5, .ptr (some (bx1w1, 0))), (13, .int .i64 x32), (79, .bool true), (82, .bool (x32 == (0 : Int)))] H (noU_all rfl) (fun fr => by kernel_rfl) ?_
                intro fr H
                refine at_cut [(9, []), (10, []), (11, [])] (fun fr' h' => h14 = h' ∧ Has fr' 96 [(5, .ptr (some (bx1w1, 0))), (79, .bool true), (85, .bool ((x32 == (0 : Int)) || (x32 == (8 : Int))))]) ?_ ?_
                · cases hb : (x32 == (0 : Int) : Bool) with
                  | true =>
                    replace H := H.know 82 hb (by kernel_rfl)
                    refine at_seg [(9, []), (10, []), (11, [])] [(5, .ptr (some (bx1w1, 0))), (79, .bool true), (85, .bool true)] H (noU_all rfl) (fun fr => by kernel_rfl) ?_
                    intro fr H
                    exact at_nil ⟨rfl, by first | exact H.less _ (fun fr => by rfl) | exact H.less _ (fun fr => by rw [hb]; rfl)⟩
                  | false =>
                    replace H := H.know 82 hb (by kernel_rfl)
                    refine at_seg [(9, []), (10, []), (11, [])] [(5, .ptr (some (bx1w1, 0))), (79, .bool true), (85, .bool (x32 == (8 : Int)))] H (noU_all rfl) (fun fr => by kernel_rfl) ?_
                    intro fr H
                    exact at_nil ⟨rfl, by first | exact H.less _ (fun fr => by rfl) | exact H.less _ (fun fr => by rw [hb]; rfl)⟩
                · intro t fr h' hK
                  obtain ⟨e, H⟩ := hK
                  subst e
                  refine at_seg [(12, [])] [(5, .ptr (some (bx1w1, 0))), (86, .bool ((x32 == (0 : Int)) || (x32 == (8 : Int))))] H (noU_all rfl) (fun fr => by kernel_rfl) ?_
                  intro fr H
                  exact at_nil ⟨rfl, by first | exact H.less _ (fun fr => by rfl) | exact H.less _ (fun fr => by rw [hb]; rfl)⟩
              | false =>
                replace H := H.know 79 hb (by kernel_rfl)
                refine at_seg [(6, []), (7, []), (8, []), (9, []), (10, []), (11, []), (12, [])] [(5, .ptr (some (bx1w1, 0))), (86, .bool false)] H (noU_all rfl) (fun fr => by kernel_rfl) ?_
                intro fr H
                exact at_nil ⟨rfl, by first | exact H.less _ (fun fr => by rfl) | exact H.less _ (fun fr => by rw [hb]; rfl)⟩
            · intro t fr h' hK
              obtain ⟨e, H⟩ := hK
              subst e
              refine at_seg [(13, [])] [(5, .ptr (some (bx1w1, 0))), (87, .bool (((x32 == (0 : Int)) == (decide ((IntKind.i64.wrap ((mn (IntKind.i64.wrap ((60 : Int) + (Int.tmod (IntKind.i64.wrap p0) (10 : Int)))) (64 : Int)) - (IntKind.i64.wrap (Int.tdiv (Int.tmod (IntKind.i64.wrap p1) (5 : Int)) (2 : Int))))) < (64 : Int)))) && ((x32 == (0 : Int)) || (x32 == (8 : Int)))))] H (noU_all rfl) (fun fr => by kernel_rfl) ?_
              intro fr H
              obtain ⟨⟨x35, x36, x37, x38, x39⟩, ho, hm⟩ := bind_some hm
              refine at_cut [(14, []), (15, []), (16, []), (17, []), (18, [])] (fun fr' h' => Has fr' 96 [(92, .bool x39)] ∧ HH g h' [.obj bx1w1 (.cells none 2 [.chan (some bx1w1_0), .str x35, .int .i64 x36, .bool x37]), .obj bx1w1_0 (.chan 64 (lst eS x38))] F) ?_ ?_
              · rcases iteB_some ho with ⟨hb, hm⟩ | ⟨hb, hm⟩
                · replace H := H.know 87 hb (by kernel_rfl)
                  refine at_seg [(14, [])] [(87, .bool true), (88, .ptr (some (bx1w1, 0)))] H (noU_all rfl) (fun fr => by kernel_rfl) ?_
                  intro fr H
                  obtain ⟨hb, hm⟩ := need_some hm
                  obtain ⟨h16, e3⟩ : ∃ x, x = h14.push (.cells (some 5) 2 (lst eY (List.replicate (65537 : Int).toNat (0 : UInt8)))) := ⟨_, rfl⟩
                  replace A := (A.pushL _ _).to e3
                  refine at_step (v := rowV (some h14.size) (List.replicate (65537 : Int).toNat (0 : UInt8)).length) (h1 := h16) [(87, .bool true), (88, .ptr (some (bx1w1, 0))), (89, rowV (some h14.size) ((List.replicate (65537 : Int).toNat (0 : UInt8)).length))] H (fun fr => by kernel_rfl) (fun fr => .of (s_mkO (e := eY) encY (x := (0 : UInt8)) (by kernel_rfl) hb (congrArg some e3.symm))) ?_
                  intro fr t H
                  replace A : HH g h16 [.obj bx1w1 (.cells none 2 [.chan (some bx1w1_0), .str x33.now_, .int .i64 x33.size_, .bool x33.closed_]), .obj bx1w1_0 (.chan 64 (lst eS x34)), .lst (some h14.size) 5 (lst eY (List.replicate (65537 : Int).toNat (0 : UInt8))), .lst (some h10.size) 5 (lst eY ([(99 : UInt8)] : List UInt8))] F := (((A.front 0 rfl).front 2 rfl).front 2 rfl)
                  have A1 := A.cut 3
                  obtain ⟨⟨x40, x41, x42⟩, hx, hm⟩ := bind_some hm
                  obtain ⟨v1, h17, hr, rfl, A1⟩ := ok_feed_Feed_Put_sPCHO (av := [.ptr (some (bx1w1, 0)), rowV (some h14.size) ((List.replicate (65537 : Int).toNat (0 : UInt8)).length)]) hx (by kernel_rfl) A1
                  replace A : HH g h17 [.obj bx1w1 (.cells none 2 [.chan (some bx1w1_0), .str x41.now_, .int .i64 x41.size_, .bool x41.closed_]), .obj bx1w1_0 (.chan 64 (lst eS x42)), .lst (some h14.size) 5 (lst eY (List.replicate (65537 : Int).toNat (0 : UInt8))), .lst (some h10.size) 5 (lst eY ([(99 : UInt8)] : List UInt8))] F := A.glue0 (n := 3) A1
                  refine at_step (v := .int .i64 x40) (h1 := h17) [(87, .bool true), (90, .int .i64 x40)] H (fun fr => by kernel_rfl) (fun fr => Steps.call (by kernel_rfl) hr) ?_
                  intro fr t H
                  refine at_seg [(17, []), (18, [])] [(92, .bool (x40 == (12 : Int)))] H (noU_all rfl) (fun fr => by kernel_rfl) ?_
                  intro fr H
                  have e0 := Option.some.inj hm
                  obtain ⟨e1, f1⟩ := Prod.mk.inj e0
                  obtain ⟨e2, f2⟩ := Prod.mk.inj f1
                  obtain ⟨e3, f3⟩ := Prod.mk.inj f2
                  obtain ⟨e4, f4⟩ := Prod.mk.inj f3
                  subst e1
                  subst e2
                  subst e3
                  subst e4
                  subst f4
                  replace A : HH g h17 [.obj bx1w1 (.cells none 2 [.chan (some bx1w1_0), .str x41.now_, .int .i64 x41.size_, .bool x41.closed_]), .obj bx1w1_0 (.chan 64 (lst eS x42))] F := (HH.dropF ((A.front 1 rfl).front 1 rfl) 2)
                  exact at_nil ⟨H.less _ (fun fr => by kernel_rfl), A⟩
                · replace H := H.know 87 hb (by kernel_rfl)
                  refine at_seg [(14, []), (15, []), (16, []), (17, []), (18, [])] [(92, .bool false)] H (noU_all rfl) (fun fr => by kernel_rfl) ?_
                  intro fr H
                  have e0 := Option.some.inj hm
                  obtain ⟨e1, f1⟩ := Prod.mk.inj e0
                  obtain ⟨e2, f2⟩ := Prod.mk.inj f1
                  obtain ⟨e3, f3⟩ := Prod.mk.inj f2
                  obtain ⟨e4, f4⟩ := Prod.mk.inj f3
                  subst e1
                  subst e2
                  subst e3
                  subst e4
                  subst f4
                  replace A : HH g h14 [.obj bx1w1 (.cells none 2 [.chan (some bx1w1_0), .str x33.now_, .int .i64 x33.size_, .bool x33.closed_]), .obj bx1w1_0 (.chan 64 (lst eS x34))] F := (HH.dropF ((A.front 1 rfl).front 1 rfl) 2)
                  exact at_nil ⟨H.less _ (fun fr => by kernel_rfl), A⟩
              · clear A
                intro t fr h15 hK
                obtain ⟨H, A⟩ := hK
                refine at_seg [(19, [])] [(93, .bool x39)] H (noU_all rfl) (fun fr => by kernel_rfl) ?_
                intro fr H
                obtain ⟨x43, ho, hm⟩ := bind_some hm
                refine at_cut [(20, []), (21, [])] (fun fr' h' => Has fr' 96 [(95, .bool x43)] ∧ HH g h' [.obj bx1w1 (.cells none 2 [.chan (some bx1w1_0), .str x35, .int .i64 x36, .bool x37]), .obj bx1w1_0 (.chan 64 (lst eS x38))] F) ?_ ?_
                · rcases iteB_some ho with ⟨hb, hm⟩ | ⟨hb, hm⟩
                  · replace H := H.know 93 hb (by kernel_rfl)
                    obtain ⟨x44, hx, hm⟩ := bind_some hm
                    refine at_step (v := .bool x44) (h1 := h15) [(93, .bool true), (94, .bool x44)] H (fun fr => by kernel_rfl) (fun fr => Steps.call (by kernel_rfl) (ok_boulterlaw08_awake hx)) ?_
                    intro fr t H
                    refine at_seg [(21, [])] [(95, .bool x44)] H (noU_all rfl) (fun fr => by kernel_rfl) ?_
                    intro fr H
                    have e1 := Option.some.inj hm
                    subst e1
                    exact at_nil ⟨H.less _ (fun fr => by kernel_rfl), A⟩
                  · replace H := H.know 93 hb (by kernel_rfl)
                    refine at_seg [(20, []), (21, [])] [(95, .bool false)] H (noU_all rfl) (fun fr => by kernel_rfl) ?_
                    intro fr H
                    have e1 := Option.some.inj hm
                    subst e1
                    exact at_nil ⟨H.less _ (fun fr => by kernel_rfl), A⟩
                · clear A
                  intro t fr h18 hK
                  obtain ⟨H, A⟩ := hK
                  refine at_seg [(22, [])] [(4, .bool x43)] H (noU_all rfl) (fun fr => by kernel_rfl) ?_
                  intro fr H
                  refine at_nil ?_
                  show AW cfg 4 g (right (right (right (right (right (right (right (right (right (right (right (right (bodyC cfg.P 4))))))))))))) fr h18 _
                  refine aw_ret (by kernel_rfl) ?_
                  have e1 := Option.some.inj hm
                  subst e1
                  refine ⟨.inl rfl, .bool x43, resH H (fun fr => by kernel_rfl), ?_⟩
                  replace A : HH g h18 [] F := (HH.dropF A 0)
                  exact ⟨rfl, A⟩
    · skip
      have e1 := Option.some.inj hm
      subst e1
      refine ⟨.inl rfl, .bool x15, resH H (fun fr => by kernel_rfl), ?_⟩
      replace A : HH g h6 [] F := (HH.dropF A 0)
      exact ⟨rfl, A⟩
    · exact hF.elim
/-! ### boulter/boulterref08.Put -/
noncomputable def M_boulterref08_Put (p0 : S_boulterref08_State) (p1 : List UInt8) : Option (S_boulterref08_State × Int) :=
 iteB (decide ((p1.length : Int) > (65536 : Int))) (some (p0, (12 : Int))) (iteB p0.Closed (some (p0, (10 : Int))) (iteB (p1 == ([] : List UInt8)) (some (p0, (0 : Int))) (iteB (decide ((p0.L.length : Int) ≥ (64 : Int))) (some (p0, (8 : Int))) (need (okN 16 (([] : List (List UInt8)).length + p0.L.length)) <| need (okN 16 ((([] : List (List UInt8)) ++ p0.L).length + ([p1] : List (List UInt8)).length)) <| some ((⟨((([] : List (List UInt8)) ++ p0.L) ++ ([p1] : List (List UInt8))), false⟩ : S_boulterref08_State), (0 : Int))))))
theorem ok_boulterref08_Put {g : Gd} {h : AHeap} {F : List Ck} {p0 : S_boulterref08_State} {p1 : List UInt8} {q0 : S_boulterref08_State} {q1 : Int} {av : List AVal} (hm : M_boulterref08_Put p0 p1 = some (q0, q1)) (hc : canL (cfg.still 17) av = [.agg [vs eS p0.L, .bool p0.Closed], .str p1]) (A : HH g h [] F) : ∃ v h', Runs cfg g h 17 av v h' ∧ v = .tuple [.agg [vs eS q0.L, .bool q0.Closed], .int .i64 q1] ∧ HH g h' [] F := by
  refine runsQ7 (n := 32) (rs := [.cell 4 35, .tmp 5]) (by kernel_rfl) hc (by kernel_rfl) ?_
  clear hc
  unfold M_boulterref08_Put at hm
  refine start (n := 32) [(0, .agg [vs eS p0.L, .bool p0.Closed]), (1, .str p1)] (by kernel_rfl) (by kernel_rfl) ?_
  intro fr H
  refine aw_seq (by kernel_rfl) ?_
  refine aw_reg (id := 0) (n := 3) [(0, []), (1, []), (2, [])] (by kernel_rfl) (by kernel_rfl) ?_
  obtain ⟨h1, e1⟩ : ∃ x, x = h.push (.cells none 2 [vs eS p0.L, .bool p0.Closed]) := ⟨_, rfl⟩
  replace A := (A.push _).to e1
  refine at_step (v := .ptr (some (h.size, 0))) (h1 := h1) [(1, .str p1), (2, .ptr (some (h.size, 0)))] H (fun fr => by kernel_rfl) (fun fr => .of (s_n' (by kernel_rfl) (congrArg some e1.symm))) ?_
  intro fr t H
  obtain ⟨h2, e2⟩ : ∃ x, x = h1.push (.cells none 2 [.slice none 0, .bool false]) := ⟨_, rfl⟩
  replace A := (A.push _).to e2
  refine at_step (v := .ptr (some (h1.size, 0))) (h1 := h2) [(1, .str p1), (2, .ptr (some (h.size, 0))), (4, .ptr (some (h1.size, 0)))] H (fun fr => by kernel_rfl) (fun fr => .of (s_n' (by kernel_rfl) (congrArg some e2.symm))) ?_
  intro fr t H
  refine at_seg [(2, [])] [(1, .str p1), (2, .ptr (some (h.size, 0))), (4, .ptr (some (h1.size, 0)))] H (noU_all rfl) (fun fr => by kernel_rfl) ?_
  intro fr H
  refine at_nil ?_
  show AW cfg 17 g (right (bodyC cfg.P 17)) fr h2 _
  refine aw_seq (by kernel_rfl) ?_
  refine aw_seq (by kernel_rfl) ?_
  refine aw_reg (id := 1) (n := 3) [(0, []), (1, []), (2, [])] (by kernel_rfl) (by kernel_rfl) ?_
  refine at_seg [(0, []), (1, []), (2, [])] [(1, .str p1), (2, .ptr (some (h.size, 0))), (4, .ptr (some (h1.size, 0))), (9, .bool (decide ((p1.length : Int) > (65536 : Int))))] H (noU_all rfl) (fun fr => by kernel_rfl) ?_
  intro fr H
  refine at_nil ?_
  show AW cfg 17 g (right (left (right (bodyC cfg.P 17)))) fr h2 _
  rcases iteB_some hm with ⟨hb, hm⟩ | ⟨hb, hm⟩
  · replace H := H.know 9 hb (by kernel_rfl)
    refine aw_true (x := .tmp 9) (by kernel_rfl) H (fun fr => by kernel_rfl) ?_
    refine aw_seq (by kernel_rfl) ?_
    refine aw_reg (id := 2) (n := 3) [(0, []), (1, []), (2, [])] (by kernel_rfl) (by kernel_rfl) ?_
    refine at_step (v := .agg [vs eS p0.L, .bool p0.Closed]) (h1 := h2) [(4, .ptr (some (h1.size, 0))), (10, .agg [vs eS p0.L, .bool p0.Closed])] H (fun fr => by kernel_rfl) (fun fr => .of (s_ldA (by kernel_rfl) (A.ldA 1 rfl (o := 0) (n := 2) ⟨Nat.le_of_ble_eq_true rfl, rfl⟩))) ?_
    intro fr t H
    obtain ⟨h3, hx, A1⟩ := A.st 0 rfl (o := 0) (new := [vs eS p0.L, .bool p0.Closed]) (ds := [vs eS p0.L, .bool p0.Closed]) (Nat.le_of_ble_eq_true rfl) rfl rfl
    replace A : HH g h3 [.obj h1.size (.cells none 2 [vs eS p0.L, .bool p0.Closed]), .obj h.size (.cells none 2 [vs eS p0.L, .bool p0.Closed])] F := A1
    refine at_step (v := .tuple []) (h1 := h3) [(4, .ptr (some (h1.size, 0)))] H (fun fr => by kernel_rfl) (fun fr => .of (s_stG (by kernel_rfl) (stG_st hx rfl))) ?_
    intro fr t H
    refine at_seg [(2, [])] [(4, .ptr (some (h1.size, 0))), (5, .int .i64 (12 : Int))] H (noU_all rfl) (fun fr => by kernel_rfl) ?_
    intro fr H
    refine at_nil ?_
    show AW cfg 17 g (right (left (right (left (right (bodyC cfg.P 17)))))) fr h3 _
    refine aw_ret (by kernel_rfl) ?_
    have e0 := Option.some.inj hm
    obtain ⟨y0, z0⟩ := Prod.mk.inj e0
    subst y0
    subst z0
    refine ⟨.inl rfl, .tuple [.agg [vs eS p0.L, .bool p0.Closed], .int .i64 (12 : Int)], resL_many (.cell (resT H (fun fr => by kernel_rfl)) (load_ldA (by kernel_rfl) (by kernel_rfl) (A.ldA 0 rfl (o := 0) (n := 2) ⟨Nat.le_of_ble_eq_true rfl, rfl⟩)) (.tmp (resT H (fun fr => by kernel_rfl)) .nil)), ?_⟩
    refine ⟨.tuple [.agg [vs eS p0.L, .bool p0.Closed], .int .i64 (12 : Int)], h3, by first | rfl | (simp only [fz3T, fz3A, fz3B, fz3R, fz2A, fz2R, fz2V, fz2I, fz2B, fz2S, fz2N, fzL0, fzL1, fz1I, fz1B, fz1S, fz1V, fz1N, Option.map_some] <;> rfl), ?_⟩
    replace A : HH g h3 [] F := (HH.dropF A 0)
    exact ⟨rfl, A⟩
  · replace H := H.know 9 hb (by kernel_rfl)
    refine aw_false (x := .tmp 9) (by kernel_rfl) H (fun fr => by kernel_rfl) ?_
    refine aw_skip (by kernel_rfl) ?_
    show AW cfg 17 g (right (right (bodyC cfg.P 17))) fr h2 _
    refine aw_seq (by kernel_rfl) ?_
    refine aw_seq (by kernel_rfl) ?_
    refine aw_reg (id := 3) (n := 2) [(0, []), (1, [])] (by kernel_rfl) (by kernel_rfl) ?_
    refine at_seg [(0, [])] [(1, .str p1), (2, .ptr (some (h.size, 0))), (4, .ptr (some (h1.size, 0))), (11, .ptr (some (h.size, 1)))] H (noU_all rfl) (fun fr => by kernel_rfl) ?_
    intro fr H
    refine at_step (v := .bool p0.Closed) (h1 := h2) [(1, .str p1), (2, .ptr (some (h.size, 0))), (4, .ptr (some (h1.size, 0))), (12, .bool p0.Closed)] H (fun fr => by kernel_rfl) (fun fr => .of (s_ld (by kernel_rfl) (A.ld1 1 rfl (o := 1) rfl))) ?_
    intro fr t H
    refine at_nil ?_
    show AW cfg 17 g (right (left (right (right (bodyC cfg.P 17))))) fr h2 _
    rcases iteB_some hm with ⟨hb, hm⟩ | ⟨hb, hm⟩
    · replace H := H.know 12 hb (by kernel_rfl)
      refine aw_true (x := .tmp 12) (by kernel_rfl) H (fun fr => by kernel_rfl) ?_
      refine aw_seq (by kernel_rfl) ?_
      refine aw_reg (id := 4) (n := 3) [(0, []), (1, []), (2, [])] (by kernel_rfl) (by kernel_rfl) ?_
      refine at_step (v := .agg [vs eS p0.L, .bool p0.Closed]) (h1 := h2) [(4, .ptr (some (h1.size, 0))), (13, .agg [vs eS p0.L, .bool p0.Closed])] H (fun fr => by kernel_rfl) (fun fr => .of (s_ldA (by kernel_rfl) (A.ldA 1 rfl (o := 0) (n := 2) ⟨Nat.le_of_ble_eq_true rfl, rfl⟩))) ?_
      intro fr t H
      obtain ⟨h4, hx, A1⟩ := A.st 0 rfl (o := 0) (new := [vs eS p0.L, .bool p0.Closed]) (ds := [vs eS p0.L, .bool p0.Closed]) (Nat.le_of_ble_eq_true rfl) rfl rfl
      replace A : HH g h4 [.obj h1.size (.cells none 2 [vs eS p0.L, .bool p0.Closed]), .obj h.size (.cells none 2 [vs eS p0.L, .bool p0.Closed])] F := A1
      refine at_step (v := .tuple []) (h1 := h4) [(4, .ptr (some (h1.size, 0)))] H (fun fr => by kernel_rfl) (fun fr => .of (s_stG (by kernel_rfl) (stG_st hx rfl))) ?_
      intro fr t H
      refine at_seg [(2, [])] [(4, .ptr (some (h1.size, 0))), (5, .int .i64 (10 : Int))] H (noU_all rfl) (fun fr => by kernel_rfl) ?_
      intro fr H
      refine at_nil ?_
      show AW cfg 17 g (right (left (right (left (right (right (bodyC cfg.P 17))))))) fr h4 _
      refine aw_ret (by kernel_rfl) ?_
      have e0 := Option.some.inj hm
      obtain ⟨y0, z0⟩ := Prod.mk.inj e0
      subst y0
      subst z0
      refine ⟨.inl rfl, .tuple [.agg [vs eS p0.L, .bool p0.Closed], .int .i64 (10 : Int)], resL_many (.cell (resT H (fun fr => by kernel_rfl)) (load_ldA (by kernel_rfl) (by kernel_rfl) (A.ldA 0 rfl (o := 0) (n := 2) ⟨Nat.le_of_ble_eq_true rfl, rfl⟩)) (.tmp (resT H (fun fr => by kernel_rfl)) .nil)), ?_⟩
      refine ⟨.tuple [.agg [vs eS p0.L, .bool p0.Closed], .int .i64 (10 : Int)], h4, by first | rfl | (simp only [fz3T, fz3A, fz3B, fz3R, fz2A, fz2R, fz2V, fz2I, fz2B, fz2S, fz2N, fzL0, fzL1, fz1I, fz1B, fz1S, fz1V, fz1N, Option.map_some] <;> rfl), ?_⟩
      replace A : HH g h4 [] F := (HH.dropF A 0)
      exact ⟨rfl, A⟩
    · replace H := H.know 12 hb (by kernel_rfl)
      refine aw_false (x := .tmp 12) (by kernel_rfl) H (fun fr => by kernel_rfl) ?_
      refine aw_skip (by kernel_rfl) ?_
      show AW cfg 17 g (right (right (right (bodyC cfg.P 17)))) fr h2 _
      refine aw_seq (by kernel_rfl) ?_
      refine aw_seq (by kernel_rfl) ?_
      refine aw_reg (id := 5) (n := 2) [(0, []), (1, [])] (by kernel_rfl) (by kernel_rfl) ?_
      refine at_seg [(0, []), (1, [])] [(1, .str p1), (2, .ptr (some (h.size, 0))), (4, .ptr (some (h1.size, 0))), (15, .bool (p1 == ([] : List UInt8)))] H (noU_all rfl) (fun fr => by kernel_rfl) ?_
      intro fr H
      refine at_nil ?_
      show AW cfg 17 g (right (left (right (right (right (bodyC cfg.P 17)))))) fr h2 _
      rcases iteB_some hm with ⟨hb, hm⟩ | ⟨hb, hm⟩
      · replace H := H.know 15 hb (by kernel_rfl)
        refine aw_true (x := .tmp 15) (by kernel_rfl) H (fun fr => by kernel_rfl) ?_
        refine aw_seq (by kernel_rfl) ?_
        refine aw_reg (id := 6) (n := 3) [(0, []), (1, []), (2, [])] (by kernel_rfl) (by kernel_rfl) ?_
        refine at_step (v := .agg [vs eS p0.L, .bool p0.Closed]) (h1 := h2) [(4, .ptr (some (h1.size, 0))), (16, .agg [vs eS p0.L, .bool p0.Closed])] H (fun fr => by kernel_rfl) (fun fr => .of (s_ldA (by kernel_rfl) (A.ldA 1 rfl (o := 0) (n := 2) ⟨Nat.le_of_ble_eq_true rfl, rfl⟩))) ?_
        intro fr t H
        obtain ⟨h5, hx, A1⟩ := A.st 0 rfl (o := 0) (new := [vs eS p0.L, .bool p0.Closed]) (ds := [vs eS p0.L, .bool p0.Closed]) (Nat.le_of_ble_eq_true rfl) rfl rfl
        replace A : HH g h5 [.obj h1.size (.cells none 2 [vs eS p0.L, .bool p0.Closed]), .obj h.size (.cells none 2 [vs eS p0.L, .bool p0.Closed])] F := A1
        refine at_step (v := .tuple []) (h1 := h5) [(4, .ptr (some (h1.size, 0)))] H (fun fr => by kernel_rfl) (fun fr => .of (s_stG (by kernel_rfl) (stG_st hx rfl))) ?_
        intro fr t H
        refine at_seg [(2, [])] [(4, .ptr (some (h1.size, 0))), (5, .int .i64 (0 : Int))] H (noU_all rfl) (fun fr => by kernel_rfl) ?_
        intro fr H
        refine at_nil ?_
        show AW cfg 17 g (right (left (right (left (right (right (right (bodyC cfg.P 17)))))))) fr h5 _
        refine aw_ret (by kernel_rfl) ?_
        have e0 := Option.some.inj hm
        obtain ⟨y0, z0⟩ := Prod.mk.inj e0
        subst y0
        subst z0
        refine ⟨.inl rfl, .tuple [.agg [vs eS p0.L, .bool p0.Closed], .int .i64 (0 : Int)], resL_many (.cell (resT H (fun fr => by kernel_rfl)) (load_ldA (by kernel_rfl) (by kernel_rfl) (A.ldA 0 rfl (o := 0) (n := 2) ⟨Nat.le_of_ble_eq_true rfl, rfl⟩)) (.tmp (resT H (fun fr => by kernel_rfl)) .nil)), ?_⟩
        refine ⟨.tuple [.agg [vs eS p0.L, .bool p0.Closed], .int .i64 (0 : Int)], h5, by first | rfl | (simp only [fz3T, fz3A, fz3B, fz3R, fz2A, fz2R, fz2V, fz2I, fz2B, fz2S, fz2N, fzL0, fzL1, fz1I, fz1B, fz1S, fz1V, fz1N, Option.map_some] <;> rfl), ?_⟩
        replace A : HH g h5 [] F := (HH.dropF A 0)
        exact ⟨rfl, A⟩
      · replace H := H.know 15 hb (by kernel_rfl)
        refine aw_false (x := .tmp 15) (by kernel_rfl) H (fun fr => by kernel_rfl) ?_
        refine aw_skip (by kernel_rfl) ?_
        show AW cfg 17 g (right (right (right (right (bodyC cfg.P 17))))) fr h2 _
        refine aw_seq (by kernel_rfl) ?_
        refine aw_seq (by kernel_rfl) ?_
        refine aw_reg (id := 7) (n := 4) [(0, []), (1, []), (2, []), (3, [])] (by kernel_rfl) (by kernel_rfl) ?_
        refine at_seg [(0, [])] [(1, .str p1), (2, .ptr (some (h.size, 0))), (4, .ptr (some (h1.size, 0))), (17, .ptr (some (h.size, 0)))] H (noU_all rfl) (fun fr => by kernel_rfl) ?_
        intro fr H
        refine at_step (v := vs eS p0.L) (h1 := h2) [(1, .str p1), (2, .ptr (some (h.size, 0))), (4, .ptr (some (h1.size, 0))), (18, vs eS p0.L)] H (fun fr => by kernel_rfl) (fun fr => .of (s_ld (by kernel_rfl) (A.ld1 1 rfl (o := 0) rfl))) ?_
        intro fr t H
        refine at_seg [(2, []), (3, [])] [(1, .str p1), (2, .ptr (some (h.size, 0))), (4, .ptr (some (h1.size, 0))), (20, .bool (decide ((p0.L.length : Int) ≥ (64 : Int))))] H (noU_all rfl) (fun fr => by kernel_rfl) ?_
        intro fr H
        refine at_nil ?_
        show AW cfg 17 g (right (left (right (right (right (right (bodyC cfg.P 17))))))) fr h2 _
        rcases iteB_some hm with ⟨hb, hm⟩ | ⟨hb, hm⟩
        · replace H := H.know 20 hb (by kernel_rfl)
          refine aw_true (x := .tmp 20) (by kernel_rfl) H (fun fr => by kernel_rfl) ?_
          refine aw_seq (by kernel_rfl) ?_
          refine aw_reg (id := 8) (n := 3) [(0, []), (1, []), (2, [])] (by kernel_rfl) (by kernel_rfl) ?_
          refine at_step (v := .agg [vs eS p0.L, .bool p0.Closed]) (h1 := h2) [(4, .ptr (some (h1.size, 0))), (21, .agg [vs eS p0.L, .bool p0.Closed])] H (fun fr => by kernel_rfl) (fun fr => .of (s_ldA (by kernel_rfl) (A.ldA 1 rfl (o := 0) (n := 2) ⟨Nat.le_of_ble_eq_true rfl, rfl⟩))) ?_
          intro fr t H
          obtain ⟨h6, hx, A1⟩ := A.st 0 rfl (o := 0) (new := [vs eS p0.L, .bool p0.Closed]) (ds := [vs eS p0.L, .bool p0.Closed]) (Nat.le_of_ble_eq_true rfl) rfl rfl
          replace A : HH g h6 [.obj h1.size (.cells none 2 [vs eS p0.L, .bool p0.Closed]), .obj h.size (.cells none 2 [vs eS p0.L, .bool p0.Closed])] F := A1
          refine at_step (v := .tuple []) (h1 := h6) [(4, .ptr (some (h1.size, 0)))] H (fun fr => by kernel_rfl) (fun fr => .of (s_stG (by kernel_rfl) (stG_st hx rfl))) ?_
          intro fr t H
          refine at_seg [(2, [])] [(4, .ptr (some (h1.size, 0))), (5, .int .i64 (8 : Int))] H (noU_all rfl) (fun fr => by kernel_rfl) ?_
          intro fr H
          refine at_nil ?_
          show AW cfg 17 g (right (left (right (left (right (right (right (right (bodyC cfg.P 17))))))))) fr h6 _
          refine aw_ret (by kernel_rfl) ?_
          have e0 := Option.some.inj hm
          obtain ⟨y0, z0⟩ := Prod.mk.inj e0
          subst y0
          subst z0
          refine ⟨.inl rfl, .tuple [.agg [vs eS p0.L, .bool p0.Closed], .int .i64 (8 : Int)], resL_many (.cell (resT H (fun fr => by kernel_rfl)) (load_ldA (by kernel_rfl) (by kernel_rfl) (A.ldA 0 rfl (o := 0) (n := 2) ⟨Nat.le_of_ble_eq_true rfl, rfl⟩)) (.tmp (resT H (fun fr => by kernel_rfl)) .nil)), ?_⟩
          refine ⟨.tuple [.agg [vs eS p0.L, .bool p0.Closed], .int .i64 (8 : Int)], h6, by first | rfl | (simp only [fz3T, fz3A, fz3B, fz3R, fz2A, fz2R, fz2V, fz2I, fz2B, fz2S, fz2N, fzL0, fzL1, fz1I, fz1B, fz1S, fz1V, fz1N, Option.map_some] <;> rfl), ?_⟩
          replace A : HH g h6 [] F := (HH.dropF A 0)
          exact ⟨rfl, A⟩
        · replace H := H.know 20 hb (by kernel_rfl)
          refine aw_false (x := .tmp 20) (by kernel_rfl) H (fun fr => by kernel_rfl) ?_
          refine aw_skip (by kernel_rfl) ?_
          show AW cfg 17 g (right (right (right (right (right (bodyC cfg.P 17)))))) fr h2 _
          refine aw_seq (by kernel_rfl) ?_
          refine aw_reg (id := 9) (n := 2) [(0, []), (1, [])] (by kernel_rfl) (by kernel_rfl) ?_
          obtain ⟨h7, e3⟩ : ∃ x, x = h2.push (.cells (some 9) 2 []) := ⟨_, rfl⟩
          replace A := (A.pushL _ _).to e3
          refine at_step (v := rowV (some h2.size) (([] : List (List UInt8)).length)) (h1 := h7) [(1, .str p1), (2, .ptr (some (h.size, 0))), (4, .ptr (some (h1.size, 0))), (22, rowV (some h2.size) (([] : List (List UInt8)).length))] H (fun fr => by kernel_rfl) (fun fr => .of (s_n' (by kernel_rfl) (congrArg some e3.symm))) ?_
          intro fr t H
          refine at_seg [(1, [])] [(1, .str p1), (2, .ptr (some (h.size, 0))), (4, .ptr (some (h1.size, 0))), (6, rowV (some h2.size) (([] : List (List UInt8)).length))] H (noU_all rfl) (fun fr => by kernel_rfl) ?_
          intro fr H
          refine at_nil ?_
          show AW cfg 17 g (right (right (right (right (right (right (bodyC cfg.P 17))))))) fr h7 _
          refine aw_seq (by kernel_rfl) ?_
          refine aw_reg (id := 10) (n := 5) [(0, []), (1, []), (2, []), (3, []), (4, [])] (by kernel_rfl) (by kernel_rfl) ?_
          refine at_seg [(0, []), (1, [])] [(1, .str p1), (4, .ptr (some (h1.size, 0))), (23, rowV (some h2.size) (([] : List (List UInt8)).length)), (24, .ptr (some (h.size, 0)))] H (noU_all rfl) (fun fr => by kernel_rfl) ?_
          intro fr H
          refine at_step (v := vs eS p0.L) (h1 := h7) [(1, .str p1), (4, .ptr (some (h1.size, 0))), (23, rowV (some h2.size) (([] : List (List UInt8)).length)), (25, vs eS p0.L)] H (fun fr => by kernel_rfl) (fun fr => .of (s_ld (by kernel_rfl) (A.ld1 2 rfl (o := 0) rfl))) ?_
          intro fr t H
          replace A : HH g h7 [.lst (some h2.size) 9 (lst eS ([] : List (List UInt8))), .obj h1.size (.cells none 2 [.slice none 0, .bool false]), .obj h.size (.cells none 2 [vs eS p0.L, .bool p0.Closed])] F := A
          obtain ⟨hb, hm⟩ := need_some hm
          obtain ⟨r1, h8, hx, A1⟩ := HH.appO encS (by decide) A 0 (xs := ([] : List (List UInt8))) (ys := p0.L) rfl (firstV encS _ p0.L) (encS.canL _) rfl hb
          replace A : HH g h8 [.lst r1 9 (lst eS (([] : List (List UInt8)) ++ p0.L)), .obj h1.size (.cells none 2 [.slice none 0, .bool false]), .obj h.size (.cells none 2 [vs eS p0.L, .bool p0.Closed])] F := A1
          refine at_step (v := rowV r1 ((([] : List (List UInt8)) ++ p0.L).length)) (h1 := h8) [(1, .str p1), (4, .ptr (some (h1.size, 0))), (26, rowV r1 ((([] : List (List UInt8)) ++ p0.L).length))] H (fun fr => by kernel_rfl) (fun fr => .of (s_app (s := rowS (some h2.size) (([] : List (List UInt8)).length)) (by kernel_rfl) hx)) ?_
          intro fr t H
          refine at_seg [(4, [])] [(1, .str p1), (4, .ptr (some (h1.size, 0))), (6, rowV r1 ((([] : List (List UInt8)) ++ p0.L).length))] H (noU_all rfl) (fun fr => by kernel_rfl) ?_
          intro fr H
          refine at_nil ?_
          show AW cfg 17 g (right (right (right (right (right (right (right (bodyC cfg.P 17)))))))) fr h8 _
          refine aw_seq (by kernel_rfl) ?_
          refine aw_reg (id := 11) (n := 7) [(0, []), (1, []), (2, []), (3, []), (4, []), (5, []), (6, [])] (by kernel_rfl) (by kernel_rfl) ?_
          refine at_seg [(0, []), (1, [])] [(4, .ptr (some (h1.size, 0))), (27, rowV r1 ((([] : List (List UInt8)) ++ p0.L).length)), (28, .str p1)] H (noU_all rfl) (fun fr => by kernel_rfl) ?_
          intro fr H
          obtain ⟨h9, e4⟩ : ∃ x, x = h8.push (.cells (some 9) 2 [.str p1]) := ⟨_, rfl⟩
          replace A := (A.pushL _ _).to e4
          refine at_step (v := rowV (some h8.size) (([p1] : List (List UInt8)).length)) (h1 := h9) [(4, .ptr (some (h1.size, 0))), (27, rowV r1 ((([] : List (List UInt8)) ++ p0.L).length)), (29, rowV (some h8.size) (([p1] : List (List UInt8)).length))] H (fun fr => by kernel_rfl) (fun fr => .of (s_n' (by kernel_rfl) (congrArg some e4.symm))) ?_
          intro fr t H
          obtain ⟨hb, hm⟩ := need_some hm
          obtain ⟨r2, h10, hx, A1⟩ := HH.appO encS (by decide) A 1 (xs := (([] : List (List UInt8)) ++ p0.L)) (ys := ([p1] : List (List UInt8))) rfl (row_first A 0 rfl (n := ([p1] : List (List UInt8)).length) (z := 1) rfl (by decide)) rfl rfl hb
          replace A : HH g h10 [.lst (some h8.size) 9 ([.str p1]), .lst r2 9 (lst eS ((([] : List (List UInt8)) ++ p0.L) ++ ([p1] : List (List UInt8)))), .obj h1.size (.cells none 2 [.slice none 0, .bool false]), .obj h.size (.cells none 2 [vs eS p0.L, .bool p0.Closed])] F := A1
          replace A : HH g h10 [.lst r2 9 (lst eS ((([] : List (List UInt8)) ++ p0.L) ++ ([p1] : List (List UInt8)))), .obj h1.size (.cells none 2 [.slice none 0, .bool false]), .obj h.size (.cells none 2 [vs eS p0.L, .bool p0.Closed])] F := (HH.dropF (((A.front 3 rfl).front 3 rfl).front 3 rfl) 3)
          refine at_step (v := rowV r2 (((([] : List (List UInt8)) ++ p0.L) ++ ([p1] : List (List UInt8))).length)) (h1 := h10) [(4, .ptr (some (h1.size, 0))), (30, rowV r2 (((([] : List (List UInt8)) ++ p0.L) ++ ([p1] : List (List UInt8))).length))] H (fun fr => by kernel_rfl) (fun fr => .of (s_app (s := rowS r1 ((([] : List (List UInt8)) ++ p0.L).length)) (by kernel_rfl) hx)) ?_
          intro fr t H
          refine at_seg [(4, [])] [(4, .ptr (some (h1.size, 0))), (31, .agg [rowV r2 (((([] : List (List UInt8)) ++ p0.L) ++ ([p1] : List (List UInt8))).length), .bool false])] H (noU_all rfl) (fun fr => by kernel_rfl) ?_
          intro fr H
          obtain ⟨h11, hx, A1⟩ := A.st 1 rfl (o := 0) (new := [rowV r2 (((([] : List (List UInt8)) ++ p0.L) ++ ([p1] : List (List UInt8))).length), .bool false]) (ds := [rowV r2 (((([] : List (List UInt8)) ++ p0.L) ++ ([p1] : List (List UInt8))).length), .bool false]) (Nat.le_of_ble_eq_true rfl) rfl rfl
          replace A : HH g h11 [.lst r2 9 (lst eS ((([] : List (List UInt8)) ++ p0.L) ++ ([p1] : List (List UInt8)))), .obj h1.size (.cells none 2 [rowV r2 (((([] : List (List UInt8)) ++ p0.L) ++ ([p1] : List (List UInt8))).length), .bool false]), .obj h.size (.cells none 2 [vs eS p0.L, .bool p0.Closed])] F := A1
          refine at_step (v := .tuple []) (h1 := h11) [(4, .ptr (some (h1.size, 0)))] H (fun fr => by kernel_rfl) (fun fr => .of (s_stG (by kernel_rfl) (stG_st hx rfl))) ?_
          intro fr t H
          refine at_seg [(6, [])] [(4, .ptr (some (h1.size, 0))), (5, .int .i64 (0 : Int))] H (noU_all rfl) (fun fr => by kernel_rfl) ?_
          intro fr H
          refine at_nil ?_
          show AW cfg 17 g (right (right (right (right (right (right (right (right (bodyC cfg.P 17))))))))) fr h11 _
          refine aw_ret (by kernel_rfl) ?_
          have e0 := Option.some.inj hm
          obtain ⟨y0, z0⟩ := Prod.mk.inj e0
          subst y0
          subst z0
          refine ⟨.inl rfl, .tuple [.agg [rowV r2 (((([] : List (List UInt8)) ++ p0.L) ++ ([p1] : List (List UInt8))).length), .bool false], .int .i64 (0 : Int)], resL_many (.cell (resT H (fun fr => by kernel_rfl)) (load_ldA (by kernel_rfl) (by kernel_rfl) (A.ldA 1 rfl (o := 0) (n := 2) ⟨Nat.le_of_ble_eq_true rfl, rfl⟩)) (.tmp (resT H (fun fr => by kernel_rfl)) .nil)), ?_⟩
          obtain ⟨h12, hz0, A1⟩ := (A.front 0 rfl).frz (n := ((([] : List (List UInt8)) ++ p0.L) ++ ([p1] : List (List UInt8))).length) (z := 1) (encS.lenL _) (by decide)
          replace A : HH g h12 [.obj h1.size (.cells none 2 [rowV r2 (((([] : List (List UInt8)) ++ p0.L) ++ ([p1] : List (List UInt8))).length), .bool false]), .obj h.size (.cells none 2 [vs eS p0.L, .bool p0.Closed])] F := A1
          refine ⟨.tuple [.agg [vs eS ((([] : List (List UInt8)) ++ p0.L) ++ ([p1] : List (List UInt8))), .bool false], .int .i64 (0 : Int)], h12, by first | rfl | (simp only [fz3T, fz3A, fz3B, fz3R, fz2A, fz2R, fz2V, fz2I, fz2B, fz2S, fz2N, fzL0, fzL1, fz1I, fz1B, fz1S, fz1V, fz1N, Option.map_some, hz0] <;> rfl), ?_⟩
          replace A : HH g h12 [] F := (HH.dropF A 0)
          exact ⟨rfl, A⟩
/-! ### boulter/boulterref08.All -/
noncomputable def M_boulterref08_All_L0 (p0 : S_boulterref08_State) (s : (List UInt8) × Int) : Option (((List UInt8) × Int) ⊕ (((List UInt8)))) :=
  match s with
  | (x1, x2) => iteB (decide (x2 < (p0.L.length : Int))) ((ixV p0.L x2).bind fun x4 => need (decide (x1.length + x4.length ≤ 9223372036854775807)) <| some (.inl (x1 ++ x4, IntKind.i64.wrap (x2 + (1 : Int))))) (some (.inr x1))
noncomputable def M_boulterref08_All (p0 : S_boulterref08_State) : Option ((List UInt8)) :=
 (loop (M_boulterref08_All_L0 p0) (([] : List UInt8), (0 : Int))).bind fun x3 => some x3
theorem ok_boulterref08_All {g : Gd} {h : AHeap} {F : List Ck} {p0 : S_boulterref08_State} {q0 : List UInt8} {av : List AVal} (hm : M_boulterref08_All p0 = some q0) (hc : canL (cfg.still 13) av = [.agg [vs eS p0.L, .bool p0.Closed]]) (A : HH g h [] F) : ∃ v h', Runs cfg g h 13 av v h' ∧ v = .str q0 ∧ HH g h' [] F := by
  refine runsQ1 (n := 20) (rs := [.tmp 2]) (by kernel_rfl) hc (by kernel_rfl) ?_
  clear hc
  unfold M_boulterref08_All at hm
  refine start (n := 20) [(0, .agg [vs eS p0.L, .bool p0.Closed])] (by kernel_rfl) (by kernel_rfl) ?_
  intro fr H
  refine aw_seq (by kernel_rfl) ?_
  refine aw_reg (id := 0) (n := 2) [(0, []), (1, [])] (by kernel_rfl) (by kernel_rfl) ?_
  obtain ⟨h1, e1⟩ : ∃ x, x = h.push (.cells none 2 [vs eS p0.L, .bool p0.Closed]) := ⟨_, rfl⟩
  replace A := (A.push _).to e1
  refine at_step (v := .ptr (some (h.size, 0))) (h1 := h1) [(1, .ptr (some (h.size, 0)))] H (fun fr => by kernel_rfl) (fun fr => .of (s_n' (by kernel_rfl) (congrArg some e1.symm))) ?_
  intro fr t H
  refine at_seg [(1, [])] [(1, .ptr (some (h.size, 0)))] H (noU_all rfl) (fun fr => by kernel_rfl) ?_
  intro fr H
  refine at_nil ?_
  show AW cfg 13 g (right (bodyC cfg.P 13)) fr h1 _
  refine aw_seq (by kernel_rfl) ?_
  refine aw_reg (id := 1) (n := 1) [(0, [])] (by kernel_rfl) (by kernel_rfl) ?_
  refine at_seg [(0, [])] [(1, .ptr (some (h.size, 0))), (3, .str ([] : List UInt8))] H (noU_all rfl) (fun fr => by kernel_rfl) ?_
  intro fr H
  refine at_nil ?_
  show AW cfg 13 g (right (right (bodyC cfg.P 13))) fr h1 _
  refine aw_seq (by kernel_rfl) ?_
  refine aw_seq (by kernel_rfl) ?_
  refine aw_reg (id := 2) (n := 1) [(0, [])] (by kernel_rfl) (by kernel_rfl) ?_
  refine at_seg [(0, [])] [(1, .ptr (some (h.size, 0))), (3, .str ([] : List UInt8)), (4, .int .i64 (0 : Int))] H (noU_all rfl) (fun fr => by kernel_rfl) ?_
  intro fr H
  refine at_nil ?_
  show AW cfg 13 g (right (left (right (right (bodyC cfg.P 13))))) fr h1 _
  refine aw_block (id := 0) (by kernel_rfl) ?_
  obtain ⟨o1, ho, hm⟩ := bind_some hm
  refine aw_mono (Q' := fun e fr' h' => (∃ (x3 : List UInt8), e = .exit 0 ∧ x3 = o1 ∧ Has fr' 20 [(3, .str x3)] ∧ HH g h' [.obj h.size (.cells none 2 [vs eS p0.L, .bool p0.Closed])] F) ∨ False) ?_ ?_
  · refine aw_loop (by kernel_rfl) (fun (s : (List UInt8) × Int) fr' h' => ∃ (x1 : List UInt8) (x2 : Int), (x1, x2) = s ∧ Has fr' 20 [(1, .ptr (some (h.size, 0))), (3, .str x1), (4, .int .i64 x2)] ∧ HH g h' [.obj h.size (.cells none 2 [vs eS p0.L, .bool p0.Closed])] F) ho ⟨([] : List UInt8), (0 : Int), rfl, H.less _ (fun fr => by kernel_rfl), A⟩ ?_
    clear ho hm H A
    intro s q fr h2 hI hm
    obtain ⟨x1, x2, rfl, H, A⟩ := hI
    unfold M_boulterref08_All_L0 at hm
    refine aw_seq (by kernel_rfl) ?_
    refine aw_seq (by kernel_rfl) ?_
    refine aw_reg (id := 3) (n := 5) [(0, []), (1, []), (2, []), (3, []), (4, [])] (by kernel_rfl) (by kernel_rfl) ?_
    refine at_seg [(0, []), (1, [])] [(1, .ptr (some (h.size, 0))), (3, .str x1), (4, .int .i64 x2), (5, .int .i64 x2), (6, .ptr (some (h.size, 0)))] H (noU_all rfl) (fun fr => by kernel_rfl) ?_
    intro fr H
    refine at_step (v := vs eS p0.L) (h1 := h2) [(1, .ptr (some (h.size, 0))), (3, .str x1), (4, .int .i64 x2), (5, .int .i64 x2), (7, vs eS p0.L)] H (fun fr => by kernel_rfl) (fun fr => .of (s_ld (by kernel_rfl) (A.ld1 0 rfl (o := 0) rfl))) ?_
    intro fr t H
    refine at_seg [(3, []), (4, [])] [(1, .ptr (some (h.size, 0))), (3, .str x1), (4, .int .i64 x2), (9, .bool (decide (x2 < (p0.L.length : Int))))] H (noU_all rfl) (fun fr => by kernel_rfl) ?_
    intro fr H
    refine at_nil ?_
    show AW cfg 13 g (right (left (left (left (right (left (right (right (bodyC cfg.P 13))))))))) fr h2 _
    rcases iteB_some hm with ⟨hb, hm⟩ | ⟨hb, hm⟩
    · replace H := H.know 9 hb (by kernel_rfl)
      refine aw_true (x := .tmp 9) (by kernel_rfl) H (fun fr => by kernel_rfl) ?_
      refine aw_skip (by kernel_rfl) ?_
      show AW cfg 13 g (right (left (left (right (left (right (right (bodyC cfg.P 13)))))))) fr h2 _
      refine aw_seq (by kernel_rfl) ?_
      refine aw_block (id := 1) (by kernel_rfl) ?_
      refine aw_reg (id := 5) (n := 8) [(0, []), (1, []), (2, []), (3, []), (4, []), (5, []), (6, []), (7, [])] (by kernel_rfl) (by kernel_rfl) ?_
      refine at_seg [(0, []), (1, [])] [(1, .ptr (some (h.size, 0))), (4, .int .i64 x2), (12, .str x1), (13, .ptr (some (h.size, 0)))] H (noU_all rfl) (fun fr => by kernel_rfl) ?_
      intro fr H
      refine at_step (v := vs eS p0.L) (h1 := h2) [(1, .ptr (some (h.size, 0))), (4, .int .i64 x2), (12, .str x1), (14, vs eS p0.L)] H (fun fr => by kernel_rfl) (fun fr => .of (s_ld (by kernel_rfl) (A.ld1 0 rfl (o := 0) rfl))) ?_
      intro fr t H
      refine at_seg [(3, [])] [(1, .ptr (some (h.size, 0))), (4, .int .i64 x2), (12, .str x1), (14, vs eS p0.L), (15, .int .i64 x2)] H (noU_all rfl) (fun fr => by kernel_rfl) ?_
      intro fr H
      obtain ⟨x4, hx, hm⟩ := bind_some hm
      refine at_step (v := .vptr [.str x4]) (h1 := h2) [(1, .ptr (some (h.size, 0))), (4, .int .i64 x2), (12, .str x1), (16, .vptr [.str x4])] H (fun fr => by kernel_rfl) (fun fr => .of (s_ixV (e := eS) (x := x4) encS (by decide) (by kernel_rfl) hx)) ?_
      intro fr t H
      refine at_step (v := .str x4) (h1 := h2) [(1, .ptr (some (h.size, 0))), (4, .int .i64 x2), (12, .str x1), (17, .str x4)] H (fun fr => by kernel_rfl) (fun fr => .of (s_lv (by kernel_rfl))) ?_
      intro fr t H
      obtain ⟨hb, hm⟩ := need_some hm
      refine at_step (v := .str (x1 ++ x4)) (h1 := h2) [(1, .ptr (some (h.size, 0))), (4, .int .i64 x2), (18, .str (x1 ++ x4))] H (fun fr => by kernel_rfl) (fun fr => .of (s_cat (by kernel_rfl) hb)) ?_
      intro fr t H
      refine at_seg [(7, [])] [(1, .ptr (some (h.size, 0))), (3, .str (x1 ++ x4)), (4, .int .i64 x2)] H (noU_all rfl) (fun fr => by kernel_rfl) ?_
      intro fr H
      refine at_nil ?_
      show AW cfg 13 g (right (right (left (left (right (left (right (right (bodyC cfg.P 13))))))))) fr h2 _
      refine aw_reg (id := 4) (n := 3) [(0, []), (1, []), (2, [])] (by kernel_rfl) (by kernel_rfl) ?_
      refine at_seg [(0, []), (1, []), (2, [])] [(1, .ptr (some (h.size, 0))), (3, .str (x1 ++ x4)), (4, .int .i64 (IntKind.i64.wrap (x2 + (1 : Int))))] H (noU_all rfl) (fun fr => by kernel_rfl) ?_
      intro fr H
      refine at_nil ?_
      exact Exists.intro (x1 ++ x4, IntKind.i64.wrap (x2 + (1 : Int))) (And.intro (Option.some.inj hm).symm ⟨x1 ++ x4, IntKind.i64.wrap (x2 + (1 : Int)), rfl, H.less _ (fun fr => by kernel_rfl), A⟩)
    · replace H := H.know 9 hb (by kernel_rfl)
      refine aw_false (x := .tmp 9) (by kernel_rfl) H (fun fr => by kernel_rfl) ?_
      refine aw_exit (i := 0) (by kernel_rfl) ?_
      exact Exists.intro _ (And.intro (Option.some.inj hm).symm (fun e => Or.inl ⟨x1, rfl, e, H.less _ (fun fr => by kernel_rfl), A⟩))
  · clear ho
    clear A
    intro e fr h3 hQ
    rcases hQ with ⟨x3, rfl, rfl, H, A⟩ | hF
    · skip
      show AW cfg 13 g (right (right (right (bodyC cfg.P 13)))) fr h3 _
      refine aw_seq (by kernel_rfl) ?_
      refine aw_reg (id := 6) (n := 2) [(0, []), (1, [])] (by kernel_rfl) (by kernel_rfl) ?_
      refine at_seg [(0, []), (1, [])] [(2, .str x3)] H (noU_all rfl) (fun fr => by kernel_rfl) ?_
      intro fr H
      refine at_nil ?_
      show AW cfg 13 g (right (right (right (right (bodyC cfg.P 13))))) fr h3 _
      refine aw_ret (by kernel_rfl) ?_
      have e1 := Option.some.inj hm
      subst e1
      refine ⟨.inl rfl, .str x3, resH H (fun fr => by kernel_rfl), ?_⟩
      replace A : HH g h3 [] F := (HH.dropF A 0)
      exact ⟨rfl, A⟩
    · exact hF.elim
/-! ### boulter/boulterref08.Drop -/
noncomputable def M_boulterref08_Drop_L0 (p0 : S_boulterref08_State) (s : (List (List UInt8)) × Int × Int) : Option (((List (List UInt8)) × Int × Int) ⊕ (((List (List UInt8))))) :=
  match s with
  | (x1, x2, x3) => iteB (decide (x3 < (p0.L.length : Int))) (((ixV p0.L x3).bind fun x7 => (ixV p0.L x3).bind fun x8 => iteB (decide ((mn x2 (x7.length : Int)) < (x8.length : Int))) ((ixV p0.L x3).bind fun x9 => (subS x9 (some (mn x2 (x7.length : Int))) none).bind fun x10 => need (okN 16 (x1.length + ([x10] : List (List UInt8)).length)) <| some ((x1 ++ ([x10] : List (List UInt8))), IntKind.i64.wrap (x2 - (mn x2 (x7.length : Int))))) (some (x1, IntKind.i64.wrap (x2 - (mn x2 (x7.length : Int))))) : Option (((List (List UInt8)) × Int))).bind fun (x5, x6) => some (.inl (x5, x6, IntKind.i64.wrap (x3 + (1 : Int))))) (some (.inr x1))
noncomputable def M_boulterref08_Drop (p0 : S_boulterref08_State) (p1 : Int) : Option (S_boulterref08_State) :=
 (loop (M_boulterref08_Drop_L0 p0) (([] : List (List UInt8)), p1, (0 : Int))).bind fun x4 => some (⟨x4, p0.Closed⟩ : S_boulterref08_State)
theorem ok_boulterref08_Drop {g : Gd} {h : AHeap} {F : List Ck} {p0 : S_boulterref08_State} {p1 : Int} {q0 : S_boulterref08_State} {av : List AVal} (hm : M_boulterref08_Drop p0 p1 = some q0) (hc : canL (cfg.still 18) av = [.agg [vs eS p0.L, .bool p0.Closed], .int .i64 p1]) (A : HH g h [] F) : ∃ v h', Runs cfg g h 18 av v h' ∧ v = .agg [vs eS q0.L, .bool q0.Closed] ∧ HH g h' [] F := by
  refine runsQ7 (n := 49) (rs := [.cell 4 35]) (by kernel_rfl) hc (by kernel_rfl) ?_
  clear hc
  unfold M_boulterref08_Drop at hm
  refine start (n := 49) [(0, .agg [vs eS p0.L, .bool p0.Closed]), (1, .int .i64 p1)] (by kernel_rfl) (by kernel_rfl) ?_
  intro fr H
  refine aw_seq (by kernel_rfl) ?_
  refine aw_reg (id := 0) (n := 2) [(0, []), (1, [])] (by kernel_rfl) (by kernel_rfl) ?_
  obtain ⟨h1, e1⟩ : ∃ x, x = h.push (.cells none 2 [vs eS p0.L, .bool p0.Closed]) := ⟨_, rfl⟩
  replace A := (A.push _).to e1
  refine at_step (v := .ptr (some (h.size, 0))) (h1 := h1) [(1, .int .i64 p1), (2, .ptr (some (h.size, 0)))] H (fun fr => by kernel_rfl) (fun fr => .of (s_n' (by kernel_rfl) (congrArg some e1.symm))) ?_
  intro fr t H
  obtain ⟨h2, e2⟩ : ∃ x, x = h1.push (.cells none 2 [.slice none 0, .bool false]) := ⟨_, rfl⟩
  replace A := (A.push _).to e2
  refine at_step (v := .ptr (some (h1.size, 0))) (h1 := h2) [(1, .int .i64 p1), (2, .ptr (some (h.size, 0))), (4, .ptr (some (h1.size, 0)))] H (fun fr => by kernel_rfl) (fun fr => .of (s_n' (by kernel_rfl) (congrArg some e2.symm))) ?_
  intro fr t H
  refine at_nil ?_
  show AW cfg 18 g (right (bodyC cfg.P 18)) fr h2 _
  refine aw_seq (by kernel_rfl) ?_
  refine aw_reg (id := 1) (n := 2) [(0, []), (1, [])] (by kernel_rfl) (by kernel_rfl) ?_
  obtain ⟨h3, e3⟩ : ∃ x, x = h2.push (.cells (some 9) 2 []) := ⟨_, rfl⟩
  replace A := (A.pushL _ _).to e3
  refine at_step (v := rowV (some h2.size) (([] : List (List UInt8)).length)) (h1 := h3) [(1, .int .i64 p1), (2, .ptr (some (h.size, 0))), (4, .ptr (some (h1.size, 0))), (8, rowV (some h2.size) (([] : List (List UInt8)).length))] H (fun fr => by kernel_rfl) (fun fr => .of (s_n' (by kernel_rfl) (congrArg some e3.symm))) ?_
  intro fr t H
  refine at_seg [(1, [])] [(1, .int .i64 p1), (2, .ptr (some (h.size, 0))), (4, .ptr (some (h1.size, 0))), (5, rowV (some h2.size) (([] : List (List UInt8)).length))] H (noU_all rfl) (fun fr => by kernel_rfl) ?_
  intro fr H
  refine at_nil ?_
  show AW cfg 18 g (right (right (bodyC cfg.P 18))) fr h3 _
  refine aw_seq (by kernel_rfl) ?_
  refine aw_seq (by kernel_rfl) ?_
  refine aw_reg (id := 2) (n := 1) [(0, [])] (by kernel_rfl) (by kernel_rfl) ?_
  refine at_seg [(0, [])] [(1, .int .i64 p1), (2, .ptr (some (h.size, 0))), (4, .ptr (some (h1.size, 0))), (5, rowV (some h2.size) (([] : List (List UInt8)).length)), (6, .int .i64 (0 : Int))] H (noU_all rfl) (fun fr => by kernel_rfl) ?_
  intro fr H
  refine at_nil ?_
  show AW cfg 18 g (right (left (right (right (bodyC cfg.P 18))))) fr h3 _
  refine aw_block (id := 0) (by kernel_rfl) ?_
  replace A : HH g h3 [.lst (some h2.size) 9 (lst eS ([] : List (List UInt8))), .obj h1.size (.cells none 2 [.slice none 0, .bool false]), .obj h.size (.cells none 2 [vs eS p0.L, .bool p0.Closed])] F := A
  obtain ⟨o1, ho, hm⟩ := bind_some hm
  refine aw_mono (Q' := fun e fr' h' => (∃ (x4 : List (List UInt8)), e = .exit 0 ∧ x4 = o1 ∧ ∃ (r2 : Option Nat), Has fr' 49 [(2, .ptr (some (h.size, 0))), (4, .ptr (some (h1.size, 0))), (5, rowV r2 x4.length)] ∧ HH g h' [.lst r2 9 (lst eS x4), .obj h1.size (.cells none 2 [.slice none 0, .bool false]), .obj h.size (.cells none 2 [vs eS p0.L, .bool p0.Closed])] F) ∨ False) ?_ ?_
  · refine aw_loop (by kernel_rfl) (fun (s : (List (List UInt8)) × Int × Int) fr' h' => ∃ (x1 : List (List UInt8)) (x2 : Int) (x3 : Int), (x1, x2, x3) = s ∧ ∃ (r1 : Option Nat), Has fr' 49 [(1, .int .i64 x2), (2, .ptr (some (h.size, 0))), (4, .ptr (some (h1.size, 0))), (5, rowV r1 x1.length), (6, .int .i64 x3)] ∧ HH g h' [.lst r1 9 (lst eS x1), .obj h1.size (.cells none 2 [.slice none 0, .bool false]), .obj h.size (.cells none 2 [vs eS p0.L, .bool p0.Closed])] F) ho ⟨([] : List (List UInt8)), p1, (0 : Int), rfl, some h2.size, H.less _ (fun fr => by kernel_rfl), A⟩ ?_
    clear ho hm H A
    intro s q fr h4 hI hm
    obtain ⟨x1, x2, x3, rfl, r1, H, A⟩ := hI
    unfold M_boulterref08_Drop_L0 at hm
    refine aw_seq (by kernel_rfl) ?_
    refine aw_seq (by kernel_rfl) ?_
    refine aw_reg (id := 3) (n := 5) [(0, []), (1, []), (2, []), (3, []), (4, [])] (by kernel_rfl) (by kernel_rfl) ?_
    refine at_seg [(0, []), (1, [])] [(1, .int .i64 x2), (2, .ptr (some (h.size, 0))), (4, .ptr (some (h1.size, 0))), (5, rowV r1 x1.length), (6, .int .i64 x3), (9, .int .i64 x3), (10, .ptr (some (h.size, 0)))] H (noU_all rfl) (fun fr => by kernel_rfl) ?_
    intro fr H
    refine at_step (v := vs eS p0.L) (h1 := h4) [(1, .int .i64 x2), (2, .ptr (some (h.size, 0))), (4, .ptr (some (h1.size, 0))), (5, rowV r1 x1.length), (6, .int .i64 x3), (9, .int .i64 x3), (11, vs eS p0.L)] H (fun fr => by kernel_rfl) (fun fr => .of (s_ld (by kernel_rfl) (A.ld1 2 rfl (o := 0) rfl))) ?_
    intro fr t H
    refine at_seg [(3, []), (4, [])] [(1, .int .i64 x2), (2, .ptr (some (h.size, 0))), (4, .ptr (some (h1.size, 0))), (5, rowV r1 x1.length), (6, .int .i64 x3), (13, .bool (decide (x3 < (p0.L.length : Int))))] H (noU_all rfl) (fun fr => by kernel_rfl) ?_
    intro fr H
    refine at_nil ?_
    show AW cfg 18 g (right (left (left (left (right (left (right (right (bodyC cfg.P 18))))))))) fr h4 _
    rcases iteB_some hm with ⟨hb, hm⟩ | ⟨hb, hm⟩
    · replace H := H.know 13 hb (by kernel_rfl)
      refine aw_true (x := .tmp 13) (by kernel_rfl) H (fun fr => by kernel_rfl) ?_
      refine aw_skip (by kernel_rfl) ?_
      show AW cfg 18 g (right (left (left (right (left (right (right (bodyC cfg.P 18)))))))) fr h4 _
      refine aw_seq (by kernel_rfl) ?_
      obtain ⟨o2, ho, hm⟩ := bind_some hm
      refine aw_mono (Q' := fun e fr' h' => (∃ (x5 : List (List UInt8)) (x6 : Int), e = .normal ∧ (x5, x6) = o2 ∧ ∃ (r3 : Option Nat), Has fr' 49 [(1, .int .i64 x6), (2, .ptr (some (h.size, 0))), (4, .ptr (some (h1.size, 0))), (5, rowV r3 x5.length), (6, .int .i64 x3)] ∧ HH g h' [.lst r3 9 (lst eS x5), .obj h1.size (.cells none 2 [.slice none 0, .bool false]), .obj h.size (.cells none 2 [vs eS p0.L, .bool p0.Closed])] F) ∨ False) ?_ ?_
      · replace hm := ho
        clear ho
        refine aw_block (id := 1) (by kernel_rfl) ?_
        refine aw_seq (by kernel_rfl) ?_
        refine aw_reg (id := 5) (n := 9) [(0, []), (1, []), (2, []), (3, []), (4, []), (5, []), (6, []), (7, []), (8, [])] (by kernel_rfl) (by kernel_rfl) ?_
        refine at_seg [(0, []), (1, [])] [(1, .int .i64 x2), (2, .ptr (some (h.size, 0))), (4, .ptr (some (h1.size, 0))), (5, rowV r1 x1.length), (6, .int .i64 x3), (16, .int .i64 x2), (17, .ptr (some (h.size, 0)))] H (noU_all rfl) (fun fr => by kernel_rfl) ?_
        intro fr H
        refine at_step (v := vs eS p0.L) (h1 := h4) [(1, .int .i64 x2), (2, .ptr (some (h.size, 0))), (4, .ptr (some (h1.size, 0))), (5, rowV r1 x1.length), (6, .int .i64 x3), (16, .int .i64 x2), (18, vs eS p0.L)] H (fun fr => by kernel_rfl) (fun fr => .of (s_ld (by kernel_rfl) (A.ld1 2 rfl (o := 0) rfl))) ?_
        intro fr t H
        refine at_seg [(3, [])] [(1, .int .i64 x2), (2, .ptr (some (h.size, 0))), (4, .ptr (some (h1.size, 0))), (5, rowV r1 x1.length), (6, .int .i64 x3), (16, .int .i64 x2), (18, vs eS p0.L), (19, .int .i64 x3)] H (noU_all rfl) (fun fr => by kernel_rfl) ?_
        intro fr H
        obtain ⟨x7, hx, hm⟩ := bind_some hm
        refine at_step (v := .vptr [.str x7]) (h1 := h4) [(1, .int .i64 x2), (2, .ptr (some (h.size, 0))), (4, .ptr (some (h1.size, 0))), (5, rowV r1 x1.length), (6, .int .i64 x3), (16, .int .i64 x2), (20, .vptr [.str x7])] H (fun fr => by kernel_rfl) (fun fr => .of (s_ixV (e := eS) (x := x7) encS (by decide) (by kernel_rfl) hx)) ?_
        intro fr t H
        refine at_step (v := .str x7) (h1 := h4) [(1, .int .i64 x2), (2, .ptr (some (h.size, 0))), (4, .ptr (some (h1.size, 0))), (5, rowV r1 x1.length), (6, .int .i64 x3), (16, .int .i64 x2), (21, .str x7)] H (fun fr => by kernel_rfl) (fun fr => .of (s_lv (by kernel_rfl))) ?_
        intro fr t H
        refine at_seg [(6, []), (7, []), (8, [])] [(1, .int .i64 x2), (2, .ptr (some (h.size, 0))), (4, .ptr (some (h1.size, 0))), (5, rowV r1 x1.length), (6, .int .i64 x3), (7, .int .i64 (mn x2 (x7.length : Int)))] H (noU_all rfl) (fun fr => by kernel_rfl) ?_
        intro fr H
        refine at_nil ?_
        show AW cfg 18 g (right (left (left (right (left (left (right (left (right (right (bodyC cfg.P 18))))))))))) fr h4 _
        refine aw_seq (by kernel_rfl) ?_
        refine aw_reg (id := 6) (n := 4) [(0, []), (1, []), (2, []), (3, [])] (by kernel_rfl) (by kernel_rfl) ?_
        refine at_seg [(0, []), (1, []), (2, []), (3, [])] [(1, .int .i64 (IntKind.i64.wrap (x2 - (mn x2 (x7.length : Int))))), (2, .ptr (some (h.size, 0))), (4, .ptr (some (h1.size, 0))), (5, rowV r1 x1.length), (6, .int .i64 x3), (7, .int .i64 (mn x2 (x7.length : Int)))] H (noU_all rfl) (fun fr => by kernel_rfl) ?_
        intro fr H
        refine at_nil ?_
        show AW cfg 18 g (right (right (left (left (right (left (left (right (left (right (right (bodyC cfg.P 18)))))))))))) fr h4 _
        refine aw_seq (by kernel_rfl) ?_
        refine aw_reg (id := 7) (n := 8) [(0, []), (1, []), (2, []), (3, []), (4, []), (5, []), (6, []), (7, [])] (by kernel_rfl) (by kernel_rfl) ?_
        refine at_seg [(0, []), (1, [])] [(1, .int .i64 (IntKind.i64.wrap (x2 - (mn x2 (x7.length : Int))))), (2, .ptr (some (h.size, 0))), (4, .ptr (some (h1.size, 0))), (5, rowV r1 x1.length), (6, .int .i64 x3), (7, .int .i64 (mn x2 (x7.length : Int))), (27, .int .i64 (mn x2 (x7.length : Int))), (28, .ptr (some (h.size, 0)))] H (noU_all rfl) (fun fr => by kernel_rfl) ?_
        intro fr H
        refine at_step (v := vs eS p0.L) (h1 := h4) [(1, .int .i64 (IntKind.i64.wrap (x2 - (mn x2 (x7.length : Int))))), (2, .ptr (some (h.size, 0))), (4, .ptr (some (h1.size, 0))), (5, rowV r1 x1.length), (6, .int .i64 x3), (7, .int .i64 (mn x2 (x7.length : Int))), (27, .int .i64 (mn x2 (x7.length : Int))), (29, vs eS p0.L)] H (fun fr => by kernel_rfl) (fun fr => .of (s_ld (by kernel_rfl) (A.ld1 2 rfl (o := 0) rfl))) ?_
        intro fr t H
        refine at_seg [(3, [])] [(1, .int .i64 (IntKind.i64.wrap (x2 - (mn x2 (x7.length : Int))))), (2, .ptr (some (h.size, 0))), (4, .ptr (some (h1.size, 0))), (5, rowV r1 x1.length), (6, .int .i64 x3), (7, .int .i64 (mn x2 (x7.length : Int))), (27, .int .i64 (mn x2 (x7.length : Int))), (29, vs eS p0.L), (30, .int .i64 x3)] H (noU_all rfl) (fun fr => by kernel_rfl) ?_
        intro fr H
        obtain ⟨x8, hx, hm⟩ := bind_some hm
        refine at_step (v := .vptr [.str x8]) (h1 := h4) [(1, .int .i64 (IntKind.i64.wrap (x2 - (mn x2 (x7.length : Int))))), (2, .ptr (some (h.size, 0))), (4, .ptr (some (h1.size, 0))), (5, rowV r1 x1.length), (6, .int .i64 x3), (7, .int .i64 (mn x2 (x7.length : Int))), (27, .int .i64 (mn x2 (x7.length : Int))), (31, .vptr [.str x8])] H (fun fr => by kernel_rfl) (fun fr => .of (s_ixV (e := eS) (x := x8) encS (by decide) (by kernel_rfl) hx)) ?_
        intro fr t H
        refine at_step (v := .str x8) (h1 := h4) [(1, .int .i64 (IntKind.i64.wrap (x2 - (mn x2 (x7.length : Int))))), (2, .ptr (some (h.size, 0))), (4, .ptr (some (h1.size, 0))), (5, rowV r1 x1.length), (6, .int .i64 x3), (7, .int .i64 (mn x2 (x7.length : Int))), (27, .int .i64 (mn x2 (x7.length : Int))), (32, .str x8)] H (fun fr => by kernel_rfl) (fun fr => .of (s_lv (by kernel_rfl))) ?_
        intro fr t H
        refine at_seg [(6, []), (7, [])] [(1, .int .i64 (IntKind.i64.wrap (x2 - (mn x2 (x7.length : Int))))), (2, .ptr (some (h.size, 0))), (4, .ptr (some (h1.size, 0))), (5, rowV r1 x1.length), (6, .int .i64 x3), (7, .int .i64 (mn x2 (x7.length : Int))), (34, .bool (decide ((mn x2 (x7.length : Int)) < (x8.length : Int))))] H (noU_all rfl) (fun fr => by kernel_rfl) ?_
        intro fr H
        refine at_nil ?_
        show AW cfg 18 g (right (right (right (left (left (right (left (left (right (left (right (right (bodyC cfg.P 18))))))))))))) fr h4 _
        rcases iteB_some hm with ⟨hb, hm⟩ | ⟨hb, hm⟩
        · replace H := H.know 34 hb (by kernel_rfl)
          refine aw_true (x := .tmp 34) (by kernel_rfl) H (fun fr => by kernel_rfl) ?_
          refine aw_reg (id := 8) (n := 11) [(0, []), (1, []), (2, []), (3, []), (4, []), (5, []), (6, []), (7, []), (8, []), (9, []), (10, [])] (by kernel_rfl) (by kernel_rfl) ?_
          refine at_seg [(0, []), (1, [])] [(1, .int .i64 (IntKind.i64.wrap (x2 - (mn x2 (x7.length : Int))))), (2, .ptr (some (h.size, 0))), (4, .ptr (some (h1.size, 0))), (6, .int .i64 x3), (7, .int .i64 (mn x2 (x7.length : Int))), (35, rowV r1 x1.length), (36, .ptr (some (h.size, 0)))] H (noU_all rfl) (fun fr => by kernel_rfl) ?_
          intro fr H
          refine at_step (v := vs eS p0.L) (h1 := h4) [(1, .int .i64 (IntKind.i64.wrap (x2 - (mn x2 (x7.length : Int))))), (2, .ptr (some (h.size, 0))), (4, .ptr (some (h1.size, 0))), (6, .int .i64 x3), (7, .int .i64 (mn x2 (x7.length : Int))), (35, rowV r1 x1.length), (37, vs eS p0.L)] H (fun fr => by kernel_rfl) (fun fr => .of (s_ld (by kernel_rfl) (A.ld1 2 rfl (o := 0) rfl))) ?_
          intro fr t H
          refine at_seg [(3, [])] [(1, .int .i64 (IntKind.i64.wrap (x2 - (mn x2 (x7.length : Int))))), (2, .ptr (some (h.size, 0))), (4, .ptr (some (h1.size, 0))), (6, .int .i64 x3), (7, .int .i64 (mn x2 (x7.length : Int))), (35, rowV r1 x1.length), (37, vs eS p0.L), (38, .int .i64 x3)] H (noU_all rfl) (fun fr => by kernel_rfl) ?_
          intro fr H
          obtain ⟨x9, hx, hm⟩ := bind_some hm
          refine at_step (v := .vptr [.str x9]) (h1 := h4) [(1, .int .i64 (IntKind.i64.wrap (x2 - (mn x2 (x7.length : Int))))), (2, .ptr (some (h.size, 0))), (4, .ptr (some (h1.size, 0))), (6, .int .i64 x3), (7, .int .i64 (mn x2 (x7.length : Int))), (35, rowV r1 x1.length), (39, .vptr [.str x9])] H (fun fr => by kernel_rfl) (fun fr => .of (s_ixV (e := eS) (x := x9) encS (by decide) (by kernel_rfl) hx)) ?_
          intro fr t H
          refine at_step (v := .str x9) (h1 := h4) [(1, .int .i64 (IntKind.i64.wrap (x2 - (mn x2 (x7.length : Int))))), (2, .ptr (some (h.size, 0))), (4, .ptr (some (h1.size, 0))), (6, .int .i64 x3), (7, .int .i64 (mn x2 (x7.length : Int))), (35, rowV r1 x1.length), (40, .str x9)] H (fun fr => by kernel_rfl) (fun fr => .of (s_lv (by kernel_rfl))) ?_
          intro fr t H
          refine at_seg [(6, [])] [(1, .int .i64 (IntKind.i64.wrap (x2 - (mn x2 (x7.length : Int))))), (2, .ptr (some (h.size, 0))), (4, .ptr (some (h1.size, 0))), (6, .int .i64 x3), (35, rowV r1 x1.length), (40, .str x9), (41, .int .i64 (mn x2 (x7.length : Int)))] H (noU_all rfl) (fun fr => by kernel_rfl) ?_
          intro fr H
          obtain ⟨x10, hx, hm⟩ := bind_some hm
          refine at_step (v := .str x10) (h1 := h4) [(1, .int .i64 (IntKind.i64.wrap (x2 - (mn x2 (x7.length : Int))))), (2, .ptr (some (h.size, 0))), (4, .ptr (some (h1.size, 0))), (6, .int .i64 x3), (35, rowV r1 x1.length), (42, .str x10)] H (fun fr => by kernel_rfl) (fun fr => .of (s_subS (k := .i64) (k' := .i64) (lo := (some (mn x2 (x7.length : Int)))) (hi := none) (by kernel_rfl) hx)) ?_
          intro fr t H
          obtain ⟨h5, e4⟩ : ∃ x, x = h4.push (.cells (some 9) 2 [.str x10]) := ⟨_, rfl⟩
          replace A := (A.pushL _ _).to e4
          refine at_step (v := rowV (some h4.size) (([x10] : List (List UInt8)).length)) (h1 := h5) [(1, .int .i64 (IntKind.i64.wrap (x2 - (mn x2 (x7.length : Int))))), (2, .ptr (some (h.size, 0))), (4, .ptr (some (h1.size, 0))), (6, .int .i64 x3), (35, rowV r1 x1.length), (43, rowV (some h4.size) (([x10] : List (List UInt8)).length))] H (fun fr => by kernel_rfl) (fun fr => .of (s_n' (by kernel_rfl) (congrArg some e4.symm))) ?_
          intro fr t H
          obtain ⟨hb, hm⟩ := need_some hm
          obtain ⟨r4, h6, hx, A1⟩ := HH.appO encS (by decide) A 1 (xs := x1) (ys := ([x10] : List (List UInt8))) rfl (row_first A 0 rfl (n := ([x10] : List (List UInt8)).length) (z := 1) rfl (by decide)) rfl rfl hb
          replace A : HH g h6 [.lst (some h4.size) 9 ([.str x10]), .lst r4 9 (lst eS (x1 ++ ([x10] : List (List UInt8)))), .obj h1.size (.cells none 2 [.slice none 0, .bool false]), .obj h.size (.cells none 2 [vs eS p0.L, .bool p0.Closed])] F := A1
          replace A : HH g h6 [.lst r4 9 (lst eS (x1 ++ ([x10] : List (List UInt8)))), .obj h1.size (.cells none 2 [.slice none 0, .bool false]), .obj h.size (.cells none 2 [vs eS p0.L, .bool p0.Closed])] F := (HH.dropF (((A.front 3 rfl).front 3 rfl).front 3 rfl) 3)
          refine at_step (v := rowV r4 ((x1 ++ ([x10] : List (List UInt8))).length)) (h1 := h6) [(1, .int .i64 (IntKind.i64.wrap (x2 - (mn x2 (x7.length : Int))))), (2, .ptr (some (h.size, 0))), (4, .ptr (some (h1.size, 0))), (6, .int .i64 x3), (44, rowV r4 ((x1 ++ ([x10] : List (List UInt8))).length))] H (fun fr => by kernel_rfl) (fun fr => .of (s_app (s := rowS r1 x1.length) (by kernel_rfl) hx)) ?_
          intro fr t H
          refine at_seg [(10, [])] [(1, .int .i64 (IntKind.i64.wrap (x2 - (mn x2 (x7.length : Int))))), (2, .ptr (some (h.size, 0))), (4, .ptr (some (h1.size, 0))), (5, rowV r4 ((x1 ++ ([x10] : List (List UInt8))).length)), (6, .int .i64 x3)] H (noU_all rfl) (fun fr => by kernel_rfl) ?_
          intro fr H
          refine at_nil ?_
          exact Or.inl ⟨(x1 ++ ([x10] : List (List UInt8))), IntKind.i64.wrap (x2 - (mn x2 (x7.length : Int))), rfl, Option.some.inj hm, r4, H.less _ (fun fr => by kernel_rfl), A⟩
        · replace H := H.know 34 hb (by kernel_rfl)
          refine aw_false (x := .tmp 34) (by kernel_rfl) H (fun fr => by kernel_rfl) ?_
          refine aw_skip (by kernel_rfl) ?_
          exact Or.inl ⟨x1, IntKind.i64.wrap (x2 - (mn x2 (x7.length : Int))), rfl, Option.some.inj hm, r1, H.less _ (fun fr => by kernel_rfl), A⟩
      · clear ho
        clear A
        intro e fr h7 hQ
        rcases hQ with ⟨x5, x6, rfl, rfl, r3, H, A⟩ | hF
        · skip
          show AW cfg 18 g (right (right (left (left (right (left (right (right (bodyC cfg.P 18))))))))) fr h7 _
          refine aw_reg (id := 4) (n := 3) [(0, []), (1, []), (2, [])] (by kernel_rfl) (by kernel_rfl) ?_
          refine at_seg [(0, []), (1, []), (2, [])] [(1, .int .i64 x6), (2, .ptr (some (h.size, 0))), (4, .ptr (some (h1.size, 0))), (5, rowV r3 x5.length), (6, .int .i64 (IntKind.i64.wrap (x3 + (1 : Int))))] H (noU_all rfl) (fun fr => by kernel_rfl) ?_
          intro fr H
          refine at_nil ?_
          exact Exists.intro (x5, x6, IntKind.i64.wrap (x3 + (1 : Int))) (And.intro (Option.some.inj hm).symm ⟨x5, x6, IntKind.i64.wrap (x3 + (1 : Int)), rfl, r3, H.less _ (fun fr => by kernel_rfl), A⟩)
        · exact hF.elim
    · replace H := H.know 13 hb (by kernel_rfl)
      refine aw_false (x := .tmp 13) (by kernel_rfl) H (fun fr => by kernel_rfl) ?_
      refine aw_exit (i := 0) (by kernel_rfl) ?_
      exact Exists.intro _ (And.intro (Option.some.inj hm).symm (fun e => Or.inl ⟨x1, rfl, e, r1, H.less _ (fun fr => by kernel_rfl), A⟩))
  · clear ho
    clear A
    intro e fr h8 hQ
    rcases hQ with ⟨x4, rfl, rfl, r2, H, A⟩ | hF
    · skip
      show AW cfg 18 g (right (right (right (bodyC cfg.P 18)))) fr h8 _
      refine aw_seq (by kernel_rfl) ?_
      refine aw_reg (id := 9) (n := 5) [(0, []), (1, []), (2, []), (3, []), (4, [])] (by kernel_rfl) (by kernel_rfl) ?_
      refine at_seg [(0, []), (1, [])] [(4, .ptr (some (h1.size, 0))), (45, rowV r2 x4.length), (46, .ptr (some (h.size, 1)))] H (noU_all rfl) (fun fr => by kernel_rfl) ?_
      intro fr H
      refine at_step (v := .bool p0.Closed) (h1 := h8) [(4, .ptr (some (h1.size, 0))), (45, rowV r2 x4.length), (47, .bool p0.Closed)] H (fun fr => by kernel_rfl) (fun fr => .of (s_ld (by kernel_rfl) (A.ld1 2 rfl (o := 1) rfl))) ?_
      intro fr t H
      refine at_seg [(3, [])] [(4, .ptr (some (h1.size, 0))), (48, .agg [rowV r2 x4.length, .bool p0.Closed])] H (noU_all rfl) (fun fr => by kernel_rfl) ?_
      intro fr H
      obtain ⟨h9, hx, A1⟩ := A.st 1 rfl (o := 0) (new := [rowV r2 x4.length, .bool p0.Closed]) (ds := [rowV r2 x4.length, .bool p0.Closed]) (Nat.le_of_ble_eq_true rfl) rfl rfl
      replace A : HH g h9 [.lst r2 9 (lst eS x4), .obj h1.size (.cells none 2 [rowV r2 x4.length, .bool p0.Closed]), .obj h.size (.cells none 2 [vs eS p0.L, .bool p0.Closed])] F := A1
      refine at_step (v := .tuple []) (h1 := h9) [(4, .ptr (some (h1.size, 0)))] H (fun fr => by kernel_rfl) (fun fr => .of (s_stG (by kernel_rfl) (stG_st hx rfl))) ?_
      intro fr t H
      refine at_nil ?_
      show AW cfg 18 g (right (right (right (right (bodyC cfg.P 18))))) fr h9 _
      refine aw_ret (by kernel_rfl) ?_
      have e1 := Option.some.inj hm
      subst e1
      refine ⟨.inl rfl, .agg [rowV r2 x4.length, .bool p0.Closed], resL_one (.cell (resT H (fun fr => by kernel_rfl)) (load_ldA (by kernel_rfl) (by kernel_rfl) (A.ldA 1 rfl (o := 0) (n := 2) ⟨Nat.le_of_ble_eq_true rfl, rfl⟩)) .nil), ?_⟩
      obtain ⟨h10, hz0, A1⟩ := (A.front 0 rfl).frz (n := x4.length) (z := 1) (encS.lenL _) (by decide)
      replace A : HH g h10 [.obj h1.size (.cells none 2 [rowV r2 x4.length, .bool p0.Closed]), .obj h.size (.cells none 2 [vs eS p0.L, .bool p0.Closed])] F := A1
      refine ⟨.agg [vs eS x4, .bool p0.Closed], h10, by first | rfl | (simp only [fz3T, fz3A, fz3B, fz3R, fz2A, fz2R, fz2V, fz2I, fz2B, fz2S, fz2N, fzL0, fzL1, fz1I, fz1B, fz1S, fz1V, fz1N, Option.map_some, hz0] <;> rfl), ?_⟩
      replace A : HH g h10 [] F := (HH.dropF A 0)
      exact ⟨rfl, A⟩
    · exact hF.elim
/-! ### (*boulter/feed.Feed).Closed -/
noncomputable def M_feed_Feed_Closed_sPCH (p0 : S_feed_Feed) : Option (Bool) :=
 some p0.closed_
theorem ok_feed_Feed_Closed_sPCH {g : Gd} {h : AHeap} {F : List Ck} {p0 : S_feed_Feed} {bp0 : Nat} {bp0_0 : Nat} {q0 : Bool} {av : List AVal} (hm : M_feed_Feed_Closed_sPCH p0 = some q0) (hc : canL (cfg.still 14) av = [.ptr (some (bp0, 0))]) (A : HH g h [.obj bp0 (.cells none 2 [.chan (some bp0_0), .str p0.now_, .int .i64 p0.size_, .bool p0.closed_]), .obj bp0_0 (.chan 64 (lst eS p0.wait_))] F) : ∃ v h', Runs cfg g h 14 av v h' ∧ v = .bool q0 ∧ HH g h' [.obj bp0 (.cells none 2 [.chan (some bp0_0), .str p0.now_, .int .i64 p0.size_, .bool p0.closed_]), .obj bp0_0 (.chan 64 (lst eS p0.wait_))] F := by
  refine runsQ1 (n := 7) (rs := [.tmp 2]) (by kernel_rfl) hc (by kernel_rfl) ?_
  clear hc
  unfold M_feed_Feed_Closed_sPCH at hm
  refine start (n := 7) [(0, .ptr (some (bp0, 0)))] (by kernel_rfl) (by kernel_rfl) ?_
  intro fr H
  refine aw_seq (by kernel_rfl) ?_
  refine aw_reg (id := 0) (n := 1) [(0, [])] (by kernel_rfl) (by kernel_rfl) ?_
  refine at_seg [(0, [])] [(0, .ptr (some (bp0, 0)))] H (noU_all rfl) (fun fr => by kernel_rfl) ?_
  intro fr H
  refine at_nil ?_
  show AW cfg 14 g (right (bodyC cfg.P 14)) fr h _
  refine aw_seq (by kernel_rfl) ?_
  refine aw_reg (id := 1) (n := 5) [(0, []), (1, []), (2, []), (3, []), (4, [])] (by kernel_rfl) (by kernel_rfl) ?_
  refine at_seg [(0, []), (1, []), (2, [])] [(5, .ptr (some (bp0, 3)))] H (noU_all rfl) (fun fr => by kernel_rfl) ?_
  intro fr H
  refine at_step (v := .bool p0.closed_) (h1 := h) [(6, .bool p0.closed_)] H (fun fr => by kernel_rfl) (fun fr => .of (s_ld (by kernel_rfl) (A.ld1 0 rfl (o := 3) rfl))) ?_
  intro fr t H
  refine at_seg [(4, [])] [(2, .bool p0.closed_)] H (noU_all rfl) (fun fr => by kernel_rfl) ?_
  intro fr H
  refine at_nil ?_
  show AW cfg 14 g (right (right (bodyC cfg.P 14))) fr h _
  refine aw_ret (by kernel_rfl) ?_
  have e1 := Option.some.inj hm
  subst e1
  refine ⟨.inl rfl, .bool p0.closed_, resH H (fun fr => by kernel_rfl), ?_⟩
  exact ⟨rfl, A⟩
end Go.Av.L
