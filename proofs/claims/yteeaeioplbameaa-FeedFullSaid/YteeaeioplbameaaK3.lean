/-
  Models of functions, and that the abstract run tells them. Written by lift2.py.
-/
import Derived.Test.YteeaeioplbameaaKCfg
import Derived.Test.YteeaeioplbameaaK0
import Derived.Test.YteeaeioplbameaaK1
import Derived.Test.YteeaeioplbameaaK2
namespace Go.Av.L
open Go.Av Go.Lib
set_option maxRecDepth 10000
set_option linter.unusedVariables false
set_option linter.unusedSimpArgs false
/-! ### boulter/boulterlaw08.FeedPlays -/
noncomputable def M_boulterlaw08_FeedPlays_L0 (p0 : List S_boulterlaw08_Op) (s : (Bool × (List UInt8) × Int × Bool × (List (List UInt8)) × Int) ⊕ ((List (List UInt8)) × Bool × (List UInt8) × Int × Bool × (List (List UInt8)) × Int)) : Option (((Bool × (List UInt8) × Int × Bool × (List (List UInt8)) × Int) ⊕ ((List (List UInt8)) × Bool × (List UInt8) × Int × Bool × (List (List UInt8)) × Int)) ⊕ ((Bool × (List UInt8) × Int × Bool × (List (List UInt8))) ⊕ ((List (List UInt8)) × Bool × (List UInt8) × Int × Bool × (List (List UInt8))) ⊕ (Bool × (List UInt8) × Int × Bool × (List (List UInt8)) × Bool) ⊕ ((List (List UInt8)) × Bool × (List UInt8) × Int × Bool × (List (List UInt8)) × Bool))) :=
  match s with
  | .inl (x2, x3, x4, x5, x6, x7) => iteB ((decide (x7 < (p0.length : Int))) && (decide (x7 < (100 : Int)))) ((ixV p0 x7).bind fun x39 => iteB (decide ((x39.S.length : Int) > (200 : Int))) ((M_boulterlaw08_awake).bind fun x40 => some (.inr (.inr (.inr (.inl (x2, x3, x4, x5, x6, x40)))))) ((ixV p0 x7).bind fun x41 => (M_boulterlaw08_one_sPCHRR (⟨x6, x3, x4, x5⟩ : S_feed_Feed) (⟨([] : List (List UInt8)), x2⟩ : S_boulterref08_State) x41).bind fun (x42, x43, x44, x45) => iteB (!x43) (some (.inr (.inr (.inr (.inr (x42.L, x42.Closed, x44.now_, x44.size_, x44.closed_, x45, false)))))) ((M_feed_Feed_Len_sPCH (⟨x45, x44.now_, x44.size_, x44.closed_⟩ : S_feed_Feed)).bind fun x46 => (M_boulterref08_All x42).bind fun x47 => iteB (x46 != (x47.length : Int)) (some (.inr (.inr (.inr (.inr (x42.L, x42.Closed, x44.now_, x44.size_, x44.closed_, x45, false)))))) ((M_feed_Feed_Chunks_sPCH (⟨x45, x44.now_, x44.size_, x44.closed_⟩ : S_feed_Feed)).bind fun x48 => (iteB (x48 != (x42.L.length : Int)) (some true) ((M_feed_Feed_Closed_sPCH (⟨x45, x44.now_, x44.size_, x44.closed_⟩ : S_feed_Feed)).bind fun x50 => some (!(x50 == x42.Closed))) : Option (Bool)).bind fun x49 => iteB x49 (some (.inr (.inr (.inr (.inr (x42.L, x42.Closed, x44.now_, x44.size_, x44.closed_, x45, false)))))) (some (.inl (.inr (x42.L, x42.Closed, x44.now_, x44.size_, x44.closed_, x45, IntKind.i64.wrap (x7 + (1 : Int)))))))))) (some (.inr (.inl (x2, x3, x4, x5, x6))))
  | .inr (x8, x9, x10, x11, x12, x13, x14) => iteB ((decide (x14 < (p0.length : Int))) && (decide (x14 < (100 : Int)))) ((ixV p0 x14).bind fun x51 => iteB (decide ((x51.S.length : Int) > (200 : Int))) ((M_boulterlaw08_awake).bind fun x52 => some (.inr (.inr (.inr (.inr (x8, x9, x10, x11, x12, x13, x52)))))) ((ixV p0 x14).bind fun x53 => (M_boulterlaw08_one_sPCHRR (⟨x13, x10, x11, x12⟩ : S_feed_Feed) (⟨x8, x9⟩ : S_boulterref08_State) x53).bind fun (x54, x55, x56, x57) => iteB (!x55) (some (.inr (.inr (.inr (.inr (x54.L, x54.Closed, x56.now_, x56.size_, x56.closed_, x57, false)))))) ((M_feed_Feed_Len_sPCH (⟨x57, x56.now_, x56.size_, x56.closed_⟩ : S_feed_Feed)).bind fun x58 => (M_boulterref08_All x54).bind fun x59 => iteB (x58 != (x59.length : Int)) (some (.inr (.inr (.inr (.inr (x54.L, x54.Closed, x56.now_, x56.size_, x56.closed_, x57, false)))))) ((M_feed_Feed_Chunks_sPCH (⟨x57, x56.now_, x56.size_, x56.closed_⟩ : S_feed_Feed)).bind fun x60 => (iteB (x60 != (x54.L.length : Int)) (some true) ((M_feed_Feed_Closed_sPCH (⟨x57, x56.now_, x56.size_, x56.closed_⟩ : S_feed_Feed)).bind fun x62 => some (!(x62 == x54.Closed))) : Option (Bool)).bind fun x61 => iteB x61 (some (.inr (.inr (.inr (.inr (x54.L, x54.Closed, x56.now_, x56.size_, x56.closed_, x57, false)))))) (some (.inl (.inr (x54.L, x54.Closed, x56.now_, x56.size_, x56.closed_, x57, IntKind.i64.wrap (x14 + (1 : Int)))))))))) (some (.inr (.inr (.inl (x8, x9, x10, x11, x12, x13)))))
noncomputable def M_boulterlaw08_FeedPlays (p0 : List S_boulterlaw08_Op) : Option (Bool) :=
 (M_feed_New).bind fun x1w1 => (loop (M_boulterlaw08_FeedPlays_L0 p0) (.inl (false, x1w1.now_, x1w1.size_, x1w1.closed_, x1w1.wait_, (0 : Int)))).bind fun o1 => (match o1 with | .inl (x15, x16, x17, x18, x19) => (M_boulterlaw08_awake).bind fun x63 => some x63 | .inr (.inl (x20, x21, x22, x23, x24, x25)) => (M_boulterlaw08_awake).bind fun x64 => some x64 | .inr (.inr (.inl (x26, x27, x28, x29, x30, x31))) => some x31 | .inr (.inr (.inr (x32, x33, x34, x35, x36, x37, x38))) => some x38)
theorem ok_boulterlaw08_FeedPlays {g : Gd} {h : AHeap} {F : List Ck} {p0 : List S_boulterlaw08_Op} {q0 : Bool} {av : List AVal} (hm : M_boulterlaw08_FeedPlays p0 = some q0) (hc : canL (cfg.still 5) av = [vs e_S_boulterlaw08_Op p0]) (A : HH g h [] F) : ∃ v h', Runs cfg g h 5 av v h' ∧ v = .bool q0 ∧ HH g h' [] F := by
  refine runsQ1 (n := 67) (rs := [.tmp 2]) (by kernel_rfl) hc (by kernel_rfl) ?_
  clear hc
  unfold M_boulterlaw08_FeedPlays at hm
  refine start (n := 67) [(0, vs e_S_boulterlaw08_Op p0)] (by kernel_rfl) (by kernel_rfl) ?_
  intro fr H
  refine aw_seq (by kernel_rfl) ?_
  refine aw_reg (id := 0) (n := 1) [(0, [])] (by kernel_rfl) (by kernel_rfl) ?_
  refine at_seg [(0, [])] [(0, vs e_S_boulterlaw08_Op p0)] H (noU_all rfl) (fun fr => by kernel_rfl) ?_
  intro fr H
  refine at_nil ?_
  show AW cfg 5 g (right (bodyC cfg.P 5)) fr h _
  refine aw_seq (by kernel_rfl) ?_
  refine aw_reg (id := 1) (n := 2) [(0, []), (1, [])] (by kernel_rfl) (by kernel_rfl) ?_
  have A1 := A.cut 0
  obtain ⟨x1w1, hx, hm⟩ := bind_some hm
  obtain ⟨v1, h1, hr, bx1w1, bx1w1_0, rfl, A1⟩ := ok_feed_New (av := []) hx (by kernel_rfl) A1
  replace A : HH g h1 [.obj bx1w1 (.cells none 2 [.chan (some bx1w1_0), .str x1w1.now_, .int .i64 x1w1.size_, .bool x1w1.closed_]), .obj bx1w1_0 (.chan 64 (lst eS x1w1.wait_))] F := A.glue0 (n := 0) A1
  refine at_step (v := .ptr (some (bx1w1, 0))) (h1 := h1) [(0, vs e_S_boulterlaw08_Op p0), (8, .ptr (some (bx1w1, 0)))] H (fun fr => by kernel_rfl) (fun fr => Steps.call (by kernel_rfl) hr) ?_
  intro fr t H
  refine at_seg [(1, [])] [(0, vs e_S_boulterlaw08_Op p0), (3, .ptr (some (bx1w1, 0)))] H (noU_all rfl) (fun fr => by kernel_rfl) ?_
  intro fr H
  refine at_nil ?_
  show AW cfg 5 g (right (right (bodyC cfg.P 5))) fr h1 _
  refine aw_seq (by kernel_rfl) ?_
  refine aw_seq (by kernel_rfl) ?_
  refine aw_reg (id := 2) (n := 2) [(0, []), (1, [])] (by kernel_rfl) (by kernel_rfl) ?_
  refine at_seg [(0, []), (1, [])] [(0, vs e_S_boulterlaw08_Op p0), (3, .ptr (some (bx1w1, 0))), (10, .bool false)] H (noU_all rfl) (fun fr => by kernel_rfl) ?_
  intro fr H
  refine at_nil ?_
  show AW cfg 5 g (right (left (right (right (bodyC cfg.P 5))))) fr h1 _
  refine aw_false (x := .tmp 10) (by kernel_rfl) H (fun fr => by kernel_rfl) ?_
  refine aw_skip (by kernel_rfl) ?_
  show AW cfg 5 g (right (right (right (bodyC cfg.P 5)))) fr h1 _
  refine aw_seq (by kernel_rfl) ?_
  refine aw_reg (id := 4) (n := 3) [(0, []), (1, []), (2, [])] (by kernel_rfl) (by kernel_rfl) ?_
  refine at_seg [(0, [])] [(0, vs e_S_boulterlaw08_Op p0), (3, .ptr (some (bx1w1, 0))), (11, .agg [.slice none 0, .bool false])] H (noU_all rfl) (fun fr => by kernel_rfl) ?_
  intro fr H
  obtain ⟨h2, e1⟩ : ∃ x, x = h1.push (.cells none 2 [.slice none 0, .bool false]) := ⟨_, rfl⟩
  replace A := (A.push _).to e1
  refine at_step (v := .ptr (some (h1.size, 0))) (h1 := h2) [(0, vs e_S_boulterlaw08_Op p0), (3, .ptr (some (bx1w1, 0))), (4, .ptr (some (h1.size, 0))), (11, .agg [.slice none 0, .bool false])] H (fun fr => by kernel_rfl) (fun fr => .of (s_n' (by kernel_rfl) (congrArg some e1.symm))) ?_
  intro fr t H
  obtain ⟨h3, hx, A1⟩ := A.st 0 rfl (o := 0) (new := [.slice none 0, .bool false]) (ds := [.slice none 0, .bool false]) (Nat.le_of_ble_eq_true rfl) rfl rfl
  replace A : HH g h3 [.obj h1.size (.cells none 2 [.slice none 0, .bool false]), .obj bx1w1 (.cells none 2 [.chan (some bx1w1_0), .str x1w1.now_, .int .i64 x1w1.size_, .bool x1w1.closed_]), .obj bx1w1_0 (.chan 64 (lst eS x1w1.wait_))] F := A1
  refine at_step (v := .tuple []) (h1 := h3) [(0, vs e_S_boulterlaw08_Op p0), (3, .ptr (some (bx1w1, 0))), (4, .ptr (some (h1.size, 0)))] H (fun fr => by kernel_rfl) (fun fr => .of (s_stG (by kernel_rfl) (stG_st hx rfl))) ?_
  intro fr t H
  refine at_nil ?_
  show AW cfg 5 g (right (right (right (right (bodyC cfg.P 5))))) fr h3 _
  refine aw_seq (by kernel_rfl) ?_
  refine aw_seq (by kernel_rfl) ?_
  refine aw_reg (id := 5) (n := 1) [(0, [])] (by kernel_rfl) (by kernel_rfl) ?_
  refine at_seg [(0, [])] [(0, vs e_S_boulterlaw08_Op p0), (3, .ptr (some (bx1w1, 0))), (4, .ptr (some (h1.size, 0))), (5, .int .i64 (0 : Int))] H (noU_all rfl) (fun fr => by kernel_rfl) ?_
  intro fr H
  refine at_nil ?_
  show AW cfg 5 g (right (left (right (right (right (right (bodyC cfg.P 5))))))) fr h3 _
  refine aw_block (id := 0) (by kernel_rfl) ?_
  obtain ⟨o1, ho, hm⟩ := bind_some hm
  refine aw_mono (Q' := fun e fr' h' => (∃ (x15 : Bool) (x16 : List UInt8) (x17 : Int) (x18 : Bool) (x19 : List (List UInt8)), e = .exit 0 ∧ .inl (x15, x16, x17, x18, x19) = o1 ∧ Has fr' 67 [] ∧ HH g h' [.obj h1.size (.cells none 2 [.slice none 0, .bool x15]), .obj bx1w1 (.cells none 2 [.chan (some bx1w1_0), .str x16, .int .i64 x17, .bool x18]), .obj bx1w1_0 (.chan 64 (lst eS x19))] F) ∨ (∃ (x20 : List (List UInt8)) (x21 : Bool) (x22 : List UInt8) (x23 : Int) (x24 : Bool) (x25 : List (List UInt8)), e = .exit 0 ∧ .inr (.inl (x20, x21, x22, x23, x24, x25)) = o1 ∧ Has fr' 67 [] ∧ HH g h' [.obj h1.size (.cells none 2 [vs eS x20, .bool x21]), .obj bx1w1 (.cells none 2 [.chan (some bx1w1_0), .str x22, .int .i64 x23, .bool x24]), .obj bx1w1_0 (.chan 64 (lst eS x25))] F) ∨ (∃ (x26 : Bool) (x27 : List UInt8) (x28 : Int) (x29 : Bool) (x30 : List (List UInt8)) (x31 : Bool), e = .ret ∧ .inr (.inr (.inl (x26, x27, x28, x29, x30, x31))) = o1 ∧ Has fr' 67 [(2, .bool x31)] ∧ HH g h' [.obj h1.size (.cells none 2 [.slice none 0, .bool x26]), .obj bx1w1 (.cells none 2 [.chan (some bx1w1_0), .str x27, .int .i64 x28, .bool x29]), .obj bx1w1_0 (.chan 64 (lst eS x30))] F) ∨ (∃ (x32 : List (List UInt8)) (x33 : Bool) (x34 : List UInt8) (x35 : Int) (x36 : Bool) (x37 : List (List UInt8)) (x38 : Bool), e = .ret ∧ .inr (.inr (.inr (x32, x33, x34, x35, x36, x37, x38))) = o1 ∧ Has fr' 67 [(2, .bool x38)] ∧ HH g h' [.obj h1.size (.cells none 2 [vs eS x32, .bool x33]), .obj bx1w1 (.cells none 2 [.chan (some bx1w1_0), .str x34, .int .i64 x35, .bool x36]), .obj bx1w1_0 (.chan 64 (lst eS x37))] F) ∨ False) ?_ ?_
  · refine aw_loop (by kernel_rfl) (fun (s : (Bool × (List UInt8) × Int × Bool × (List (List UInt8)) × Int) ⊕ ((List (List UInt8)) × Bool × (List UInt8) × Int × Bool × (List (List UInt8)) × Int)) fr' h' => (∃ (x2 : Bool) (x3 : List UInt8) (x4 : Int) (x5 : Bool) (x6 : List (List UInt8)) (x7 : Int), .inl (x2, x3, x4, x5, x6, x7) = s ∧ Has fr' 67 [(0, vs e_S_boulterlaw08_Op p0), (3, .ptr (some (bx1w1, 0))), (4, .ptr (some (h1.size, 0))), (5, .int .i64 x7)] ∧ HH g h' [.obj h1.size (.cells none 2 [.slice none 0, .bool x2]), .obj bx1w1 (.cells none 2 [.chan (some bx1w1_0), .str x3, .int .i64 x4, .bool x5]), .obj bx1w1_0 (.chan 64 (lst eS x6))] F) ∨ (∃ (x8 : List (List UInt8)) (x9 : Bool) (x10 : List UInt8) (x11 : Int) (x12 : Bool) (x13 : List (List UInt8)) (x14 : Int), .inr (x8, x9, x10, x11, x12, x13, x14) = s ∧ Has fr' 67 [(0, vs e_S_boulterlaw08_Op p0), (3, .ptr (some (bx1w1, 0))), (4, .ptr (some (h1.size, 0))), (5, .int .i64 x14)] ∧ HH g h' [.obj h1.size (.cells none 2 [vs eS x8, .bool x9]), .obj bx1w1 (.cells none 2 [.chan (some bx1w1_0), .str x10, .int .i64 x11, .bool x12]), .obj bx1w1_0 (.chan 64 (lst eS x13))] F)) ho (Or.inl ⟨false, x1w1.now_, x1w1.size_, x1w1.closed_, x1w1.wait_, (0 : Int), rfl, H.less _ (fun fr => by kernel_rfl), A⟩) ?_
    clear ho hm H A
    intro s q fr h4 hI hm
    rcases hI with ⟨x2, x3, x4, x5, x6, x7, rfl, H, A⟩ | ⟨x8, x9, x10, x11, x12, x13, x14, rfl, H, A⟩
    · unfold M_boulterlaw08_FeedPlays_L0 at hm
      refine aw_seq (by kernel_rfl) ?_
      refine aw_seq (by kernel_rfl) ?_
      refine aw_reg (id := 6) (n := 8) [(0, []), (1, []), (2, []), (3, []), (4, []), (5, []), (6, []), (7, [])] (by kernel_rfl) (by kernel_rfl) ?_
      refine at_seg [(0, []), (1, []), (2, []), (3, []), (4, [])] [(0, vs e_S_boulterlaw08_Op p0), (3, .ptr (some (bx1w1, 0))), (4, .ptr (some (h1.size, 0))), (5, .int .i64 x7), (16, .bool (decide (x7 < (p0.length : Int))))] H (noU_all rfl) (fun fr => by kernel_rfl) ?_
      intro fr H
      refine at_cut [(5, []), (6, []), (7, [])] (fun fr' h' => h4 = h' ∧ Has fr' 67 [(0, vs e_S_boulterlaw08_Op p0), (3, .ptr (some (bx1w1, 0))), (4, .ptr (some (h1.size, 0))), (5, .int .i64 x7), (19, .bool ((decide (x7 < (p0.length : Int))) && (decide (x7 < (100 : Int)))))]) ?_ ?_
      · cases hb : (decide (x7 < (p0.length : Int)) : Bool) with
        | true =>
          replace H := H.know 16 hb (by kernel_rfl)
          refine at_seg [(5, []), (6, []), (7, [])] [(0, vs e_S_boulterlaw08_Op p0), (3, .ptr (some (bx1w1, 0))), (4, .ptr (some (h1.size, 0))), (5, .int .i64 x7), (19, .bool (decide (x7 < (100 : Int))))] H (noU_all rfl) (fun fr => by kernel_rfl) ?_
          intro fr H
          exact at_nil ⟨rfl, by first | exact H.less _ (fun fr => by rfl) | exact H.less _ (fun fr => by rw [hb]; rfl)⟩
        | false =>
          replace H := H.know 16 hb (by kernel_rfl)
          refine at_seg [(5, []), (6, []), (7, [])] [(0, vs e_S_boulterlaw08_Op p0), (3, .ptr (some (bx1w1, 0))), (4, .ptr (some (h1.size, 0))), (5, .int .i64 x7), (19, .bool false)] H (noU_all rfl) (fun fr => by kernel_rfl) ?_
          intro fr H
          exact at_nil ⟨rfl, by first | exact H.less _ (fun fr => by rfl) | exact H.less _ (fun fr => by rw [hb]; rfl)⟩
      · intro t fr h' hK
        obtain ⟨e, H⟩ := hK
        subst e
        refine at_nil ?_
        show AW cfg 5 g (right (left (left (left (right (left (right (right (right (right (bodyC cfg.P 5))))))))))) fr h4 _
        rcases iteB_some hm with ⟨hb, hm⟩ | ⟨hb, hm⟩
        · replace H := H.know 19 hb (by kernel_rfl)
          refine aw_true (x := .tmp 19) (by kernel_rfl) H (fun fr => by kernel_rfl) ?_
          refine aw_skip (by kernel_rfl) ?_
          show AW cfg 5 g (right (left (left (right (left (right (right (right (right (bodyC cfg.P 5)))))))))) fr h4 _
          refine aw_seq (by kernel_rfl) ?_
          refine aw_block (id := 1) (by kernel_rfl) ?_
          refine aw_seq (by kernel_rfl) ?_
          refine aw_seq (by kernel_rfl) ?_
          refine aw_reg (id := 8) (n := 7) [(0, []), (1, []), (2, []), (3, []), (4, []), (5, []), (6, [])] (by kernel_rfl) (by kernel_rfl) ?_
          refine at_seg [(0, []), (1, [])] [(0, vs e_S_boulterlaw08_Op p0), (3, .ptr (some (bx1w1, 0))), (4, .ptr (some (h1.size, 0))), (5, .int .i64 x7), (22, vs e_S_boulterlaw08_Op p0), (23, .int .i64 x7)] H (noU_all rfl) (fun fr => by kernel_rfl) ?_
          intro fr H
          obtain ⟨x39, hx, hm⟩ := bind_some hm
          refine at_step (v := .vptr [.int .i64 x39.Kind, .int .i64 x39.N, .str x39.S]) (h1 := h4) [(0, vs e_S_boulterlaw08_Op p0), (3, .ptr (some (bx1w1, 0))), (4, .ptr (some (h1.size, 0))), (5, .int .i64 x7), (24, .vptr [.int .i64 x39.Kind, .int .i64 x39.N, .str x39.S])] H (fun fr => by kernel_rfl) (fun fr => .of (s_ixV (e := e_S_boulterlaw08_Op) (x := x39) enc_S_boulterlaw08_Op (by decide) (by kernel_rfl) hx)) ?_
          intro fr t H
          refine at_seg [(3, [])] [(0, vs e_S_boulterlaw08_Op p0), (3, .ptr (some (bx1w1, 0))), (4, .ptr (some (h1.size, 0))), (5, .int .i64 x7), (25, .vptr [.str x39.S])] H (noU_all rfl) (fun fr => by kernel_rfl) ?_
          intro fr H
          refine at_step (v := .str x39.S) (h1 := h4) [(0, vs e_S_boulterlaw08_Op p0), (3, .ptr (some (bx1w1, 0))), (4, .ptr (some (h1.size, 0))), (5, .int .i64 x7), (26, .str x39.S)] H (fun fr => by kernel_rfl) (fun fr => .of (s_lv (by kernel_rfl))) ?_
          intro fr t H
          refine at_seg [(5, []), (6, [])] [(0, vs e_S_boulterlaw08_Op p0), (3, .ptr (some (bx1w1, 0))), (4, .ptr (some (h1.size, 0))), (5, .int .i64 x7), (28, .bool (decide ((x39.S.length : Int) > (200 : Int))))] H (noU_all rfl) (fun fr => by kernel_rfl) ?_
          intro fr H
          refine at_nil ?_
          show AW cfg 5 g (right (left (left (left (right (left (left (right (left (right (right (right (right (bodyC cfg.P 5)))))))))))))) fr h4 _
          rcases iteB_some hm with ⟨hb, hm⟩ | ⟨hb, hm⟩
          · replace H := H.know 28 hb (by kernel_rfl)
            refine aw_true (x := .tmp 28) (by kernel_rfl) H (fun fr => by kernel_rfl) ?_
            refine aw_seq (by kernel_rfl) ?_
            refine aw_reg (id := 9) (n := 2) [(0, []), (1, [])] (by kernel_rfl) (by kernel_rfl) ?_
            obtain ⟨x40, hx, hm⟩ := bind_some hm
            refine at_step (v := .bool x40) (h1 := h4) [(29, .bool x40)] H (fun fr => by kernel_rfl) (fun fr => Steps.call (by kernel_rfl) (ok_boulterlaw08_awake hx)) ?_
            intro fr t H
            refine at_seg [(1, [])] [(2, .bool x40)] H (noU_all rfl) (fun fr => by kernel_rfl) ?_
            intro fr H
            refine at_nil ?_
            show AW cfg 5 g (right (left (right (left (left (left (right (left (left (right (left (right (right (right (right (bodyC cfg.P 5)))))))))))))))) fr h4 _
            refine aw_ret (by kernel_rfl) ?_
            exact Exists.intro _ (And.intro (Option.some.inj hm).symm (fun e => Or.inr (Or.inr (Or.inl ⟨x2, x3, x4, x5, x6, x40, rfl, e, H.less _ (fun fr => by kernel_rfl), A⟩))))
          · replace H := H.know 28 hb (by kernel_rfl)
            refine aw_false (x := .tmp 28) (by kernel_rfl) H (fun fr => by kernel_rfl) ?_
            refine aw_skip (by kernel_rfl) ?_
            show AW cfg 5 g (right (left (left (right (left (left (right (left (right (right (right (right (bodyC cfg.P 5))))))))))))) fr h4 _
            refine aw_seq (by kernel_rfl) ?_
            refine aw_draw (id := 10) (n := 13) (by kernel_rfl) [(0, []), (1, []), (2, []), (3, []), (4, []), (5, []), (10, []), (6, [10]), (7, []), (8, []), (9, []), (11, []), (12, [])] (by kernel_rfl) ?_
            refine at_seg [(0, [])] [(0, vs e_S_boulterlaw08_Op p0), (3, .ptr (some (bx1w1, 0))), (4, .ptr (some (h1.size, 0))), (5, .int .i64 x7), (31, .ptr (some (bx1w1, 0)))] H (noU_all rfl) (fun fr => by kernel_rfl) ?_
            intro fr H
            refine at_stepT (v := .agg [.slice none 0, .bool x2]) (h1 := h4) (tch' := [(1, h1.size)]) (g.prot) [(0, vs e_S_boulterlaw08_Op p0), (3, .ptr (some (bx1w1, 0))), (4, .ptr (some (h1.size, 0))), (5, .int .i64 x7), (31, .ptr (some (bx1w1, 0))), (32, .agg [.slice none 0, .bool x2])] H (fun fr => by kernel_rfl) (by kernel_rfl) (fun fr => by kernel_rfl) (fun fr => .of (s_ldA (by kernel_rfl) (A.ldA 0 rfl (o := 0) (n := 2) ⟨Nat.le_of_ble_eq_true rfl, rfl⟩))) ?_
            intro fr H
            refine at_seg [(2, []), (3, [])] [(0, vs e_S_boulterlaw08_Op p0), (3, .ptr (some (bx1w1, 0))), (4, .ptr (some (h1.size, 0))), (5, .int .i64 x7), (31, .ptr (some (bx1w1, 0))), (32, .agg [.slice none 0, .bool x2]), (33, vs e_S_boulterlaw08_Op p0), (34, .int .i64 x7)] H (noU_all rfl) (fun fr => by kernel_rfl) ?_
            intro fr H
            obtain ⟨x41, hx, hm⟩ := bind_some hm
            refine at_stepT (v := .vptr [.int .i64 x41.Kind, .int .i64 x41.N, .str x41.S]) (h1 := h4) (tch' := [(1, h1.size)]) (g.prot) [(0, vs e_S_boulterlaw08_Op p0), (3, .ptr (some (bx1w1, 0))), (4, .ptr (some (h1.size, 0))), (5, .int .i64 x7), (31, .ptr (some (bx1w1, 0))), (32, .agg [.slice none 0, .bool x2]), (35, .vptr [.int .i64 x41.Kind, .int .i64 x41.N, .str x41.S])] H (fun fr => by kernel_rfl) (by kernel_rfl) (fun fr => by kernel_rfl) (fun fr => .of (s_ixV (e := e_S_boulterlaw08_Op) (x := x41) enc_S_boulterlaw08_Op (by decide) (by kernel_rfl) hx)) ?_
            intro fr H
            refine at_stepT (v := .agg [.int .i64 x41.Kind, .int .i64 x41.N, .str x41.S]) (h1 := h4) (tch' := [(1, h1.size)]) (g.prot) [(0, vs e_S_boulterlaw08_Op p0), (3, .ptr (some (bx1w1, 0))), (4, .ptr (some (h1.size, 0))), (5, .int .i64 x7), (31, .ptr (some (bx1w1, 0))), (32, .agg [.slice none 0, .bool x2]), (36, .agg [.int .i64 x41.Kind, .int .i64 x41.N, .str x41.S])] H (fun fr => by kernel_rfl) (by kernel_rfl) (fun fr => by kernel_rfl) (fun fr => .of (s_lv (by kernel_rfl))) ?_
            intro fr H
            obtain ⟨h5, e2⟩ : ∃ x, x = h4.push (.cells none 2 [.slice none 0, .bool false]) := ⟨_, rfl⟩
            replace A := (A.push _).to e2
            refine at_stepT (v := .ptr (some (h4.size, 0))) (h1 := h5) (tch' := [(10, h4.size), (1, h1.size)]) (g.prot) [(0, vs e_S_boulterlaw08_Op p0), (3, .ptr (some (bx1w1, 0))), (4, .ptr (some (h1.size, 0))), (5, .int .i64 x7), (6, .ptr (some (h4.size, 0))), (31, .ptr (some (bx1w1, 0))), (32, .agg [.slice none 0, .bool x2]), (36, .agg [.int .i64 x41.Kind, .int .i64 x41.N, .str x41.S])] H (fun fr => by kernel_rfl) (by kernel_rfl) (fun fr => by kernel_rfl) (fun fr => .of (s_n' (by kernel_rfl) (congrArg some e2.symm))) ?_
            intro fr H
            replace A : HH g h5 [.obj bx1w1 (.cells none 2 [.chan (some bx1w1_0), .str x3, .int .i64 x4, .bool x5]), .obj bx1w1_0 (.chan 64 (lst eS x6)), .obj h4.size (.cells none 2 [.slice none 0, .bool false]), .obj h1.size (.cells none 2 [.slice none 0, .bool x2])] F := ((A.front 3 rfl).front 3 rfl)
            have A1 := A.prot2 2 (pr := [h4.size]) (.cons 0 rfl (by simp [Ck.ids]) .nil)
            obtain ⟨⟨x42, x43, x44, x45⟩, hx, hm⟩ := bind_some hm
            obtain ⟨v1, h6, hr, rfl, A1⟩ := ok_boulterlaw08_one_sPCHRR (av := [.ptr (some (bx1w1, 0)), .agg [.slice none 0, .bool x2], .agg [.int .i64 x41.Kind, .int .i64 x41.N, .str x41.S]]) hx (by kernel_rfl) A1
            replace A : HH g h6 [.obj bx1w1 (.cells none 2 [.chan (some bx1w1_0), .str x44.now_, .int .i64 x44.size_, .bool x44.closed_]), .obj bx1w1_0 (.chan 64 (lst eS x45)), .obj h4.size (.cells none 2 [.slice none 0, .bool false]), .obj h1.size (.cells none 2 [.slice none 0, .bool x2])] F := A.glueP (n := 2) A1
            refine at_stepT (v := .tuple [.agg [vs eS x42.L, .bool x42.Closed], .bool x43]) (h1 := h6) (tch' := [(10, h4.size), (1, h1.size)]) (h4.size :: g.prot) [(0, vs e_S_boulterlaw08_Op p0), (3, .ptr (some (bx1w1, 0))), (4, .ptr (some (h1.size, 0))), (5, .int .i64 x7), (6, .ptr (some (h4.size, 0))), (37, .tuple [.agg [vs eS x42.L, .bool x42.Closed], .bool x43])] H (fun fr => by kernel_rfl) (by kernel_rfl) (fun fr => by kernel_rfl) (fun fr => Steps.call (by kernel_rfl) hr) ?_
            intro fr H
            refine at_seg [(7, []), (8, []), (9, [])] [(0, vs e_S_boulterlaw08_Op p0), (3, .ptr (some (bx1w1, 0))), (4, .ptr (some (h1.size, 0))), (5, .int .i64 x7), (6, .ptr (some (h4.size, 0))), (38, .agg [vs eS x42.L, .bool x42.Closed]), (39, .bool x43)] H (noU_all rfl) (fun fr => by kernel_rfl) ?_
            intro fr H
            obtain ⟨h7, hx, A1⟩ := A.st 2 rfl (o := 0) (new := [vs eS x42.L, .bool x42.Closed]) (ds := [vs eS x42.L, .bool x42.Closed]) (Nat.le_of_ble_eq_true rfl) rfl rfl
            replace A : HH g h7 [.obj bx1w1 (.cells none 2 [.chan (some bx1w1_0), .str x44.now_, .int .i64 x44.size_, .bool x44.closed_]), .obj bx1w1_0 (.chan 64 (lst eS x45)), .obj h4.size (.cells none 2 [vs eS x42.L, .bool x42.Closed]), .obj h1.size (.cells none 2 [.slice none 0, .bool x2])] F := A1
            refine at_stepT (v := .tuple []) (h1 := h7) (tch' := [(10, h4.size), (1, h1.size)]) (g.prot) [(0, vs e_S_boulterlaw08_Op p0), (3, .ptr (some (bx1w1, 0))), (4, .ptr (some (h1.size, 0))), (5, .int .i64 x7), (6, .ptr (some (h4.size, 0))), (39, .bool x43)] H (fun fr => by kernel_rfl) (by kernel_rfl) (fun fr => by kernel_rfl) (fun fr => .of (s_stG (by kernel_rfl) (stG_st hx rfl))) ?_
            intro fr H
            refine at_seg [(12, [])] [(0, vs e_S_boulterlaw08_Op p0), (3, .ptr (some (bx1w1, 0))), (4, .ptr (some (h1.size, 0))), (5, .int .i64 x7), (6, .ptr (some (h4.size, 0))), (7, .bool x43)] H (noU_all rfl) (fun fr => by kernel_rfl) ?_
            intro fr H
            refine at_nil ?_
            show AW cfg 5 g (right (right (left (left (right (left (left (right (left (right (right (right (right (bodyC cfg.P 5)))))))))))))) fr h7 _
            refine aw_seq (by kernel_rfl) ?_
            refine aw_reg (id := 11) (n := 2) [(0, []), (1, [])] (by kernel_rfl) (by kernel_rfl) ?_
            refine at_step (v := .agg [vs eS x42.L, .bool x42.Closed]) (h1 := h7) [(0, vs e_S_boulterlaw08_Op p0), (3, .ptr (some (bx1w1, 0))), (4, .ptr (some (h1.size, 0))), (5, .int .i64 x7), (7, .bool x43), (40, .agg [vs eS x42.L, .bool x42.Closed])] H (fun fr => by kernel_rfl) (fun fr => .of (s_ldA (by kernel_rfl) (A.ldA 2 rfl (o := 0) (n := 2) ⟨Nat.le_of_ble_eq_true rfl, rfl⟩))) ?_
            intro fr t H
            obtain ⟨h8, hx, A1⟩ := A.st 3 rfl (o := 0) (new := [vs eS x42.L, .bool x42.Closed]) (ds := [vs eS x42.L, .bool x42.Closed]) (Nat.le_of_ble_eq_true rfl) rfl rfl
            replace A : HH g h8 [.obj bx1w1 (.cells none 2 [.chan (some bx1w1_0), .str x44.now_, .int .i64 x44.size_, .bool x44.closed_]), .obj bx1w1_0 (.chan 64 (lst eS x45)), .obj h4.size (.cells none 2 [vs eS x42.L, .bool x42.Closed]), .obj h1.size (.cells none 2 [vs eS x42.L, .bool x42.Closed])] F := A1
            refine at_step (v := .tuple []) (h1 := h8) [(0, vs e_S_boulterlaw08_Op p0), (3, .ptr (some (bx1w1, 0))), (4, .ptr (some (h1.size, 0))), (5, .int .i64 x7), (7, .bool x43)] H (fun fr => by kernel_rfl) (fun fr => .of (s_stG (by kernel_rfl) (stG_st hx rfl))) ?_
            intro fr t H
            refine at_nil ?_
            show AW cfg 5 g (right (right (right (left (left (right (left (left (right (left (right (right (right (right (bodyC cfg.P 5))))))))))))))) fr h8 _
            refine aw_seq (by kernel_rfl) ?_
            refine aw_draw (id := 12) (n := 25) (by kernel_rfl) [(0, []), (1, []), (2, []), (3, []), (5, []), (4, [5]), (6, []), (7, []), (8, []), (9, []), (10, []), (11, []), (13, []), (14, []), (12, [14]), (15, []), (16, []), (17, []), (18, []), (19, []), (21, []), (22, []), (20, [22]), (23, []), (24, [])] (by kernel_rfl) ?_
            refine at_seg [(0, []), (1, []), (2, [])] [(0, vs e_S_boulterlaw08_Op p0), (3, .ptr (some (bx1w1, 0))), (4, .ptr (some (h1.size, 0))), (5, .int .i64 x7), (43, .bool (!x43))] H (noU_all rfl) (fun fr => by kernel_rfl) ?_
            intro fr H
            rcases iteB_some hm with ⟨hb, hm⟩ | ⟨hb, hm⟩
            · replace H := H.know 43 hb (by kernel_rfl)
              refine at_seg [(3, []), (5, [])] [(0, vs e_S_boulterlaw08_Op p0), (3, .ptr (some (bx1w1, 0))), (4, .ptr (some (h1.size, 0))), (5, .int .i64 x7), (43, .bool true), (44, .tuple []), (46, .tuple [])] H (noU_all rfl) (fun fr => by kernel_rfl) ?_
              intro fr H
              refine at_skip [(0, vs e_S_boulterlaw08_Op p0), (3, .ptr (some (bx1w1, 0))), (4, .ptr (some (h1.size, 0))), (5, .int .i64 x7), (43, .bool true), (45, .tuple []), (46, .tuple [])] H (fun fr => by kernel_rfl) ?_
              intro fr H
              refine at_seg [(6, []), (7, []), (8, []), (9, []), (10, []), (11, []), (13, []), (14, [])] [(0, vs e_S_boulterlaw08_Op p0), (3, .ptr (some (bx1w1, 0))), (4, .ptr (some (h1.size, 0))), (5, .int .i64 x7), (51, .bool true), (52, .tuple []), (55, .tuple [])] H (noU_all rfl) (fun fr => by kernel_rfl) ?_
              intro fr H
              refine at_skip [(0, vs e_S_boulterlaw08_Op p0), (3, .ptr (some (bx1w1, 0))), (4, .ptr (some (h1.size, 0))), (5, .int .i64 x7), (51, .bool true), (53, .tuple []), (55, .tuple [])] H (fun fr => by kernel_rfl) ?_
              intro fr H
              refine at_seg [(15, []), (16, []), (17, []), (18, []), (19, []), (21, []), (22, [])] [(0, vs e_S_boulterlaw08_Op p0), (3, .ptr (some (bx1w1, 0))), (4, .ptr (some (h1.size, 0))), (5, .int .i64 x7), (59, .bool true), (60, .tuple []), (63, .tuple [])] H (noU_all rfl) (fun fr => by kernel_rfl) ?_
              intro fr H
              refine at_skip [(0, vs e_S_boulterlaw08_Op p0), (3, .ptr (some (bx1w1, 0))), (4, .ptr (some (h1.size, 0))), (5, .int .i64 x7), (59, .bool true), (61, .tuple []), (63, .tuple [])] H (fun fr => by kernel_rfl) ?_
              intro fr H
              refine at_seg [(23, []), (24, [])] [(0, vs e_S_boulterlaw08_Op p0), (3, .ptr (some (bx1w1, 0))), (4, .ptr (some (h1.size, 0))), (5, .int .i64 x7), (65, .bool true)] H (noU_all rfl) (fun fr => by kernel_rfl) ?_
              intro fr H
              refine at_nil ?_
              show AW cfg 5 g (right (right (right (right (left (left (right (left (left (right (left (right (right (right (right (bodyC cfg.P 5)))))))))))))))) fr h8 _
              refine aw_true (x := .tmp 65) (by kernel_rfl) H (fun fr => by kernel_rfl) ?_
              refine aw_seq (by kernel_rfl) ?_
              refine aw_reg (id := 13) (n := 1) [(0, [])] (by kernel_rfl) (by kernel_rfl) ?_
              refine at_seg [(0, [])] [(2, .bool false)] H (noU_all rfl) (fun fr => by kernel_rfl) ?_
              intro fr H
              refine at_nil ?_
              show AW cfg 5 g (right (left (right (right (right (right (left (left (right (left (left (right (left (right (right (right (right (bodyC cfg.P 5)))))))))))))))))) fr h8 _
              refine aw_ret (by kernel_rfl) ?_
              replace A : HH g h8 [.obj h1.size (.cells none 2 [vs eS x42.L, .bool x42.Closed]), .obj bx1w1 (.cells none 2 [.chan (some bx1w1_0), .str x44.now_, .int .i64 x44.size_, .bool x44.closed_]), .obj bx1w1_0 (.chan 64 (lst eS x45))] F := (HH.dropF (((A.front 1 rfl).front 1 rfl).front 3 rfl) 3)
              exact Exists.intro _ (And.intro (Option.some.inj hm).symm (fun e => Or.inr (Or.inr (Or.inr (Or.inl ⟨x42.L, x42.Closed, x44.now_, x44.size_, x44.closed_, x45, false, rfl, e, H.less _ (fun fr => by kernel_rfl), A⟩)))))
            · replace H := H.know 43 hb (by kernel_rfl)
              refine at_seg [(3, [])] [(0, vs e_S_boulterlaw08_Op p0), (3, .ptr (some (bx1w1, 0))), (4, .ptr (some (h1.size, 0))), (5, .int .i64 x7), (43, .bool false), (44, .ptr (some (bx1w1, 0)))] H (noU_all rfl) (fun fr => by kernel_rfl) ?_
              intro fr H
              refine at_stepT (v := .agg [vs eS x42.L, .bool x42.Closed]) (h1 := h8) (tch' := [(5, h1.size)]) (g.prot) [(0, vs e_S_boulterlaw08_Op p0), (3, .ptr (some (bx1w1, 0))), (4, .ptr (some (h1.size, 0))), (5, .int .i64 x7), (43, .bool false), (44, .ptr (some (bx1w1, 0))), (46, .agg [vs eS x42.L, .bool x42.Closed])] H (fun fr => by kernel_rfl) (by kernel_rfl) (fun fr => by kernel_rfl) (fun fr => .of (s_ldA (by kernel_rfl) (A.ldA 3 rfl (o := 0) (n := 2) ⟨Nat.le_of_ble_eq_true rfl, rfl⟩))) ?_
              intro fr H
              have A1 := A.prot2 2 (pr := [h1.size]) (.cons 1 rfl (by simp [Ck.ids]) .nil)
              obtain ⟨x46, hx, hm⟩ := bind_some hm
              obtain ⟨v1, h9, hr, rfl, A1⟩ := ok_feed_Feed_Len_sPCH (av := [.ptr (some (bx1w1, 0))]) hx (by kernel_rfl) A1
              replace A : HH g h9 [.obj bx1w1 (.cells none 2 [.chan (some bx1w1_0), .str x44.now_, .int .i64 x44.size_, .bool x44.closed_]), .obj bx1w1_0 (.chan 64 (lst eS x45)), .obj h4.size (.cells none 2 [vs eS x42.L, .bool x42.Closed]), .obj h1.size (.cells none 2 [vs eS x42.L, .bool x42.Closed])] F := A.glueP (n := 2) A1
              refine at_stepT (v := .int .i64 x46) (h1 := h9) (tch' := [(5, h1.size)]) (h1.size :: g.prot) [(0, vs e_S_boulterlaw08_Op p0), (3, .ptr (some (bx1w1, 0))), (4, .ptr (some (h1.size, 0))), (5, .int .i64 x7), (43, .bool false), (45, .int .i64 x46), (46, .agg [vs eS x42.L, .bool x42.Closed])] H (fun fr => by kernel_rfl) (by kernel_rfl) (fun fr => by kernel_rfl) (fun fr => Steps.call (by kernel_rfl) hr) ?_
              intro fr H
              have A1 := A.cut 0
              obtain ⟨x47, hx, hm⟩ := bind_some hm
              obtain ⟨v1, h10, hr, rfl, A1⟩ := ok_boulterref08_All (av := [.agg [vs eS x42.L, .bool x42.Closed]]) hx (by kernel_rfl) A1
              replace A : HH g h10 [.obj bx1w1 (.cells none 2 [.chan (some bx1w1_0), .str x44.now_, .int .i64 x44.size_, .bool x44.closed_]), .obj bx1w1_0 (.chan 64 (lst eS x45)), .obj h4.size (.cells none 2 [vs eS x42.L, .bool x42.Closed]), .obj h1.size (.cells none 2 [vs eS x42.L, .bool x42.Closed])] F := A.glue0 (n := 0) A1
              refine at_stepT (v := .str x47) (h1 := h10) (tch' := [(5, h1.size)]) (g.prot) [(0, vs e_S_boulterlaw08_Op p0), (3, .ptr (some (bx1w1, 0))), (4, .ptr (some (h1.size, 0))), (5, .int .i64 x7), (43, .bool false), (45, .int .i64 x46), (47, .str x47)] H (fun fr => by kernel_rfl) (by kernel_rfl) (fun fr => by kernel_rfl) (fun fr => Steps.call (by kernel_rfl) hr) ?_
              intro fr H
              refine at_seg [(7, []), (8, []), (9, []), (10, [])] [(0, vs e_S_boulterlaw08_Op p0), (3, .ptr (some (bx1w1, 0))), (4, .ptr (some (h1.size, 0))), (5, .int .i64 x7), (51, .bool (x46 != (x47.length : Int)))] H (noU_all rfl) (fun fr => by kernel_rfl) ?_
              intro fr H
              rcases iteB_some hm with ⟨hb, hm⟩ | ⟨hb, hm⟩
              · replace H := H.know 51 hb (by kernel_rfl)
                refine at_seg [(11, []), (13, []), (14, [])] [(0, vs e_S_boulterlaw08_Op p0), (3, .ptr (some (bx1w1, 0))), (4, .ptr (some (h1.size, 0))), (5, .int .i64 x7), (51, .bool true), (52, .tuple []), (55, .tuple [])] H (noU_all rfl) (fun fr => by kernel_rfl) ?_
                intro fr H
                refine at_skip [(0, vs e_S_boulterlaw08_Op p0), (3, .ptr (some (bx1w1, 0))), (4, .ptr (some (h1.size, 0))), (5, .int .i64 x7), (51, .bool true), (53, .tuple []), (55, .tuple [])] H (fun fr => by kernel_rfl) ?_
                intro fr H
                refine at_seg [(15, []), (16, []), (17, []), (18, []), (19, []), (21, []), (22, [])] [(0, vs e_S_boulterlaw08_Op p0), (3, .ptr (some (bx1w1, 0))), (4, .ptr (some (h1.size, 0))), (5, .int .i64 x7), (59, .bool true), (60, .tuple []), (63, .tuple [])] H (noU_all rfl) (fun fr => by kernel_rfl) ?_
                intro fr H
                refine at_skip [(0, vs e_S_boulterlaw08_Op p0), (3, .ptr (some (bx1w1, 0))), (4, .ptr (some (h1.size, 0))), (5, .int .i64 x7), (59, .bool true), (61, .tuple []), (63, .tuple [])] H (fun fr => by kernel_rfl) ?_
                intro fr H
                refine at_seg [(23, []), (24, [])] [(0, vs e_S_boulterlaw08_Op p0), (3, .ptr (some (bx1w1, 0))), (4, .ptr (some (h1.size, 0))), (5, .int .i64 x7), (65, .bool true)] H (noU_all rfl) (fun fr => by kernel_rfl) ?_
                intro fr H
                refine at_nil ?_
                show AW cfg 5 g (right (right (right (right (left (left (right (left (left (right (left (right (right (right (right (bodyC cfg.P 5)))))))))))))))) fr h10 _
                refine aw_true (x := .tmp 65) (by kernel_rfl) H (fun fr => by kernel_rfl) ?_
                refine aw_seq (by kernel_rfl) ?_
                refine aw_reg (id := 13) (n := 1) [(0, [])] (by kernel_rfl) (by kernel_rfl) ?_
                refine at_seg [(0, [])] [(2, .bool false)] H (noU_all rfl) (fun fr => by kernel_rfl) ?_
                intro fr H
                refine at_nil ?_
                show AW cfg 5 g (right (left (right (right (right (right (left (left (right (left (left (right (left (right (right (right (right (bodyC cfg.P 5)))))))))))))))))) fr h10 _
                refine aw_ret (by kernel_rfl) ?_
                replace A : HH g h10 [.obj h1.size (.cells none 2 [vs eS x42.L, .bool x42.Closed]), .obj bx1w1 (.cells none 2 [.chan (some bx1w1_0), .str x44.now_, .int .i64 x44.size_, .bool x44.closed_]), .obj bx1w1_0 (.chan 64 (lst eS x45))] F := (HH.dropF (((A.front 1 rfl).front 1 rfl).front 3 rfl) 3)
                exact Exists.intro _ (And.intro (Option.some.inj hm).symm (fun e => Or.inr (Or.inr (Or.inr (Or.inl ⟨x42.L, x42.Closed, x44.now_, x44.size_, x44.closed_, x45, false, rfl, e, H.less _ (fun fr => by kernel_rfl), A⟩)))))
              · replace H := H.know 51 hb (by kernel_rfl)
                refine at_seg [(11, []), (13, [])] [(0, vs e_S_boulterlaw08_Op p0), (3, .ptr (some (bx1w1, 0))), (4, .ptr (some (h1.size, 0))), (5, .int .i64 x7), (51, .bool false), (52, .ptr (some (bx1w1, 0))), (54, .ptr (some (h1.size, 0)))] H (noU_all rfl) (fun fr => by kernel_rfl) ?_
                intro fr H
                refine at_stepT (v := vs eS x42.L) (h1 := h10) (tch' := [(14, h1.size), (5, h1.size)]) (g.prot) [(0, vs e_S_boulterlaw08_Op p0), (3, .ptr (some (bx1w1, 0))), (4, .ptr (some (h1.size, 0))), (5, .int .i64 x7), (51, .bool false), (52, .ptr (some (bx1w1, 0))), (55, vs eS x42.L)] H (fun fr => by kernel_rfl) (by kernel_rfl) (fun fr => by kernel_rfl) (fun fr => .of (s_ld (by kernel_rfl) (A.ld1 3 rfl (o := 0) rfl))) ?_
                intro fr H
                have A1 := A.prot2 2 (pr := [h1.size]) (.cons 1 rfl (by simp [Ck.ids]) .nil)
                obtain ⟨x48, hx, hm⟩ := bind_some hm
                obtain ⟨v1, h11, hr, rfl, A1⟩ := ok_feed_Feed_Chunks_sPCH (av := [.ptr (some (bx1w1, 0))]) hx (by kernel_rfl) A1
                replace A : HH g h11 [.obj bx1w1 (.cells none 2 [.chan (some bx1w1_0), .str x44.now_, .int .i64 x44.size_, .bool x44.closed_]), .obj bx1w1_0 (.chan 64 (lst eS x45)), .obj h4.size (.cells none 2 [vs eS x42.L, .bool x42.Closed]), .obj h1.size (.cells none 2 [vs eS x42.L, .bool x42.Closed])] F := A.glueP (n := 2) A1
                refine at_stepT (v := .int .i64 x48) (h1 := h11) (tch' := [(14, h1.size), (5, h1.size)]) (h1.size :: g.prot) [(0, vs e_S_boulterlaw08_Op p0), (3, .ptr (some (bx1w1, 0))), (4, .ptr (some (h1.size, 0))), (5, .int .i64 x7), (51, .bool false), (53, .int .i64 x48), (55, vs eS x42.L)] H (fun fr => by kernel_rfl) (by kernel_rfl) (fun fr => by kernel_rfl) (fun fr => Steps.call (by kernel_rfl) hr) ?_
                intro fr H
                refine at_seg [(15, []), (16, []), (17, []), (18, [])] [(0, vs e_S_boulterlaw08_Op p0), (3, .ptr (some (bx1w1, 0))), (4, .ptr (some (h1.size, 0))), (5, .int .i64 x7), (59, .bool (x48 != (x42.L.length : Int)))] H (noU_all rfl) (fun fr => by kernel_rfl) ?_
                intro fr H
                obtain ⟨x49, ho, hm⟩ := bind_some hm
                refine at_cut [(19, []), (21, []), (22, []), (20, [22]), (23, []), (24, [])] (fun fr' h' => Has fr' 67 [(0, vs e_S_boulterlaw08_Op p0), (3, .ptr (some (bx1w1, 0))), (4, .ptr (some (h1.size, 0))), (5, .int .i64 x7), (65, .bool x49)] ∧ HH g h' [.obj bx1w1 (.cells none 2 [.chan (some bx1w1_0), .str x44.now_, .int .i64 x44.size_, .bool x44.closed_]), .obj bx1w1_0 (.chan 64 (lst eS x45)), .obj h4.size (.cells none 2 [vs eS x42.L, .bool x42.Closed]), .obj h1.size (.cells none 2 [vs eS x42.L, .bool x42.Closed])] F) ?_ ?_
                · rcases iteB_some ho with ⟨hb, hm⟩ | ⟨hb, hm⟩
                  · replace H := H.know 59 hb (by kernel_rfl)
                    refine at_seg [(19, []), (21, []), (22, [])] [(0, vs e_S_boulterlaw08_Op p0), (3, .ptr (some (bx1w1, 0))), (4, .ptr (some (h1.size, 0))), (5, .int .i64 x7), (59, .bool true), (60, .tuple []), (63, .tuple [])] H (noU_all rfl) (fun fr => by kernel_rfl) ?_
                    intro fr H
                    refine at_skip [(0, vs e_S_boulterlaw08_Op p0), (3, .ptr (some (bx1w1, 0))), (4, .ptr (some (h1.size, 0))), (5, .int .i64 x7), (59, .bool true), (61, .tuple []), (63, .tuple [])] H (fun fr => by kernel_rfl) ?_
                    intro fr H
                    refine at_seg [(23, []), (24, [])] [(0, vs e_S_boulterlaw08_Op p0), (3, .ptr (some (bx1w1, 0))), (4, .ptr (some (h1.size, 0))), (5, .int .i64 x7), (65, .bool true)] H (noU_all rfl) (fun fr => by kernel_rfl) ?_
                    intro fr H
                    have e1 := Option.some.inj hm
                    subst e1
                    exact at_nil ⟨H.less _ (fun fr => by kernel_rfl), A⟩
                  · replace H := H.know 59 hb (by kernel_rfl)
                    refine at_seg [(19, []), (21, [])] [(0, vs e_S_boulterlaw08_Op p0), (3, .ptr (some (bx1w1, 0))), (4, .ptr (some (h1.size, 0))), (5, .int .i64 x7), (59, .bool false), (60, .ptr (some (bx1w1, 0))), (62, .ptr (some (h1.size, 1)))] H (noU_all rfl) (fun fr => by kernel_rfl) ?_
                    intro fr H
                    refine at_stepT (v := .bool x42.Closed) (h1 := h11) (tch' := [(22, h1.size), (14, h1.size), (5, h1.size)]) (g.prot) [(0, vs e_S_boulterlaw08_Op p0), (3, .ptr (some (bx1w1, 0))), (4, .ptr (some (h1.size, 0))), (5, .int .i64 x7), (59, .bool false), (60, .ptr (some (bx1w1, 0))), (63, .bool x42.Closed)] H (fun fr => by kernel_rfl) (by kernel_rfl) (fun fr => by kernel_rfl) (fun fr => .of (s_ld (by kernel_rfl) (A.ld1 3 rfl (o := 1) rfl))) ?_
                    intro fr H
                    have A1 := A.prot2 2 (pr := [h1.size]) (.cons 1 rfl (by simp [Ck.ids]) .nil)
                    obtain ⟨x50, hx, hm⟩ := bind_some hm
                    obtain ⟨v1, h13, hr, rfl, A1⟩ := ok_feed_Feed_Closed_sPCH (av := [.ptr (some (bx1w1, 0))]) hx (by kernel_rfl) A1
                    replace A : HH g h13 [.obj bx1w1 (.cells none 2 [.chan (some bx1w1_0), .str x44.now_, .int .i64 x44.size_, .bool x44.closed_]), .obj bx1w1_0 (.chan 64 (lst eS x45)), .obj h4.size (.cells none 2 [vs eS x42.L, .bool x42.Closed]), .obj h1.size (.cells none 2 [vs eS x42.L, .bool x42.Closed])] F := A.glueP (n := 2) A1
                    refine at_stepT (v := .bool x50) (h1 := h13) (tch' := [(22, h1.size), (14, h1.size), (5, h1.size)]) (h1.size :: g.prot) [(0, vs e_S_boulterlaw08_Op p0), (3, .ptr (some (bx1w1, 0))), (4, .ptr (some (h1.size, 0))), (5, .int .i64 x7), (59, .bool false), (61, .bool x50), (63, .bool x42.Closed)] H (fun fr => by kernel_rfl) (by kernel_rfl) (fun fr => by kernel_rfl) (fun fr => Steps.call (by kernel_rfl) hr) ?_
                    intro fr H
                    refine at_seg [(23, []), (24, [])] [(0, vs e_S_boulterlaw08_Op p0), (3, .ptr (some (bx1w1, 0))), (4, .ptr (some (h1.size, 0))), (5, .int .i64 x7), (65, .bool (!(x50 == x42.Closed)))] H (noU_all rfl) (fun fr => by kernel_rfl) ?_
                    intro fr H
                    have e1 := Option.some.inj hm
                    subst e1
                    exact at_nil ⟨H.less _ (fun fr => by kernel_rfl), A⟩
                · clear A
                  intro t fr h12 hK
                  obtain ⟨H, A⟩ := hK
                  refine at_nil ?_
                  show AW cfg 5 g (right (right (right (right (left (left (right (left (left (right (left (right (right (right (right (bodyC cfg.P 5)))))))))))))))) fr h12 _
                  rcases iteB_some hm with ⟨hb, hm⟩ | ⟨hb, hm⟩
                  · replace H := H.know 65 hb (by kernel_rfl)
                    refine aw_true (x := .tmp 65) (by kernel_rfl) H (fun fr => by kernel_rfl) ?_
                    refine aw_seq (by kernel_rfl) ?_
                    refine aw_reg (id := 13) (n := 1) [(0, [])] (by kernel_rfl) (by kernel_rfl) ?_
                    refine at_seg [(0, [])] [(2, .bool false)] H (noU_all rfl) (fun fr => by kernel_rfl) ?_
                    intro fr H
                    refine at_nil ?_
                    show AW cfg 5 g (right (left (right (right (right (right (left (left (right (left (left (right (left (right (right (right (right (bodyC cfg.P 5)))))))))))))))))) fr h12 _
                    refine aw_ret (by kernel_rfl) ?_
                    replace A : HH g h12 [.obj h1.size (.cells none 2 [vs eS x42.L, .bool x42.Closed]), .obj bx1w1 (.cells none 2 [.chan (some bx1w1_0), .str x44.now_, .int .i64 x44.size_, .bool x44.closed_]), .obj bx1w1_0 (.chan 64 (lst eS x45))] F := (HH.dropF (((A.front 1 rfl).front 1 rfl).front 3 rfl) 3)
                    exact Exists.intro _ (And.intro (Option.some.inj hm).symm (fun e => Or.inr (Or.inr (Or.inr (Or.inl ⟨x42.L, x42.Closed, x44.now_, x44.size_, x44.closed_, x45, false, rfl, e, H.less _ (fun fr => by kernel_rfl), A⟩)))))
                  · replace H := H.know 65 hb (by kernel_rfl)
                    refine aw_false (x := .tmp 65) (by kernel_rfl) H (fun fr => by kernel_rfl) ?_
                    refine aw_skip (by kernel_rfl) ?_
                    show AW cfg 5 g (right (right (left (left (right (left (right (right (right (right (bodyC cfg.P 5))))))))))) fr h12 _
                    refine aw_reg (id := 7) (n := 3) [(0, []), (1, []), (2, [])] (by kernel_rfl) (by kernel_rfl) ?_
                    refine at_seg [(0, []), (1, []), (2, [])] [(0, vs e_S_boulterlaw08_Op p0), (3, .ptr (some (bx1w1, 0))), (4, .ptr (some (h1.size, 0))), (5, .int .i64 (IntKind.i64.wrap (x7 + (1 : Int))))] H (noU_all rfl) (fun fr => by kernel_rfl) ?_
                    intro fr H
                    refine at_nil ?_
                    replace A : HH g h12 [.obj h1.size (.cells none 2 [vs eS x42.L, .bool x42.Closed]), .obj bx1w1 (.cells none 2 [.chan (some bx1w1_0), .str x44.now_, .int .i64 x44.size_, .bool x44.closed_]), .obj bx1w1_0 (.chan 64 (lst eS x45))] F := (HH.dropF (((A.front 1 rfl).front 1 rfl).front 3 rfl) 3)
                    exact Exists.intro (.inr (x42.L, x42.Closed, x44.now_, x44.size_, x44.closed_, x45, IntKind.i64.wrap (x7 + (1 : Int)))) (And.intro (Option.some.inj hm).symm (Or.inr (⟨x42.L, x42.Closed, x44.now_, x44.size_, x44.closed_, x45, IntKind.i64.wrap (x7 + (1 : Int)), rfl, H.less _ (fun fr => by kernel_rfl), A⟩)))
        · replace H := H.know 19 hb (by kernel_rfl)
          refine aw_false (x := .tmp 19) (by kernel_rfl) H (fun fr => by kernel_rfl) ?_
          refine aw_exit (i := 0) (by kernel_rfl) ?_
          exact Exists.intro _ (And.intro (Option.some.inj hm).symm (fun e => Or.inl ⟨x2, x3, x4, x5, x6, rfl, e, H.less _ (fun fr => by kernel_rfl), A⟩))
    · unfold M_boulterlaw08_FeedPlays_L0 at hm
      refine aw_seq (by kernel_rfl) ?_
      refine aw_seq (by kernel_rfl) ?_
      refine aw_reg (id := 6) (n := 8) [(0, []), (1, []), (2, []), (3, []), (4, []), (5, []), (6, []), (7, [])] (by kernel_rfl) (by kernel_rfl) ?_
      refine at_seg [(0, []), (1, []), (2, []), (3, []), (4, [])] [(0, vs e_S_boulterlaw08_Op p0), (3, .ptr (some (bx1w1, 0))), (4, .ptr (some (h1.size, 0))), (5, .int .i64 x14), (16, .bool (decide (x14 < (p0.length : Int))))] H (noU_all rfl) (fun fr => by kernel_rfl) ?_
      intro fr H
      refine at_cut [(5, []), (6, []), (7, [])] (fun fr' h' => h4 = h' ∧ Has fr' 67 [(0, vs e_S_boulterlaw08_Op p0), (3, .ptr (some (bx1w1, 0))), (4, .ptr (some (h1.size, 0))), (5, .int .i64 x14), (19, .bool ((decide (x14 < (p0.length : Int))) && (decide (x14 < (100 : Int)))))]) ?_ ?_
      · cases hb : (decide (x14 < (p0.length : Int)) : Bool) with
        | true =>
          replace H := H.know 16 hb (by kernel_rfl)
          refine at_seg [(5, []), (6, []), (7, [])] [(0, vs e_S_boulterlaw08_Op p0), (3, .ptr (some (bx1w1, 0))), (4, .ptr (some (h1.size, 0))), (5, .int .i64 x14), (19, .bool (decide (x14 < (100 : Int))))] H (noU_all rfl) (fun fr => by kernel_rfl) ?_
          intro fr H
          exact at_nil ⟨rfl, by first | exact H.less _ (fun fr => by rfl) | exact H.less _ (fun fr => by rw [hb]; rfl)⟩
        | false =>
          replace H := H.know 16 hb (by kernel_rfl)
          refine at_seg [(5, []), (6, []), (7, [])] [(0, vs e_S_boulterlaw08_Op p0), (3, .ptr (some (bx1w1, 0))), (4, .ptr (some (h1.size, 0))), (5, .int .i64 x14), (19, .bool false)] H (noU_all rfl) (fun fr => by kernel_rfl) ?_
          intro fr H
          exact at_nil ⟨rfl, by first | exact H.less _ (fun fr => by rfl) | exact H.less _ (fun fr => by rw [hb]; rfl)⟩
      · intro t fr h' hK
        obtain ⟨e, H⟩ := hK
        subst e
        refine at_nil ?_
        show AW cfg 5 g (right (left (left (left (right (left (right (right (right (right (bodyC cfg.P 5))))))))))) fr h4 _
        rcases iteB_some hm with ⟨hb, hm⟩ | ⟨hb, hm⟩
        · replace H := H.know 19 hb (by kernel_rfl)
          refine aw_true (x := .tmp 19) (by kernel_rfl) H (fun fr => by kernel_rfl) ?_
          refine aw_skip (by kernel_rfl) ?_
          show AW cfg 5 g (right (left (left (right (left (right (right (right (right (bodyC cfg.P 5)))))))))) fr h4 _
          refine aw_seq (by kernel_rfl) ?_
          refine aw_block (id := 1) (by kernel_rfl) ?_
          refine aw_seq (by kernel_rfl) ?_
          refine aw_seq (by kernel_rfl) ?_
          refine aw_reg (id := 8) (n := 7) [(0, []), (1, []), (2, []), (3, []), (4, []), (5, []), (6, [])] (by kernel_rfl) (by kernel_rfl) ?_
          refine at_seg [(0, []), (1, [])] [(0, vs e_S_boulterlaw08_Op p0), (3, .ptr (some (bx1w1, 0))), (4, .ptr (some (h1.size, 0))), (5, .int .i64 x14), (22, vs e_S_boulterlaw08_Op p0), (23, .int .i64 x14)] H (noU_all rfl) (fun fr => by kernel_rfl) ?_
          intro fr H
          obtain ⟨x51, hx, hm⟩ := bind_some hm
          refine at_step (v := .vptr [.int .i64 x51.Kind, .int .i64 x51.N, .str x51.S]) (h1 := h4) [(0, vs e_S_boulterlaw08_Op p0), (3, .ptr (some (bx1w1, 0))), (4, .ptr (some (h1.size, 0))), (5, .int .i64 x14), (24, .vptr [.int .i64 x51.Kind, .int .i64 x51.N, .str x51.S])] H (fun fr => by kernel_rfl) (fun fr => .of (s_ixV (e := e_S_boulterlaw08_Op) (x := x51) enc_S_boulterlaw08_Op (by decide) (by kernel_rfl) hx)) ?_
          intro fr t H
          refine at_seg [(3, [])] [(0, vs e_S_boulterlaw08_Op p0), (3, .ptr (some (bx1w1, 0))), (4, .ptr (some (h1.size, 0))), (5, .int .i64 x14), (25, .vptr [.str x51.S])] H (noU_all rfl) (fun fr => by kernel_rfl) ?_
          intro fr H
          refine at_step (v := .str x51.S) (h1 := h4) [(0, vs e_S_boulterlaw08_Op p0), (3, .ptr (some (bx1w1, 0))), (4, .ptr (some (h1.size, 0))), (5, .int .i64 x14), (26, .str x51.S)] H (fun fr => by kernel_rfl) (fun fr => .of (s_lv (by kernel_rfl))) ?_
          intro fr t H
          refine at_seg [(5, []), (6, [])] [(0, vs e_S_boulterlaw08_Op p0), (3, .ptr (some (bx1w1, 0))), (4, .ptr (some (h1.size, 0))), (5, .int .i64 x14), (28, .bool (decide ((x51.S.length : Int) > (200 : Int))))] H (noU_all rfl) (fun fr => by kernel_rfl) ?_
          intro fr H
          refine at_nil ?_
          show AW cfg 5 g (right (left (left (left (right (left (left (right (left (right (right (right (right (bodyC cfg.P 5)))))))))))))) fr h4 _
          rcases iteB_some hm with ⟨hb, hm⟩ | ⟨hb, hm⟩
          · replace H := H.know 28 hb (by kernel_rfl)
            refine aw_true (x := .tmp 28) (by kernel_rfl) H (fun fr => by kernel_rfl) ?_
            refine aw_seq (by kernel_rfl) ?_
            refine aw_reg (id := 9) (n := 2) [(0, []), (1, [])] (by kernel_rfl) (by kernel_rfl) ?_
            obtain ⟨x52, hx, hm⟩ := bind_some hm
            refine at_step (v := .bool x52) (h1 := h4) [(29, .bool x52)] H (fun fr => by kernel_rfl) (fun fr => Steps.call (by kernel_rfl) (ok_boulterlaw08_awake hx)) ?_
            intro fr t H
            refine at_seg [(1, [])] [(2, .bool x52)] H (noU_all rfl) (fun fr => by kernel_rfl) ?_
            intro fr H
            refine at_nil ?_
            show AW cfg 5 g (right (left (right (left (left (left (right (left (left (right (left (right (right (right (right (bodyC cfg.P 5)))))))))))))))) fr h4 _
            refine aw_ret (by kernel_rfl) ?_
            exact Exists.intro _ (And.intro (Option.some.inj hm).symm (fun e => Or.inr (Or.inr (Or.inr (Or.inl ⟨x8, x9, x10, x11, x12, x13, x52, rfl, e, H.less _ (fun fr => by kernel_rfl), A⟩)))))
          · replace H := H.know 28 hb (by kernel_rfl)
            refine aw_false (x := .tmp 28) (by kernel_rfl) H (fun fr => by kernel_rfl) ?_
            refine aw_skip (by kernel_rfl) ?_
            show AW cfg 5 g (right (left (left (right (left (left (right (left (right (right (right (right (bodyC cfg.P 5))))))))))))) fr h4 _
            refine aw_seq (by kernel_rfl) ?_
            refine aw_draw (id := 10) (n := 13) (by kernel_rfl) [(0, []), (1, []), (2, []), (3, []), (4, []), (5, []), (10, []), (6, [10]), (7, []), (8, []), (9, []), (11, []), (12, [])] (by kernel_rfl) ?_
            refine at_seg [(0, [])] [(0, vs e_S_boulterlaw08_Op p0), (3, .ptr (some (bx1w1, 0))), (4, .ptr (some (h1.size, 0))), (5, .int .i64 x14), (31, .ptr (some (bx1w1, 0)))] H (noU_all rfl) (fun fr => by kernel_rfl) ?_
            intro fr H
            refine at_stepT (v := .agg [vs eS x8, .bool x9]) (h1 := h4) (tch' := [(1, h1.size)]) (g.prot) [(0, vs e_S_boulterlaw08_Op p0), (3, .ptr (some (bx1w1, 0))), (4, .ptr (some (h1.size, 0))), (5, .int .i64 x14), (31, .ptr (some (bx1w1, 0))), (32, .agg [vs eS x8, .bool x9])] H (fun fr => by kernel_rfl) (by kernel_rfl) (fun fr => by kernel_rfl) (fun fr => .of (s_ldA (by kernel_rfl) (A.ldA 0 rfl (o := 0) (n := 2) ⟨Nat.le_of_ble_eq_true rfl, rfl⟩))) ?_
            intro fr H
            refine at_seg [(2, []), (3, [])] [(0, vs e_S_boulterlaw08_Op p0), (3, .ptr (some (bx1w1, 0))), (4, .ptr (some (h1.size, 0))), (5, .int .i64 x14), (31, .ptr (some (bx1w1, 0))), (32, .agg [vs eS x8, .bool x9]), (33, vs e_S_boulterlaw08_Op p0), (34, .int .i64 x14)] H (noU_all rfl) (fun fr => by kernel_rfl) ?_
            intro fr H
            obtain ⟨x53, hx, hm⟩ := bind_some hm
            refine at_stepT (v := .vptr [.int .i64 x53.Kind, .int .i64 x53.N, .str x53.S]) (h1 := h4) (tch' := [(1, h1.size)]) (g.prot) [(0, vs e_S_boulterlaw08_Op p0), (3, .ptr (some (bx1w1, 0))), (4, .ptr (some (h1.size, 0))), (5, .int .i64 x14), (31, .ptr (some (bx1w1, 0))), (32, .agg [vs eS x8, .bool x9]), (35, .vptr [.int .i64 x53.Kind, .int .i64 x53.N, .str x53.S])] H (fun fr => by kernel_rfl) (by kernel_rfl) (fun fr => by kernel_rfl) (fun fr => .of (s_ixV (e := e_S_boulterlaw08_Op) (x := x53) enc_S_boulterlaw08_Op (by decide) (by kernel_rfl) hx)) ?_
            intro fr H
            refine at_stepT (v := .agg [.int .i64 x53.Kind, .int .i64 x53.N, .str x53.S]) (h1 := h4) (tch' := [(1, h1.size)]) (g.prot) [(0, vs e_S_boulterlaw08_Op p0), (3, .ptr (some (bx1w1, 0))), (4, .ptr (some (h1.size, 0))), (5, .int .i64 x14), (31, .ptr (some (bx1w1, 0))), (32, .agg [vs eS x8, .bool x9]), (36, .agg [.int .i64 x53.Kind, .int .i64 x53.N, .str x53.S])] H (fun fr => by kernel_rfl) (by kernel_rfl) (fun fr => by kernel_rfl) (fun fr => .of (s_lv (by kernel_rfl))) ?_
            intro fr H
            obtain ⟨h14, e3⟩ : ∃ x, x = h4.push (.cells none 2 [.slice none 0, .bool false]) := ⟨_, rfl⟩
            replace A := (A.push _).to e3
            refine at_stepT (v := .ptr (some (h4.size, 0))) (h1 := h14) (tch' := [(10, h4.size), (1, h1.size)]) (g.prot) [(0, vs e_S_boulterlaw08_Op p0), (3, .ptr (some (bx1w1, 0))), (4, .ptr (some (h1.size, 0))), (5, .int .i64 x14), (6, .ptr (some (h4.size, 0))), (31, .ptr (some (bx1w1, 0))), (32, .agg [vs eS x8, .bool x9]), (36, .agg [.int .i64 x53.Kind, .int .i64 x53.N, .str x53.S])] H (fun fr => by kernel_rfl) (by kernel_rfl) (fun fr => by kernel_rfl) (fun fr => .of (s_n' (by kernel_rfl) (congrArg some e3.symm))) ?_
            intro fr H
            replace A : HH g h14 [.obj bx1w1 (.cells none 2 [.chan (some bx1w1_0), .str x10, .int .i64 x11, .bool x12]), .obj bx1w1_0 (.chan 64 (lst eS x13)), .obj h4.size (.cells none 2 [.slice none 0, .bool false]), .obj h1.size (.cells none 2 [vs eS x8, .bool x9])] F := ((A.front 3 rfl).front 3 rfl)
            have A1 := A.prot2 2 (pr := [h4.size]) (.cons 0 rfl (by simp [Ck.ids]) .nil)
            obtain ⟨⟨x54, x55, x56, x57⟩, hx, hm⟩ := bind_some hm
            obtain ⟨v1, h15, hr, rfl, A1⟩ := ok_boulterlaw08_one_sPCHRR (av := [.ptr (some (bx1w1, 0)), .agg [vs eS x8, .bool x9], .agg [.int .i64 x53.Kind, .int .i64 x53.N, .str x53.S]]) hx (by kernel_rfl) A1
            replace A : HH g h15 [.obj bx1w1 (.cells none 2 [.chan (some bx1w1_0), .str x56.now_, .int .i64 x56.size_, .bool x56.closed_]), .obj bx1w1_0 (.chan 64 (lst eS x57)), .obj h4.size (.cells none 2 [.slice none 0, .bool false]), .obj h1.size (.cells none 2 [vs eS x8, .bool x9])] F := A.glueP (n := 2) A1
            refine at_stepT (v := .tuple [.agg [vs eS x54.L, .bool x54.Closed], .bool x55]) (h1 := h15) (tch' := [(10, h4.size), (1, h1.size)]) (h4.size :: g.prot) [(0, vs e_S_boulterlaw08_Op p0), (3, .ptr (some (bx1w1, 0))), (4, .ptr (some (h1.size, 0))), (5, .int .i64 x14), (6, .ptr (some (h4.size, 0))), (37, .tuple [.agg [vs eS x54.L, .bool x54.Closed], .bool x55])] H (fun fr => by kernel_rfl) (by kernel_rfl) (fun fr => by kernel_rfl) (fun fr => Steps.call (by kernel_rfl) hr) ?_
            intro fr H
            refine at_seg [(7, []), (8, []), (9, [])] [(0, vs e_S_boulterlaw08_Op p0), (3, .ptr (some (bx1w1, 0))), (4, .ptr (some (h1.size, 0))), (5, .int .i64 x14), (6, .ptr (some (h4.size, 0))), (38, .agg [vs eS x54.L, .bool x54.Closed]), (39, .bool x55)] H (noU_all rfl) (fun fr => by kernel_rfl) ?_
            intro fr H
            obtain ⟨h16, hx, A1⟩ := A.st 2 rfl (o := 0) (new := [vs eS x54.L, .bool x54.Closed]) (ds := [vs eS x54.L, .bool x54.Closed]) (Nat.le_of_ble_eq_true rfl) rfl rfl
            replace A : HH g h16 [.obj bx1w1 (.cells none 2 [.chan (some bx1w1_0), .str x56.now_, .int .i64 x56.size_, .bool x56.closed_]), .obj bx1w1_0 (.chan 64 (lst eS x57)), .obj h4.size (.cells none 2 [vs eS x54.L, .bool x54.Closed]), .obj h1.size (.cells none 2 [vs eS x8, .bool x9])] F := A1
            refine at_stepT (v := .tuple []) (h1 := h16) (tch' := [(10, h4.size), (1, h1.size)]) (g.prot) [(0, vs e_S_boulterlaw08_Op p0), (3, .ptr (some (bx1w1, 0))), (4, .ptr (some (h1.size, 0))), (5, .int .i64 x14), (6, .ptr (some (h4.size, 0))), (39, .bool x55)] H (fun fr => by kernel_rfl) (by kernel_rfl) (fun fr => by kernel_rfl) (fun fr => .of (s_stG (by kernel_rfl) (stG_st hx rfl))) ?_
            intro fr H
            refine at_seg [(12, [])] [(0, vs e_S_boulterlaw08_Op p0), (3, .ptr (some (bx1w1, 0))), (4, .ptr (some (h1.size, 0))), (5, .int .i64 x14), (6, .ptr (some (h4.size, 0))), (7, .bool x55)] H (noU_all rfl) (fun fr => by kernel_rfl) ?_
            intro fr H
            refine at_nil ?_
            show AW cfg 5 g (right (right (left (left (right (left (left (right (left (right (right (right (right (bodyC cfg.P 5)))))))))))))) fr h16 _
            refine aw_seq (by kernel_rfl) ?_
            refine aw_reg (id := 11) (n := 2) [(0, []), (1, [])] (by kernel_rfl) (by kernel_rfl) ?_
            refine at_step (v := .agg [vs eS x54.L, .bool x54.Closed]) (h1 := h16) [(0, vs e_S_boulterlaw08_Op p0), (3, .ptr (some (bx1w1, 0))), (4, .ptr (some (h1.size, 0))), (5, .int .i64 x14), (7, .bool x55), (40, .agg [vs eS x54.L, .bool x54.Closed])] H (fun fr => by kernel_rfl) (fun fr => .of (s_ldA (by kernel_rfl) (A.ldA 2 rfl (o := 0) (n := 2) ⟨Nat.le_of_ble_eq_true rfl, rfl⟩))) ?_
            intro fr t H
            obtain ⟨h17, hx, A1⟩ := A.st 3 rfl (o := 0) (new := [vs eS x54.L, .bool x54.Closed]) (ds := [vs eS x54.L, .bool x54.Closed]) (Nat.le_of_ble_eq_true rfl) rfl rfl
            replace A : HH g h17 [.obj bx1w1 (.cells none 2 [.chan (some bx1w1_0), .str x56.now_, .int .i64 x56.size_, .bool x56.closed_]), .obj bx1w1_0 (.chan 64 (lst eS x57)), .obj h4.size (.cells none 2 [vs eS x54.L, .bool x54.Closed]), .obj h1.size (.cells none 2 [vs eS x54.L, .bool x54.Closed])] F := A1
            refine at_step (v := .tuple []) (h1 := h17) [(0, vs e_S_boulterlaw08_Op p0), (3, .ptr (some (bx1w1, 0))), (4, .ptr (some (h1.size, 0))), (5, .int .i64 x14), (7, .bool x55)] H (fun fr => by kernel_rfl) (fun fr => .of (s_stG (by kernel_rfl) (stG_st hx rfl))) ?_
            intro fr t H
            refine at_nil ?_
            show AW cfg 5 g (right (right (right (left (left (right (left (left (right (left (right (right (right (right (bodyC cfg.P 5))))))))))))))) fr h17 _
            refine aw_seq (by kernel_rfl) ?_
            refine aw_draw (id := 12) (n := 25) (by kernel_rfl) [(0, []), (1, []), (2, []), (3, []), (5, []), (4, [5]), (6, []), (7, []), (8, []), (9, []), (10, []), (11, []), (13, []), (14, []), (12, [14]), (15, []), (16, []), (17, []), (18, []), (19, []), (21, []), (22, []), (20, [22]), (23, []), (24, [])] (by kernel_rfl) ?_
            refine at_seg [(0, []), (1, []), (2, [])] [(0, vs e_S_boulterlaw08_Op p0), (3, .ptr (some (bx1w1, 0))), (4, .ptr (some (h1.size, 0))), (5, .int .i64 x14), (43, .bool (!x55))] H (noU_all rfl) (fun fr => by kernel_rfl) ?_
            intro fr H
            rcases iteB_some hm with ⟨hb, hm⟩ | ⟨hb, hm⟩
            · replace H := H.know 43 hb (by kernel_rfl)
              refine at_seg [(3, []), (5, [])] [(0, vs e_S_boulterlaw08_Op p0), (3, .ptr (some (bx1w1, 0))), (4, .ptr (some (h1.size, 0))), (5, .int .i64 x14), (43, .bool true), (44, .tuple []), (46, .tuple [])] H (noU_all rfl) (fun fr => by kernel_rfl) ?_
              intro fr H
              refine at_skip [(0, vs e_S_boulterlaw08_Op p0), (3, .ptr (some (bx1w1, 0))), (4, .ptr (some (h1.size, 0))), (5, .int .i64 x14), (43, .bool true), (45, .tuple []), (46, .tuple [])] H (fun fr => by kernel_rfl) ?_
              intro fr H
              refine at_seg [(6, []), (7, []), (8, []), (9, []), (10, []), (11, []), (13, []), (14, [])] [(0, vs e_S_boulterlaw08_Op p0), (3, .ptr (some (bx1w1, 0))), (4, .ptr (some (h1.size, 0))), (5, .int .i64 x14), (51, .bool true), (52, .tuple []), (55, .tuple [])] H (noU_all rfl) (fun fr => by kernel_rfl) ?_
              intro fr H
              refine at_skip [(0, vs e_S_boulterlaw08_Op p0), (3, .ptr (some (bx1w1, 0))), (4, .ptr (some (h1.size, 0))), (5, .int .i64 x14), (51, .bool true), (53, .tuple []), (55, .tuple [])] H (fun fr => by kernel_rfl) ?_
              intro fr H
              refine at_seg [(15, []), (16, []), (17, []), (18, []), (19, []), (21, []), (22, [])] [(0, vs e_S_boulterlaw08_Op p0), (3, .ptr (some (bx1w1, 0))), (4, .ptr (some (h1.size, 0))), (5, .int .i64 x14), (59, .bool true), (60, .tuple []), (63, .tuple [])] H (noU_all rfl) (fun fr => by kernel_rfl) ?_
              intro fr H
              refine at_skip [(0, vs e_S_boulterlaw08_Op p0), (3, .ptr (some (bx1w1, 0))), (4, .ptr (some (h1.size, 0))), (5, .int .i64 x14), (59, .bool true), (61, .tuple []), (63, .tuple [])] H (fun fr => by kernel_rfl) ?_
              intro fr H
              refine at_seg [(23, []), (24, [])] [(0, vs e_S_boulterlaw08_Op p0), (3, .ptr (some (bx1w1, 0))), (4, .ptr (some (h1.size, 0))), (5, .int .i64 x14), (65, .bool true)] H (noU_all rfl) (fun fr => by kernel_rfl) ?_
              intro fr H
              refine at_nil ?_
              show AW cfg 5 g (right (right (right (right (left (left (right (left (left (right (left (right (right (right (right (bodyC cfg.P 5)))))))))))))))) fr h17 _
              refine aw_true (x := .tmp 65) (by kernel_rfl) H (fun fr => by kernel_rfl) ?_
              refine aw_seq (by kernel_rfl) ?_
              refine aw_reg (id := 13) (n := 1) [(0, [])] (by kernel_rfl) (by kernel_rfl) ?_
              refine at_seg [(0, [])] [(2, .bool false)] H (noU_all rfl) (fun fr => by kernel_rfl) ?_
              intro fr H
              refine at_nil ?_
              show AW cfg 5 g (right (left (right (right (right (right (left (left (right (left (left (right (left (right (right (right (right (bodyC cfg.P 5)))))))))))))))))) fr h17 _
              refine aw_ret (by kernel_rfl) ?_
              replace A : HH g h17 [.obj h1.size (.cells none 2 [vs eS x54.L, .bool x54.Closed]), .obj bx1w1 (.cells none 2 [.chan (some bx1w1_0), .str x56.now_, .int .i64 x56.size_, .bool x56.closed_]), .obj bx1w1_0 (.chan 64 (lst eS x57))] F := (HH.dropF (((A.front 1 rfl).front 1 rfl).front 3 rfl) 3)
              exact Exists.intro _ (And.intro (Option.some.inj hm).symm (fun e => Or.inr (Or.inr (Or.inr (Or.inl ⟨x54.L, x54.Closed, x56.now_, x56.size_, x56.closed_, x57, false, rfl, e, H.less _ (fun fr => by kernel_rfl), A⟩)))))
            · replace H := H.know 43 hb (by kernel_rfl)
              refine at_seg [(3, [])] [(0, vs e_S_boulterlaw08_Op p0), (3, .ptr (some (bx1w1, 0))), (4, .ptr (some (h1.size, 0))), (5, .int .i64 x14), (43, .bool false), (44, .ptr (some (bx1w1, 0)))] H (noU_all rfl) (fun fr => by kernel_rfl) ?_
              intro fr H
              refine at_stepT (v := .agg [vs eS x54.L, .bool x54.Closed]) (h1 := h17) (tch' := [(5, h1.size)]) (g.prot) [(0, vs e_S_boulterlaw08_Op p0), (3, .ptr (some (bx1w1, 0))), (4, .ptr (some (h1.size, 0))), (5, .int .i64 x14), (43, .bool false), (44, .ptr (some (bx1w1, 0))), (46, .agg [vs eS x54.L, .bool x54.Closed])] H (fun fr => by kernel_rfl) (by kernel_rfl) (fun fr => by kernel_rfl) (fun fr => .of (s_ldA (by kernel_rfl) (A.ldA 3 rfl (o := 0) (n := 2) ⟨Nat.le_of_ble_eq_true rfl, rfl⟩))) ?_
              intro fr H
              have A1 := A.prot2 2 (pr := [h1.size]) (.cons 1 rfl (by simp [Ck.ids]) .nil)
              obtain ⟨x58, hx, hm⟩ := bind_some hm
              obtain ⟨v1, h18, hr, rfl, A1⟩ := ok_feed_Feed_Len_sPCH (av := [.ptr (some (bx1w1, 0))]) hx (by kernel_rfl) A1
              replace A : HH g h18 [.obj bx1w1 (.cells none 2 [.chan (some bx1w1_0), .str x56.now_, .int .i64 x56.size_, .bool x56.closed_]), .obj bx1w1_0 (.chan 64 (lst eS x57)), .obj h4.size (.cells none 2 [vs eS x54.L, .bool x54.Closed]), .obj h1.size (.cells none 2 [vs eS x54.L, .bool x54.Closed])] F := A.glueP (n := 2) A1
              refine at_stepT (v := .int .i64 x58) (h1 := h18) (tch' := [(5, h1.size)]) (h1.size :: g.prot) [(0, vs e_S_boulterlaw08_Op p0), (3, .ptr (some (bx1w1, 0))), (4, .ptr (some (h1.size, 0))), (5, .int .i64 x14), (43, .bool false), (45, .int .i64 x58), (46, .agg [vs eS x54.L, .bool x54.Closed])] H (fun fr => by kernel_rfl) (by kernel_rfl) (fun fr => by kernel_rfl) (fun fr => Steps.call (by kernel_rfl) hr) ?_
              intro fr H
              have A1 := A.cut 0
              obtain ⟨x59, hx, hm⟩ := bind_some hm
              obtain ⟨v1, h19, hr, rfl, A1⟩ := ok_boulterref08_All (av := [.agg [vs eS x54.L, .bool x54.Closed]]) hx (by kernel_rfl) A1
              replace A : HH g h19 [.obj bx1w1 (.cells none 2 [.chan (some bx1w1_0), .str x56.now_, .int .i64 x56.size_, .bool x56.closed_]), .obj bx1w1_0 (.chan 64 (lst eS x57)), .obj h4.size (.cells none 2 [vs eS x54.L, .bool x54.Closed]), .obj h1.size (.cells none 2 [vs eS x54.L, .bool x54.Closed])] F := A.glue0 (n := 0) A1
              refine at_stepT (v := .str x59) (h1 := h19) (tch' := [(5, h1.size)]) (g.prot) [(0, vs e_S_boulterlaw08_Op p0), (3, .ptr (some (bx1w1, 0))), (4, .ptr (some (h1.size, 0))), (5, .int .i64 x14), (43, .bool false), (45, .int .i64 x58), (47, .str x59)] H (fun fr => by kernel_rfl) (by kernel_rfl) (fun fr => by kernel_rfl) (fun fr => Steps.call (by kernel_rfl) hr) ?_
              intro fr H
              refine at_seg [(7, []), (8, []), (9, []), (10, [])] [(0, vs e_S_boulterlaw08_Op p0), (3, .ptr (some (bx1w1, 0))), (4, .ptr (some (h1.size, 0))), (5, .int .i64 x14), (51, .bool (x58 != (x59.length : Int)))] H (noU_all rfl) (fun fr => by kernel_rfl) ?_
              intro fr H
              rcases iteB_some hm with ⟨hb, hm⟩ | ⟨hb, hm⟩
              · replace H := H.know 51 hb (by kernel_rfl)
                refine at_seg [(11, []), (13, []), (14, [])] [(0, vs e_S_boulterlaw08_Op p0), (3, .ptr (some (bx1w1, 0))), (4, .ptr (some (h1.size, 0))), (5, .int .i64 x14), (51, .bool true), (52, .tuple []), (55, .tuple [])] H (noU_all rfl) (fun fr => by kernel_rfl) ?_
                intro fr H
                refine at_skip [(0, vs e_S_boulterlaw08_Op p0), (3, .ptr (some (bx1w1, 0))), (4, .ptr (some (h1.size, 0))), (5, .int .i64 x14), (51, .bool true), (53, .tuple []), (55, .tuple [])] H (fun fr => by kernel_rfl) ?_
                intro fr H
                refine at_seg [(15, []), (16, []), (17, []), (18, []), (19, []), (21, []), (22, [])] [(0, vs e_S_boulterlaw08_Op p0), (3, .ptr (some (bx1w1, 0))), (4, .ptr (some (h1.size, 0))), (5, .int .i64 x14), (59, .bool true), (60, .tuple []), (63, .tuple [])] H (noU_all rfl) (fun fr => by kernel_rfl) ?_
                intro fr H
                refine at_skip [(0, vs e_S_boulterlaw08_Op p0), (3, .ptr (some (bx1w1, 0))), (4, .ptr (some (h1.size, 0))), (5, .int .i64 x14), (59, .bool true), (61, .tuple []), (63, .tuple [])] H (fun fr => by kernel_rfl) ?_
                intro fr H
                refine at_seg [(23, []), (24, [])] [(0, vs e_S_boulterlaw08_Op p0), (3, .ptr (some (bx1w1, 0))), (4, .ptr (some (h1.size, 0))), (5, .int .i64 x14), (65, .bool true)] H (noU_all rfl) (fun fr => by kernel_rfl) ?_
                intro fr H
                refine at_nil ?_
                show AW cfg 5 g (right (right (right (right (left (left (right (left (left (right (left (right (right (right (right (bodyC cfg.P 5)))))))))))))))) fr h19 _
                refine aw_true (x := .tmp 65) (by kernel_rfl) H (fun fr => by kernel_rfl) ?_
                refine aw_seq (by kernel_rfl) ?_
                refine aw_reg (id := 13) (n := 1) [(0, [])] (by kernel_rfl) (by kernel_rfl) ?_
                refine at_seg [(0, [])] [(2, .bool false)] H (noU_all rfl) (fun fr => by kernel_rfl) ?_
                intro fr H
                refine at_nil ?_
                show AW cfg 5 g (right (left (right (right (right (right (left (left (right (left (left (right (left (right (right (right (right (bodyC cfg.P 5)))))))))))))))))) fr h19 _
                refine aw_ret (by kernel_rfl) ?_
                replace A : HH g h19 [.obj h1.size (.cells none 2 [vs eS x54.L, .bool x54.Closed]), .obj bx1w1 (.cells none 2 [.chan (some bx1w1_0), .str x56.now_, .int .i64 x56.size_, .bool x56.closed_]), .obj bx1w1_0 (.chan 64 (lst eS x57))] F := (HH.dropF (((A.front 1 rfl).front 1 rfl).front 3 rfl) 3)
                exact Exists.intro _ (And.intro (Option.some.inj hm).symm (fun e => Or.inr (Or.inr (Or.inr (Or.inl ⟨x54.L, x54.Closed, x56.now_, x56.size_, x56.closed_, x57, false, rfl, e, H.less _ (fun fr => by kernel_rfl), A⟩)))))
              · replace H := H.know 51 hb (by kernel_rfl)
                refine at_seg [(11, []), (13, [])] [(0, vs e_S_boulterlaw08_Op p0), (3, .ptr (some (bx1w1, 0))), (4, .ptr (some (h1.size, 0))), (5, .int .i64 x14), (51, .bool false), (52, .ptr (some (bx1w1, 0))), (54, .ptr (some (h1.size, 0)))] H (noU_all rfl) (fun fr => by kernel_rfl) ?_
                intro fr H
                refine at_stepT (v := vs eS x54.L) (h1 := h19) (tch' := [(14, h1.size), (5, h1.size)]) (g.prot) [(0, vs e_S_boulterlaw08_Op p0), (3, .ptr (some (bx1w1, 0))), (4, .ptr (some (h1.size, 0))), (5, .int .i64 x14), (51, .bool false), (52, .ptr (some (bx1w1, 0))), (55, vs eS x54.L)] H (fun fr => by kernel_rfl) (by kernel_rfl) (fun fr => by kernel_rfl) (fun fr => .of (s_ld (by kernel_rfl) (A.ld1 3 rfl (o := 0) rfl))) ?_
                intro fr H
                have A1 := A.prot2 2 (pr := [h1.size]) (.cons 1 rfl (by simp [Ck.ids]) .nil)
                obtain ⟨x60, hx, hm⟩ := bind_some hm
                obtain ⟨v1, h20, hr, rfl, A1⟩ := ok_feed_Feed_Chunks_sPCH (av := [.ptr (some (bx1w1, 0))]) hx (by kernel_rfl) A1
                replace A : HH g h20 [.obj bx1w1 (.cells none 2 [.chan (some bx1w1_0), .str x56.now_, .int .i64 x56.size_, .bool x56.closed_]), .obj bx1w1_0 (.chan 64 (lst eS x57)), .obj h4.size (.cells none 2 [vs eS x54.L, .bool x54.Closed]), .obj h1.size (.cells none 2 [vs eS x54.L, .bool x54.Closed])] F := A.glueP (n := 2) A1
                refine at_stepT (v := .int .i64 x60) (h1 := h20) (tch' := [(14, h1.size), (5, h1.size)]) (h1.size :: g.prot) [(0, vs e_S_boulterlaw08_Op p0), (3, .ptr (some (bx1w1, 0))), (4, .ptr (some (h1.size, 0))), (5, .int .i64 x14), (51, .bool false), (53, .int .i64 x60), (55, vs eS x54.L)] H (fun fr => by kernel_rfl) (by kernel_rfl) (fun fr => by kernel_rfl) (fun fr => Steps.call (by kernel_rfl) hr) ?_
                intro fr H
                refine at_seg [(15, []), (16, []), (17, []), (18, [])] [(0, vs e_S_boulterlaw08_Op p0), (3, .ptr (some (bx1w1, 0))), (4, .ptr (some (h1.size, 0))), (5, .int .i64 x14), (59, .bool (x60 != (x54.L.length : Int)))] H (noU_all rfl) (fun fr => by kernel_rfl) ?_
                intro fr H
                obtain ⟨x61, ho, hm⟩ := bind_some hm
                refine at_cut [(19, []), (21, []), (22, []), (20, [22]), (23, []), (24, [])] (fun fr' h' => Has fr' 67 [(0, vs e_S_boulterlaw08_Op p0), (3, .ptr (some (bx1w1, 0))), (4, .ptr (some (h1.size, 0))), (5, .int .i64 x14), (65, .bool x61)] ∧ HH g h' [.obj bx1w1 (.cells none 2 [.chan (some bx1w1_0), .str x56.now_, .int .i64 x56.size_, .bool x56.closed_]), .obj bx1w1_0 (.chan 64 (lst eS x57)), .obj h4.size (.cells none 2 [vs eS x54.L, .bool x54.Closed]), .obj h1.size (.cells none 2 [vs eS x54.L, .bool x54.Closed])] F) ?_ ?_
                · rcases iteB_some ho with ⟨hb, hm⟩ | ⟨hb, hm⟩
                  · replace H := H.know 59 hb (by kernel_rfl)
                    refine at_seg [(19, []), (21, []), (22, [])] [(0, vs e_S_boulterlaw08_Op p0), (3, .ptr (some (bx1w1, 0))), (4, .ptr (some (h1.size, 0))), (5, .int .i64 x14), (59, .bool true), (60, .tuple []), (63, .tuple [])] H (noU_all rfl) (fun fr => by kernel_rfl) ?_
                    intro fr H
                    refine at_skip [(0, vs e_S_boulterlaw08_Op p0), (3, .ptr (some (bx1w1, 0))), (4, .ptr (some (h1.size, 0))), (5, .int .i64 x14), (59, .bool true), (61, .tuple []), (63, .tuple [])] H (fun fr => by kernel_rfl) ?_
                    intro fr H
                    refine at_seg [(23, []), (24, [])] [(0, vs e_S_boulterlaw08_Op p0), (3, .ptr (some (bx1w1, 0))), (4, .ptr (some (h1.size, 0))), (5, .int .i64 x14), (65, .bool true)] H (noU_all rfl) (fun fr => by kernel_rfl) ?_
                    intro fr H
                    have e1 := Option.some.inj hm
                    subst e1
                    exact at_nil ⟨H.less _ (fun fr => by kernel_rfl), A⟩
                  · replace H := H.know 59 hb (by kernel_rfl)
                    refine at_seg [(19, []), (21, [])] [(0, vs e_S_boulterlaw08_Op p0), (3, .ptr (some (bx1w1, 0))), (4, .ptr (some (h1.size, 0))), (5, .int .i64 x14), (59, .bool false), (60, .ptr (some (bx1w1, 0))), (62, .ptr (some (h1.size, 1)))] H (noU_all rfl) (fun fr => by kernel_rfl) ?_
                    intro fr H
                    refine at_stepT (v := .bool x54.Closed) (h1 := h20) (tch' := [(22, h1.size), (14, h1.size), (5, h1.size)]) (g.prot) [(0, vs e_S_boulterlaw08_Op p0), (3, .ptr (some (bx1w1, 0))), (4, .ptr (some (h1.size, 0))), (5, .int .i64 x14), (59, .bool false), (60, .ptr (some (bx1w1, 0))), (63, .bool x54.Closed)] H (fun fr => by kernel_rfl) (by kernel_rfl) (fun fr => by kernel_rfl) (fun fr => .of (s_ld (by kernel_rfl) (A.ld1 3 rfl (o := 1) rfl))) ?_
                    intro fr H
                    have A1 := A.prot2 2 (pr := [h1.size]) (.cons 1 rfl (by simp [Ck.ids]) .nil)
                    obtain ⟨x62, hx, hm⟩ := bind_some hm
                    obtain ⟨v1, h22, hr, rfl, A1⟩ := ok_feed_Feed_Closed_sPCH (av := [.ptr (some (bx1w1, 0))]) hx (by kernel_rfl) A1
                    replace A : HH g h22 [.obj bx1w1 (.cells none 2 [.chan (some bx1w1_0), .str x56.now_, .int .i64 x56.size_, .bool x56.closed_]), .obj bx1w1_0 (.chan 64 (lst eS x57)), .obj h4.size (.cells none 2 [vs eS x54.L, .bool x54.Closed]), .obj h1.size (.cells none 2 [vs eS x54.L, .bool x54.Closed])] F := A.glueP (n := 2) A1
                    refine at_stepT (v := .bool x62) (h1 := h22) (tch' := [(22, h1.size), (14, h1.size), (5, h1.size)]) (h1.size :: g.prot) [(0, vs e_S_boulterlaw08_Op p0), (3, .ptr (some (bx1w1, 0))), (4, .ptr (some (h1.size, 0))), (5, .int .i64 x14), (59, .bool false), (61, .bool x62), (63, .bool x54.Closed)] H (fun fr => by kernel_rfl) (by kernel_rfl) (fun fr => by kernel_rfl) (fun fr => Steps.call (by kernel_rfl) hr) ?_
                    intro fr H
                    refine at_seg [(23, []), (24, [])] [(0, vs e_S_boulterlaw08_Op p0), (3, .ptr (some (bx1w1, 0))), (4, .ptr (some (h1.size, 0))), (5, .int .i64 x14), (65, .bool (!(x62 == x54.Closed)))] H (noU_all rfl) (fun fr => by kernel_rfl) ?_
                    intro fr H
                    have e1 := Option.some.inj hm
                    subst e1
                    exact at_nil ⟨H.less _ (fun fr => by kernel_rfl), A⟩
                · clear A
                  intro t fr h21 hK
                  obtain ⟨H, A⟩ := hK
                  refine at_nil ?_
                  show AW cfg 5 g (right (right (right (right (left (left (right (left (left (right (left (right (right (right (right (bodyC cfg.P 5)))))))))))))))) fr h21 _
                  rcases iteB_some hm with ⟨hb, hm⟩ | ⟨hb, hm⟩
                  · replace H := H.know 65 hb (by kernel_rfl)
                    refine aw_true (x := .tmp 65) (by kernel_rfl) H (fun fr => by kernel_rfl) ?_
                    refine aw_seq (by kernel_rfl) ?_
                    refine aw_reg (id := 13) (n := 1) [(0, [])] (by kernel_rfl) (by kernel_rfl) ?_
                    refine at_seg [(0, [])] [(2, .bool false)] H (noU_all rfl) (fun fr => by kernel_rfl) ?_
                    intro fr H
                    refine at_nil ?_
                    show AW cfg 5 g (right (left (right (right (right (right (left (left (right (left (left (right (left (right (right (right (right (bodyC cfg.P 5)))))))))))))))))) fr h21 _
                    refine aw_ret (by kernel_rfl) ?_
                    replace A : HH g h21 [.obj h1.size (.cells none 2 [vs eS x54.L, .bool x54.Closed]), .obj bx1w1 (.cells none 2 [.chan (some bx1w1_0), .str x56.now_, .int .i64 x56.size_, .bool x56.closed_]), .obj bx1w1_0 (.chan 64 (lst eS x57))] F := (HH.dropF (((A.front 1 rfl).front 1 rfl).front 3 rfl) 3)
                    exact Exists.intro _ (And.intro (Option.some.inj hm).symm (fun e => Or.inr (Or.inr (Or.inr (Or.inl ⟨x54.L, x54.Closed, x56.now_, x56.size_, x56.closed_, x57, false, rfl, e, H.less _ (fun fr => by kernel_rfl), A⟩)))))
                  · replace H := H.know 65 hb (by kernel_rfl)
                    refine aw_false (x := .tmp 65) (by kernel_rfl) H (fun fr => by kernel_rfl) ?_
                    refine aw_skip (by kernel_rfl) ?_
                    show AW cfg 5 g (right (right (left (left (right (left (right (right (right (right (bodyC cfg.P 5))))))))))) fr h21 _
                    refine aw_reg (id := 7) (n := 3) [(0, []), (1, []), (2, [])] (by kernel_rfl) (by kernel_rfl) ?_
                    refine at_seg [(0, []), (1, []), (2, [])] [(0, vs e_S_boulterlaw08_Op p0), (3, .ptr (some (bx1w1, 0))), (4, .ptr (some (h1.size, 0))), (5, .int .i64 (IntKind.i64.wrap (x14 + (1 : Int))))] H (noU_all rfl) (fun fr => by kernel_rfl) ?_
                    intro fr H
                    refine at_nil ?_
                    replace A : HH g h21 [.obj h1.size (.cells none 2 [vs eS x54.L, .bool x54.Closed]), .obj bx1w1 (.cells none 2 [.chan (some bx1w1_0), .str x56.now_, .int .i64 x56.size_, .bool x56.closed_]), .obj bx1w1_0 (.chan 64 (lst eS x57))] F := (HH.dropF (((A.front 1 rfl).front 1 rfl).front 3 rfl) 3)
                    exact Exists.intro (.inr (x54.L, x54.Closed, x56.now_, x56.size_, x56.closed_, x57, IntKind.i64.wrap (x14 + (1 : Int)))) (And.intro (Option.some.inj hm).symm (Or.inr (⟨x54.L, x54.Closed, x56.now_, x56.size_, x56.closed_, x57, IntKind.i64.wrap (x14 + (1 : Int)), rfl, H.less _ (fun fr => by kernel_rfl), A⟩)))
        · replace H := H.know 19 hb (by kernel_rfl)
          refine aw_false (x := .tmp 19) (by kernel_rfl) H (fun fr => by kernel_rfl) ?_
          refine aw_exit (i := 0) (by kernel_rfl) ?_
          exact Exists.intro _ (And.intro (Option.some.inj hm).symm (fun e => Or.inr (Or.inl ⟨x8, x9, x10, x11, x12, x13, rfl, e, H.less _ (fun fr => by kernel_rfl), A⟩)))
  · clear ho
    clear A
    intro e fr h23 hQ
    rcases hQ with ⟨x15, x16, x17, x18, x19, rfl, rfl, H, A⟩ | ⟨x20, x21, x22, x23, x24, x25, rfl, rfl, H, A⟩ | ⟨x26, x27, x28, x29, x30, x31, rfl, rfl, H, A⟩ | ⟨x32, x33, x34, x35, x36, x37, x38, rfl, rfl, H, A⟩ | hF
    · skip
      show AW cfg 5 g (right (right (right (right (right (bodyC cfg.P 5)))))) fr h23 _
      refine aw_seq (by kernel_rfl) ?_
      refine aw_reg (id := 14) (n := 2) [(0, []), (1, [])] (by kernel_rfl) (by kernel_rfl) ?_
      obtain ⟨x63, hx, hm⟩ := bind_some hm
      refine at_step (v := .bool x63) (h1 := h23) [(66, .bool x63)] H (fun fr => by kernel_rfl) (fun fr => Steps.call (by kernel_rfl) (ok_boulterlaw08_awake hx)) ?_
      intro fr t H
      refine at_seg [(1, [])] [(2, .bool x63)] H (noU_all rfl) (fun fr => by kernel_rfl) ?_
      intro fr H
      refine at_nil ?_
      show AW cfg 5 g (right (right (right (right (right (right (bodyC cfg.P 5))))))) fr h23 _
      refine aw_ret (by kernel_rfl) ?_
      have e1 := Option.some.inj hm
      subst e1
      refine ⟨.inl rfl, .bool x63, resH H (fun fr => by kernel_rfl), ?_⟩
      replace A : HH g h23 [] F := (HH.dropF A 0)
      exact ⟨rfl, A⟩
    · skip
      show AW cfg 5 g (right (right (right (right (right (bodyC cfg.P 5)))))) fr h23 _
      refine aw_seq (by kernel_rfl) ?_
      refine aw_reg (id := 14) (n := 2) [(0, []), (1, [])] (by kernel_rfl) (by kernel_rfl) ?_
      obtain ⟨x64, hx, hm⟩ := bind_some hm
      refine at_step (v := .bool x64) (h1 := h23) [(66, .bool x64)] H (fun fr => by kernel_rfl) (fun fr => Steps.call (by kernel_rfl) (ok_boulterlaw08_awake hx)) ?_
      intro fr t H
      refine at_seg [(1, [])] [(2, .bool x64)] H (noU_all rfl) (fun fr => by kernel_rfl) ?_
      intro fr H
      refine at_nil ?_
      show AW cfg 5 g (right (right (right (right (right (right (bodyC cfg.P 5))))))) fr h23 _
      refine aw_ret (by kernel_rfl) ?_
      have e1 := Option.some.inj hm
      subst e1
      refine ⟨.inl rfl, .bool x64, resH H (fun fr => by kernel_rfl), ?_⟩
      replace A : HH g h23 [] F := (HH.dropF A 0)
      exact ⟨rfl, A⟩
    · skip
      have e1 := Option.some.inj hm
      subst e1
      refine ⟨.inl rfl, .bool x31, resH H (fun fr => by kernel_rfl), ?_⟩
      replace A : HH g h23 [] F := (HH.dropF A 0)
      exact ⟨rfl, A⟩
    · skip
      have e1 := Option.some.inj hm
      subst e1
      refine ⟨.inl rfl, .bool x38, resH H (fun fr => by kernel_rfl), ?_⟩
      replace A : HH g h23 [] F := (HH.dropF A 0)
      exact ⟨rfl, A⟩
    · exact hF.elim
end Go.Av.L
