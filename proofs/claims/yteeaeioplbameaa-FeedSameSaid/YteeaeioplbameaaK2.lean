/-
  Models of functions, and that the abstract run tells them. Written by lift2.py.
-/
import Derived.Test.YteeaeioplbameaaKCfg
import Derived.Test.YteeaeioplbameaaK0
import Derived.Test.YteeaeioplbameaaK1
namespace Go.Av.L
open Go.Av Go.Lib
set_option maxRecDepth 10000
set_option linter.unusedVariables false
set_option linter.unusedSimpArgs false
/-! ### (*boulter/feed.Feed).Close -/
noncomputable def M_feed_Feed_Close_sPCH (p0 : S_feed_Feed) : Option (Int × S_feed_Feed) :=
 iteB p0.closed_ (some ((10 : Int), p0)) (some ((0 : Int), (⟨p0.wait_, p0.now_, p0.size_, true⟩ : S_feed_Feed)))
theorem ok_feed_Feed_Close_sPCH {g : Gd} {h : AHeap} {F : List Ck} {p0 : S_feed_Feed} {bp0 : Nat} {bp0_0 : Nat} {q0 : Int} {u0 : S_feed_Feed} {av : List AVal} (hm : M_feed_Feed_Close_sPCH p0 = some (q0, u0)) (hc : canL (cfg.still 19) av = [.ptr (some (bp0, 0))]) (A : HH g h [.obj bp0 (.cells none 2 [.chan (some bp0_0), .str p0.now_, .int .i64 p0.size_, .bool p0.closed_]), .obj bp0_0 (.chan 64 (lst eS p0.wait_))] F) : ∃ v h', Runs cfg g h 19 av v h' ∧ v = .int .i64 q0 ∧ HH g h' [.obj bp0 (.cells none 2 [.chan (some bp0_0), .str u0.now_, .int .i64 u0.size_, .bool u0.closed_]), .obj bp0_0 (.chan 64 (lst eS p0.wait_))] F := by
  refine runsQ1 (n := 10) (rs := [.tmp 2]) (by kernel_rfl) hc (by kernel_rfl) ?_
  clear hc
  unfold M_feed_Feed_Close_sPCH at hm
  refine start (n := 10) [(0, .ptr (some (bp0, 0)))] (by kernel_rfl) (by kernel_rfl) ?_
  intro fr H
  refine aw_seq (by kernel_rfl) ?_
  refine aw_reg (id := 0) (n := 1) [(0, [])] (by kernel_rfl) (by kernel_rfl) ?_
  refine at_seg [(0, [])] [(0, .ptr (some (bp0, 0)))] H (noU_all rfl) (fun fr => by kernel_rfl) ?_
  intro fr H
  refine at_nil ?_
  show AW cfg 19 g (right (bodyC cfg.P 19)) fr h _
  refine aw_seq (by kernel_rfl) ?_
  refine aw_seq (by kernel_rfl) ?_
  refine aw_reg (id := 1) (n := 4) [(0, []), (1, []), (2, []), (3, [])] (by kernel_rfl) (by kernel_rfl) ?_
  refine at_seg [(0, []), (1, []), (2, [])] [(0, .ptr (some (bp0, 0))), (5, .ptr (some (bp0, 3)))] H (noU_all rfl) (fun fr => by kernel_rfl) ?_
  intro fr H
  refine at_step (v := .bool p0.closed_) (h1 := h) [(0, .ptr (some (bp0, 0))), (6, .bool p0.closed_)] H (fun fr => by kernel_rfl) (fun fr => .of (s_ld (by kernel_rfl) (A.ld1 0 rfl (o := 3) rfl))) ?_
  intro fr t H
  refine at_nil ?_
  show AW cfg 19 g (right (left (right (bodyC cfg.P 19)))) fr h _
  rcases iteB_some hm with ⟨hb, hm⟩ | ⟨hb, hm⟩
  · replace H := H.know 6 hb (by kernel_rfl)
    refine aw_true (x := .tmp 6) (by kernel_rfl) H (fun fr => by kernel_rfl) ?_
    refine aw_seq (by kernel_rfl) ?_
    refine aw_reg (id := 2) (n := 1) [(0, [])] (by kernel_rfl) (by kernel_rfl) ?_
    refine at_seg [(0, [])] [(2, .int .i64 (10 : Int))] H (noU_all rfl) (fun fr => by kernel_rfl) ?_
    intro fr H
    refine at_nil ?_
    show AW cfg 19 g (right (left (right (left (right (bodyC cfg.P 19)))))) fr h _
    refine aw_ret (by kernel_rfl) ?_
    have e0 := Option.some.inj hm
    obtain ⟨y0, z0⟩ := Prod.mk.inj e0
    subst y0
    subst z0
    refine ⟨.inl rfl, .int .i64 (10 : Int), resH H (fun fr => by kernel_rfl), ?_⟩
    exact ⟨rfl, A⟩
  · replace H := H.know 6 hb (by kernel_rfl)
    refine aw_false (x := .tmp 6) (by kernel_rfl) H (fun fr => by kernel_rfl) ?_
    refine aw_skip (by kernel_rfl) ?_
    show AW cfg 19 g (right (right (bodyC cfg.P 19))) fr h _
    refine aw_seq (by kernel_rfl) ?_
    refine aw_reg (id := 3) (n := 4) [(0, []), (1, []), (2, []), (3, [])] (by kernel_rfl) (by kernel_rfl) ?_
    refine at_seg [(0, []), (1, []), (2, [])] [(9, .ptr (some (bp0, 3)))] H (noU_all rfl) (fun fr => by kernel_rfl) ?_
    intro fr H
    obtain ⟨h1, hx, A1⟩ := A.st 0 rfl (o := 3) (new := [.bool true]) (ds := [.chan (some bp0_0), .str p0.now_, .int .i64 p0.size_, .bool true]) (Nat.le_of_ble_eq_true rfl) rfl rfl
    replace A : HH g h1 [.obj bp0 (.cells none 2 [.chan (some bp0_0), .str p0.now_, .int .i64 p0.size_, .bool true]), .obj bp0_0 (.chan 64 (lst eS p0.wait_))] F := A1
    refine at_step (v := .tuple []) (h1 := h1) [] H (fun fr => by kernel_rfl) (fun fr => .of (s_st (by kernel_rfl) rfl hx)) ?_
    intro fr t H
    refine at_nil ?_
    show AW cfg 19 g (right (right (right (bodyC cfg.P 19)))) fr h1 _
    refine aw_seq (by kernel_rfl) ?_
    refine aw_reg (id := 4) (n := 1) [(0, [])] (by kernel_rfl) (by kernel_rfl) ?_
    refine at_seg [(0, [])] [(2, .int .i64 (0 : Int))] H (noU_all rfl) (fun fr => by kernel_rfl) ?_
    intro fr H
    refine at_nil ?_
    show AW cfg 19 g (right (right (right (right (bodyC cfg.P 19))))) fr h1 _
    refine aw_ret (by kernel_rfl) ?_
    have e0 := Option.some.inj hm
    obtain ⟨y0, z0⟩ := Prod.mk.inj e0
    subst y0
    subst z0
    refine ⟨.inl rfl, .int .i64 (0 : Int), resH H (fun fr => by kernel_rfl), ?_⟩
    exact ⟨rfl, A⟩
/-! ### boulter/boulterlaw08.one -/
noncomputable def M_boulterlaw08_one_sPCHRR (p0 : S_feed_Feed) (p1 : S_boulterref08_State) (p2 : S_boulterlaw08_Op) : Option (S_boulterref08_State × Bool × S_feed_Feed × (List (List UInt8))) :=
 iteB (p2.Kind == (1 : Int)) ((M_boulterref08_Put p1 p2.S).bind fun (x1, x2) => need (decide (p2.S.length ≤ 1099511627776)) <| (M_feed_Feed_Put_sPCHO p0 p2.S).bind fun (x3, x4, x5) => some (x1, x3 == x2, (⟨x5, x4.now_, x4.size_, x4.closed_⟩ : S_feed_Feed), x5)) (iteB (p2.Kind == (2 : Int)) ((M_feed_Feed_Take_sPCHI p0 p2.N).bind fun (x6, x7, x8, x9) => (M_boulterref08_All p1).bind fun x10 => iteB ((decide (p2.N < (0 : Int))) || (decide (p2.N > (x10.length : Int)))) (some (p1, (!x7) && (x6 == ([] : List UInt8)), (⟨x9, x8.now_, x8.size_, x8.closed_⟩ : S_feed_Feed), x9)) ((M_boulterref08_Drop p1 p2.N).bind fun x11 => iteB x7 ((subS x10 none (some p2.N)).bind fun x12 => some (x11, x6 == x12, (⟨x9, x8.now_, x8.size_, x8.closed_⟩ : S_feed_Feed), x9)) (some (x11, false, (⟨x9, x8.now_, x8.size_, x8.closed_⟩ : S_feed_Feed), x9)))) (iteB (p2.Kind == (3 : Int)) ((M_boulterref08_All p1).bind fun x13 => (M_boulterref08_Drop p1 (mx (mn p2.N (x13.length : Int)) (0 : Int))).bind fun x14 => (M_feed_Feed_Some_sPCHI p0 p2.N).bind fun (x15, x16, x17) => (subS x13 none (some (mx (mn p2.N (x13.length : Int)) (0 : Int)))).bind fun x18 => some (x14, x15 == x18, (⟨x17, x16.now_, x16.size_, x16.closed_⟩ : S_feed_Feed), x17)) (iteB (p2.Kind == (4 : Int)) ((M_feed_Feed_Close_sPCH p0).bind fun (x19, x20) => iteB p1.Closed (some (p1, x19 == (10 : Int), (⟨p0.wait_, x20.now_, x20.size_, x20.closed_⟩ : S_feed_Feed), p0.wait_)) (some ((⟨p1.L, true⟩ : S_boulterref08_State), x19 == (0 : Int), (⟨p0.wait_, x20.now_, x20.size_, x20.closed_⟩ : S_feed_Feed), p0.wait_))) (some (p1, true, p0, p0.wait_)))))
theorem ok_boulterlaw08_one_sPCHRR {g : Gd} {h : AHeap} {F : List Ck} {p0 : S_feed_Feed} {p1 : S_boulterref08_State} {p2 : S_boulterlaw08_Op} {bp0 : Nat} {bp0_0 : Nat} {q0 : S_boulterref08_State} {q1 : Bool} {u0 : S_feed_Feed} {u1 : List (List UInt8)} {av : List AVal} (hm : M_boulterlaw08_one_sPCHRR p0 p1 p2 = some (q0, q1, u0, u1)) (hc : canL (cfg.still 12) av = [.ptr (some (bp0, 0)), .agg [vs eS p1.L, .bool p1.Closed], .agg [.int .i64 p2.Kind, .int .i64 p2.N, .str p2.S]]) (A : HH g h [.obj bp0 (.cells none 2 [.chan (some bp0_0), .str p0.now_, .int .i64 p0.size_, .bool p0.closed_]), .obj bp0_0 (.chan 64 (lst eS p0.wait_))] F) : ∃ v h', Runs cfg g h 12 av v h' ∧ v = .tuple [.agg [vs eS q0.L, .bool q0.Closed], .bool q1] ∧ HH g h' [.obj bp0 (.cells none 2 [.chan (some bp0_0), .str u0.now_, .int .i64 u0.size_, .bool u0.closed_]), .obj bp0_0 (.chan 64 (lst eS u1))] F := by
  refine runsQ1 (n := 111) (rs := [.cell 6 35, .tmp 7]) (by kernel_rfl) hc (by kernel_rfl) ?_
  clear hc
  unfold M_boulterlaw08_one_sPCHRR at hm
  refine start (n := 111) [(0, .ptr (some (bp0, 0))), (1, .agg [vs eS p1.L, .bool p1.Closed]), (2, .agg [.int .i64 p2.Kind, .int .i64 p2.N, .str p2.S])] (by kernel_rfl) (by kernel_rfl) ?_
  intro fr H
  refine aw_seq (by kernel_rfl) ?_
  refine aw_reg (id := 0) (n := 4) [(0, []), (1, []), (2, []), (3, [])] (by kernel_rfl) (by kernel_rfl) ?_
  obtain ⟨h1, e1⟩ : ∃ x, x = h.push (.cells none 2 [vs eS p1.L, .bool p1.Closed]) := ⟨_, rfl⟩
  replace A := (A.push _).to e1
  refine at_step (v := .ptr (some (h.size, 0))) (h1 := h1) [(0, .ptr (some (bp0, 0))), (2, .agg [.int .i64 p2.Kind, .int .i64 p2.N, .str p2.S]), (4, .ptr (some (h.size, 0)))] H (fun fr => by kernel_rfl) (fun fr => .of (s_n' (by kernel_rfl) (congrArg some e1.symm))) ?_
  intro fr t H
  obtain ⟨h2, e2⟩ : ∃ x, x = h1.push (.cells none 2 [.int .i64 p2.Kind, .int .i64 p2.N, .str p2.S]) := ⟨_, rfl⟩
  replace A := (A.push _).to e2
  refine at_step (v := .ptr (some (h1.size, 0))) (h1 := h2) [(0, .ptr (some (bp0, 0))), (4, .ptr (some (h.size, 0))), (5, .ptr (some (h1.size, 0)))] H (fun fr => by kernel_rfl) (fun fr => .of (s_n' (by kernel_rfl) (congrArg some e2.symm))) ?_
  intro fr t H
  obtain ⟨h3, e3⟩ : ∃ x, x = h2.push (.cells none 2 [.slice none 0, .bool false]) := ⟨_, rfl⟩
  replace A := (A.push _).to e3
  refine at_step (v := .ptr (some (h2.size, 0))) (h1 := h3) [(0, .ptr (some (bp0, 0))), (4, .ptr (some (h.size, 0))), (5, .ptr (some (h1.size, 0))), (6, .ptr (some (h2.size, 0)))] H (fun fr => by kernel_rfl) (fun fr => .of (s_n' (by kernel_rfl) (congrArg some e3.symm))) ?_
  intro fr t H
  refine at_seg [(3, [])] [(0, .ptr (some (bp0, 0))), (4, .ptr (some (h.size, 0))), (5, .ptr (some (h1.size, 0))), (6, .ptr (some (h2.size, 0)))] H (noU_all rfl) (fun fr => by kernel_rfl) ?_
  intro fr H
  refine at_nil ?_
  show AW cfg 12 g (right (bodyC cfg.P 12)) fr h3 _
  refine aw_seq (by kernel_rfl) ?_
  refine aw_seq (by kernel_rfl) ?_
  refine aw_reg (id := 1) (n := 2) [(0, []), (1, [])] (by kernel_rfl) (by kernel_rfl) ?_
  refine at_seg [(0, [])] [(0, .ptr (some (bp0, 0))), (4, .ptr (some (h.size, 0))), (5, .ptr (some (h1.size, 0))), (6, .ptr (some (h2.size, 0))), (16, .ptr (some (h1.size, 0)))] H (noU_all rfl) (fun fr => by kernel_rfl) ?_
  intro fr H
  refine at_step (v := .int .i64 p2.Kind) (h1 := h3) [(0, .ptr (some (bp0, 0))), (4, .ptr (some (h.size, 0))), (5, .ptr (some (h1.size, 0))), (6, .ptr (some (h2.size, 0))), (17, .int .i64 p2.Kind)] H (fun fr => by kernel_rfl) (fun fr => .of (s_ld (by kernel_rfl) (A.ld1 1 rfl (o := 0) rfl))) ?_
  intro fr t H
  refine at_nil ?_
  show AW cfg 12 g (right (left (right (bodyC cfg.P 12)))) fr h3 _
  refine aw_block (id := 0) (by kernel_rfl) ?_
  refine aw_seq (by kernel_rfl) ?_
  refine aw_reg (id := 2) (n := 2) [(0, []), (1, [])] (by kernel_rfl) (by kernel_rfl) ?_
  refine at_seg [(0, []), (1, [])] [(0, .ptr (some (bp0, 0))), (4, .ptr (some (h.size, 0))), (5, .ptr (some (h1.size, 0))), (6, .ptr (some (h2.size, 0))), (17, .int .i64 p2.Kind), (18, .bool (p2.Kind == (1 : Int)))] H (noU_all rfl) (fun fr => by kernel_rfl) ?_
  intro fr H
  refine at_nil ?_
  show AW cfg 12 g (right (left (right (left (right (bodyC cfg.P 12)))))) fr h3 _
  rcases iteB_some hm with ⟨hb, hm⟩ | ⟨hb, hm⟩
  · replace H := H.know 18 hb (by kernel_rfl)
    refine aw_true (x := .tmp 18) (by kernel_rfl) H (fun fr => by kernel_rfl) ?_
    refine aw_seq (by kernel_rfl) ?_
    refine aw_reg (id := 3) (n := 10) [(0, []), (1, []), (2, []), (3, []), (4, []), (5, []), (6, []), (7, []), (8, []), (9, [])] (by kernel_rfl) (by kernel_rfl) ?_
    refine at_step (v := .agg [vs eS p1.L, .bool p1.Closed]) (h1 := h3) [(0, .ptr (some (bp0, 0))), (5, .ptr (some (h1.size, 0))), (6, .ptr (some (h2.size, 0))), (21, .agg [vs eS p1.L, .bool p1.Closed])] H (fun fr => by kernel_rfl) (fun fr => .of (s_ldA (by kernel_rfl) (A.ldA 2 rfl (o := 0) (n := 2) ⟨Nat.le_of_ble_eq_true rfl, rfl⟩))) ?_
    intro fr t H
    refine at_seg [(1, [])] [(0, .ptr (some (bp0, 0))), (5, .ptr (some (h1.size, 0))), (6, .ptr (some (h2.size, 0))), (21, .agg [vs eS p1.L, .bool p1.Closed]), (22, .ptr (some (h1.size, 2)))] H (noU_all rfl) (fun fr => by kernel_rfl) ?_
    intro fr H
    refine at_step (v := .str p2.S) (h1 := h3) [(0, .ptr (some (bp0, 0))), (5, .ptr (some (h1.size, 0))), (6, .ptr (some (h2.size, 0))), (21, .agg [vs eS p1.L, .bool p1.Closed]), (23, .str p2.S)] H (fun fr => by kernel_rfl) (fun fr => .of (s_ld (by kernel_rfl) (A.ld1 1 rfl (o := 2) rfl))) ?_
    intro fr t H
    have A1 := A.cut 0
    obtain ⟨⟨x1, x2⟩, hx, hm⟩ := bind_some hm
    obtain ⟨v1, h4, hr, rfl, A1⟩ := ok_boulterref08_Put (av := [.agg [vs eS p1.L, .bool p1.Closed], .str p2.S]) hx (by kernel_rfl) A1
    replace A : HH g h4 [.obj h2.size (.cells none 2 [.slice none 0, .bool false]), .obj h1.size (.cells none 2 [.int .i64 p2.Kind, .int .i64 p2.N, .str p2.S]), .obj h.size (.cells none 2 [vs eS p1.L, .bool p1.Closed]), .obj bp0 (.cells none 2 [.chan (some bp0_0), .str p0.now_, .int .i64 p0.size_, .bool p0.closed_]), .obj bp0_0 (.chan 64 (lst eS p0.wait_))] F := A.glue0 (n := 0) A1
    refine at_step (v := .tuple [.agg [vs eS x1.L, .bool x1.Closed], .int .i64 x2]) (h1 := h4) [(0, .ptr (some (bp0, 0))), (5, .ptr (some (h1.size, 0))), (6, .ptr (some (h2.size, 0))), (24, .tuple [.agg [vs eS x1.L, .bool x1.Closed], .int .i64 x2])] H (fun fr => by kernel_rfl) (fun fr => Steps.call (by kernel_rfl) hr) ?_
    intro fr t H
    refine at_seg [(4, []), (5, []), (6, [])] [(0, .ptr (some (bp0, 0))), (5, .ptr (some (h1.size, 0))), (6, .ptr (some (h2.size, 0))), (25, .agg [vs eS x1.L, .bool x1.Closed]), (26, .int .i64 x2)] H (noU_all rfl) (fun fr => by kernel_rfl) ?_
    intro fr H
    obtain ⟨h5, e4⟩ : ∃ x, x = h4.push (.cells none 2 [.slice none 0, .bool false]) := ⟨_, rfl⟩
    replace A := (A.push _).to e4
    refine at_step (v := .ptr (some (h4.size, 0))) (h1 := h5) [(0, .ptr (some (bp0, 0))), (5, .ptr (some (h1.size, 0))), (6, .ptr (some (h2.size, 0))), (8, .ptr (some (h4.size, 0))), (25, .agg [vs eS x1.L, .bool x1.Closed]), (26, .int .i64 x2)] H (fun fr => by kernel_rfl) (fun fr => .of (s_n' (by kernel_rfl) (congrArg some e4.symm))) ?_
    intro fr t H
    obtain ⟨h6, hx, A1⟩ := A.st 0 rfl (o := 0) (new := [vs eS x1.L, .bool x1.Closed]) (ds := [vs eS x1.L, .bool x1.Closed]) (Nat.le_of_ble_eq_true rfl) rfl rfl
    replace A : HH g h6 [.obj h4.size (.cells none 2 [vs eS x1.L, .bool x1.Closed]), .obj h2.size (.cells none 2 [.slice none 0, .bool false]), .obj h1.size (.cells none 2 [.int .i64 p2.Kind, .int .i64 p2.N, .str p2.S]), .obj h.size (.cells none 2 [vs eS p1.L, .bool p1.Closed]), .obj bp0 (.cells none 2 [.chan (some bp0_0), .str p0.now_, .int .i64 p0.size_, .bool p0.closed_]), .obj bp0_0 (.chan 64 (lst eS p0.wait_))] F := A1
    refine at_step (v := .tuple []) (h1 := h6) [(0, .ptr (some (bp0, 0))), (5, .ptr (some (h1.size, 0))), (6, .ptr (some (h2.size, 0))), (8, .ptr (some (h4.size, 0))), (26, .int .i64 x2)] H (fun fr => by kernel_rfl) (fun fr => .of (s_stG (by kernel_rfl) (stG_st hx rfl))) ?_
    intro fr t H
    refine at_seg [(9, [])] [(0, .ptr (some (bp0, 0))), (5, .ptr (some (h1.size, 0))), (6, .ptr (some (h2.size, 0))), (8, .ptr (some (h4.size, 0))), (9, .int .i64 x2)] H (noU_all rfl) (fun fr => by kernel_rfl) ?_
    intro fr H
    refine at_nil ?_
    show AW cfg 12 g (right (left (right (left (right (left (right (bodyC cfg.P 12)))))))) fr h6 _
    refine aw_seq (by kernel_rfl) ?_
    refine aw_draw (id := 4) (n := 10) (by kernel_rfl) [(0, []), (1, []), (2, []), (3, []), (4, []), (5, [0]), (6, []), (7, []), (8, []), (9, [])] (by kernel_rfl) ?_
    refine at_stepT (v := .agg [vs eS x1.L, .bool x1.Closed]) (h1 := h6) (tch' := [(0, h4.size)]) (g.prot) [(0, .ptr (some (bp0, 0))), (5, .ptr (some (h1.size, 0))), (6, .ptr (some (h2.size, 0))), (9, .int .i64 x2), (27, .agg [vs eS x1.L, .bool x1.Closed])] H (fun fr => by kernel_rfl) (by kernel_rfl) (fun fr => by kernel_rfl) (fun fr => .of (s_ldA (by kernel_rfl) (A.ldA 0 rfl (o := 0) (n := 2) ⟨Nat.le_of_ble_eq_true rfl, rfl⟩))) ?_
    intro fr H
    refine at_seg [(1, []), (2, [])] [(6, .ptr (some (h2.size, 0))), (9, .int .i64 x2), (27, .agg [vs eS x1.L, .bool x1.Closed]), (28, .ptr (some (bp0, 0))), (29, .ptr (some (h1.size, 2)))] H (noU_all rfl) (fun fr => by kernel_rfl) ?_
    intro fr H
    refine at_stepT (v := .str p2.S) (h1 := h6) (tch' := [(3, h1.size), (0, h4.size)]) (g.prot) [(6, .ptr (some (h2.size, 0))), (9, .int .i64 x2), (27, .agg [vs eS x1.L, .bool x1.Closed]), (28, .ptr (some (bp0, 0))), (30, .str p2.S)] H (fun fr => by kernel_rfl) (by kernel_rfl) (fun fr => by kernel_rfl) (fun fr => .of (s_ld (by kernel_rfl) (A.ld1 2 rfl (o := 2) rfl))) ?_
    intro fr H
    obtain ⟨hb, hm⟩ := need_some hm
    obtain ⟨h7, e5⟩ : ∃ x, x = h6.push (.cells (some 5) 2 (p2.S.map fun b => .int .u8 b.toNat)) := ⟨_, rfl⟩
    replace A : HH g h7 [.lst (some h6.size) 5 (lst eY p2.S), .obj h4.size (.cells none 2 [vs eS x1.L, .bool x1.Closed]), .obj h2.size (.cells none 2 [.slice none 0, .bool false]), .obj h1.size (.cells none 2 [.int .i64 p2.Kind, .int .i64 p2.N, .str p2.S]), .obj h.size (.cells none 2 [vs eS p1.L, .bool p1.Closed]), .obj bp0 (.cells none 2 [.chan (some bp0_0), .str p0.now_, .int .i64 p0.size_, .bool p0.closed_]), .obj bp0_0 (.chan 64 (lst eS p0.wait_))] F := by rw [← map_eY]; exact (A.pushL _ _).to e5
    refine at_stepT (v := rowV (some h6.size) p2.S.length) (h1 := h7) (tch' := [(4, h6.size), (3, h1.size), (0, h4.size)]) (g.prot) [(6, .ptr (some (h2.size, 0))), (9, .int .i64 x2), (27, .agg [vs eS x1.L, .bool x1.Closed]), (28, .ptr (some (bp0, 0))), (31, rowV (some h6.size) p2.S.length)] H (fun fr => by kernel_rfl) (by kernel_rfl) (fun fr => by kernel_rfl) (fun fr => .of (s_toB (by kernel_rfl) hb (congrArg some e5.symm))) ?_
    intro fr H
    replace A : HH g h7 [.obj bp0 (.cells none 2 [.chan (some bp0_0), .str p0.now_, .int .i64 p0.size_, .bool p0.closed_]), .obj bp0_0 (.chan 64 (lst eS p0.wait_)), .lst (some h6.size) 5 (lst eY p2.S), .obj h4.size (.cells none 2 [vs eS x1.L, .bool x1.Closed]), .obj h2.size (.cells none 2 [.slice none 0, .bool false]), .obj h1.size (.cells none 2 [.int .i64 p2.Kind, .int .i64 p2.N, .str p2.S]), .obj h.size (.cells none 2 [vs eS p1.L, .bool p1.Closed])] F := (((A.front 0 rfl).front 6 rfl).front 6 rfl)
    have A1 := A.prot2 3 (pr := [h4.size]) (.cons 0 rfl (by simp [Ck.ids]) .nil)
    obtain ⟨⟨x3, x4, x5⟩, hx, hm⟩ := bind_some hm
    obtain ⟨v1, h8, hr, rfl, A1⟩ := ok_feed_Feed_Put_sPCHO (av := [.ptr (some (bp0, 0)), rowV (some h6.size) p2.S.length]) hx (by kernel_rfl) A1
    replace A : HH g h8 [.obj bp0 (.cells none 2 [.chan (some bp0_0), .str x4.now_, .int .i64 x4.size_, .bool x4.closed_]), .obj bp0_0 (.chan 64 (lst eS x5)), .lst (some h6.size) 5 (lst eY p2.S), .obj h4.size (.cells none 2 [vs eS x1.L, .bool x1.Closed]), .obj h2.size (.cells none 2 [.slice none 0, .bool false]), .obj h1.size (.cells none 2 [.int .i64 p2.Kind, .int .i64 p2.N, .str p2.S]), .obj h.size (.cells none 2 [vs eS p1.L, .bool p1.Closed])] F := A.glueP (n := 3) A1
    refine at_stepT (v := .int .i64 x3) (h1 := h8) (tch' := [(4, h6.size), (3, h1.size), (0, h4.size)]) (h4.size :: g.prot) [(6, .ptr (some (h2.size, 0))), (9, .int .i64 x2), (27, .agg [vs eS x1.L, .bool x1.Closed]), (32, .int .i64 x3)] H (fun fr => by kernel_rfl) (by kernel_rfl) (fun fr => by kernel_rfl) (fun fr => Steps.call (by kernel_rfl) hr) ?_
    intro fr H
    refine at_seg [(6, []), (7, [])] [(6, .ptr (some (h2.size, 0))), (27, .agg [vs eS x1.L, .bool x1.Closed]), (34, .bool (x3 == x2))] H (noU_all rfl) (fun fr => by kernel_rfl) ?_
    intro fr H
    obtain ⟨h9, hx, A1⟩ := A.st 4 rfl (o := 0) (new := [vs eS x1.L, .bool x1.Closed]) (ds := [vs eS x1.L, .bool x1.Closed]) (Nat.le_of_ble_eq_true rfl) rfl rfl
    replace A : HH g h9 [.obj bp0 (.cells none 2 [.chan (some bp0_0), .str x4.now_, .int .i64 x4.size_, .bool x4.closed_]), .obj bp0_0 (.chan 64 (lst eS x5)), .lst (some h6.size) 5 (lst eY p2.S), .obj h4.size (.cells none 2 [vs eS x1.L, .bool x1.Closed]), .obj h2.size (.cells none 2 [vs eS x1.L, .bool x1.Closed]), .obj h1.size (.cells none 2 [.int .i64 p2.Kind, .int .i64 p2.N, .str p2.S]), .obj h.size (.cells none 2 [vs eS p1.L, .bool p1.Closed])] F := A1
    refine at_stepT (v := .tuple []) (h1 := h9) (tch' := [(4, h6.size), (3, h1.size), (0, h4.size)]) (g.prot) [(6, .ptr (some (h2.size, 0))), (34, .bool (x3 == x2))] H (fun fr => by kernel_rfl) (by kernel_rfl) (fun fr => by kernel_rfl) (fun fr => .of (s_stG (by kernel_rfl) (stG_st hx rfl))) ?_
    intro fr H
    refine at_seg [(9, [])] [(6, .ptr (some (h2.size, 0))), (7, .bool (x3 == x2))] H (noU_all rfl) (fun fr => by kernel_rfl) ?_
    intro fr H
    refine at_nil ?_
    show AW cfg 12 g (right (right (left (right (left (right (left (right (bodyC cfg.P 12))))))))) fr h9 _
    refine aw_ret (by kernel_rfl) ?_
    have e0 := Option.some.inj hm
    obtain ⟨y0, z0⟩ := Prod.mk.inj e0
    obtain ⟨y1, z1⟩ := Prod.mk.inj z0
    obtain ⟨y2, z2⟩ := Prod.mk.inj z1
    subst y0
    subst y1
    subst y2
    subst z2
    refine ⟨.inl rfl, .tuple [.agg [vs eS x1.L, .bool x1.Closed], .bool (x3 == x2)], resL_many (.cell (resT H (fun fr => by kernel_rfl)) (load_ldA (by kernel_rfl) (by kernel_rfl) (A.ldA 4 rfl (o := 0) (n := 2) ⟨Nat.le_of_ble_eq_true rfl, rfl⟩)) (.tmp (resT H (fun fr => by kernel_rfl)) .nil)), ?_⟩
    replace A : HH g h9 [.obj bp0 (.cells none 2 [.chan (some bp0_0), .str x4.now_, .int .i64 x4.size_, .bool x4.closed_]), .obj bp0_0 (.chan 64 (lst eS x5))] F := (HH.dropF ((A.front 1 rfl).front 1 rfl) 2)
    exact ⟨rfl, A⟩
  · replace H := H.know 18 hb (by kernel_rfl)
    refine aw_false (x := .tmp 18) (by kernel_rfl) H (fun fr => by kernel_rfl) ?_
    refine aw_seq (by kernel_rfl) ?_
    refine aw_reg (id := 5) (n := 2) [(0, []), (1, [])] (by kernel_rfl) (by kernel_rfl) ?_
    refine at_seg [(0, []), (1, [])] [(0, .ptr (some (bp0, 0))), (4, .ptr (some (h.size, 0))), (5, .ptr (some (h1.size, 0))), (6, .ptr (some (h2.size, 0))), (17, .int .i64 p2.Kind), (35, .bool (p2.Kind == (2 : Int)))] H (noU_all rfl) (fun fr => by kernel_rfl) ?_
    intro fr H
    refine at_nil ?_
    show AW cfg 12 g (right (right (right (left (right (left (right (bodyC cfg.P 12)))))))) fr h3 _
    rcases iteB_some hm with ⟨hb, hm⟩ | ⟨hb, hm⟩
    · replace H := H.know 35 hb (by kernel_rfl)
      refine aw_true (x := .tmp 35) (by kernel_rfl) H (fun fr => by kernel_rfl) ?_
      refine aw_seq (by kernel_rfl) ?_
      refine aw_reg (id := 6) (n := 9) [(0, []), (1, []), (2, []), (3, []), (4, []), (5, []), (6, []), (7, []), (8, [])] (by kernel_rfl) (by kernel_rfl) ?_
      refine at_seg [(0, []), (1, [])] [(4, .ptr (some (h.size, 0))), (5, .ptr (some (h1.size, 0))), (6, .ptr (some (h2.size, 0))), (38, .ptr (some (bp0, 0))), (39, .ptr (some (h1.size, 1)))] H (noU_all rfl) (fun fr => by kernel_rfl) ?_
      intro fr H
      refine at_step (v := .int .i64 p2.N) (h1 := h3) [(4, .ptr (some (h.size, 0))), (5, .ptr (some (h1.size, 0))), (6, .ptr (some (h2.size, 0))), (38, .ptr (some (bp0, 0))), (40, .int .i64 p2.N)] H (fun fr => by kernel_rfl) (fun fr => .of (s_ld (by kernel_rfl) (A.ld1 1 rfl (o := 1) rfl))) ?_
      intro fr t H
      replace A : HH g h3 [.obj bp0 (.cells none 2 [.chan (some bp0_0), .str p0.now_, .int .i64 p0.size_, .bool p0.closed_]), .obj bp0_0 (.chan 64 (lst eS p0.wait_)), .obj h2.size (.cells none 2 [.slice none 0, .bool false]), .obj h1.size (.cells none 2 [.int .i64 p2.Kind, .int .i64 p2.N, .str p2.S]), .obj h.size (.cells none 2 [vs eS p1.L, .bool p1.Closed])] F := ((A.front 4 rfl).front 4 rfl)
      have A1 := A.cut 2
      obtain ⟨⟨x6, x7, x8, x9⟩, hx, hm⟩ := bind_some hm
      obtain ⟨v1, h10, hr, rfl, A1⟩ := ok_feed_Feed_Take_sPCHI (av := [.ptr (some (bp0, 0)), .int .i64 p2.N]) hx (by kernel_rfl) A1
      replace A : HH g h10 [.obj bp0 (.cells none 2 [.chan (some bp0_0), .str x8.now_, .int .i64 x8.size_, .bool x8.closed_]), .obj bp0_0 (.chan 64 (lst eS x9)), .obj h2.size (.cells none 2 [.slice none 0, .bool false]), .obj h1.size (.cells none 2 [.int .i64 p2.Kind, .int .i64 p2.N, .str p2.S]), .obj h.size (.cells none 2 [vs eS p1.L, .bool p1.Closed])] F := A.glue0 (n := 2) A1
      refine at_step (v := .tuple [.str x6, .bool x7]) (h1 := h10) [(4, .ptr (some (h.size, 0))), (5, .ptr (some (h1.size, 0))), (6, .ptr (some (h2.size, 0))), (41, .tuple [.str x6, .bool x7])] H (fun fr => by kernel_rfl) (fun fr => Steps.call (by kernel_rfl) hr) ?_
      intro fr t H
      refine at_seg [(4, []), (5, []), (6, []), (7, []), (8, [])] [(4, .ptr (some (h.size, 0))), (5, .ptr (some (h1.size, 0))), (6, .ptr (some (h2.size, 0))), (10, .str x6), (11, .bool x7)] H (noU_all rfl) (fun fr => by kernel_rfl) ?_
      intro fr H
      refine at_nil ?_
      show AW cfg 12 g (right (left (right (right (right (left (right (left (right (bodyC cfg.P 12)))))))))) fr h10 _
      refine aw_seq (by kernel_rfl) ?_
      refine aw_reg (id := 7) (n := 3) [(0, []), (1, []), (2, [])] (by kernel_rfl) (by kernel_rfl) ?_
      refine at_step (v := .agg [vs eS p1.L, .bool p1.Closed]) (h1 := h10) [(4, .ptr (some (h.size, 0))), (5, .ptr (some (h1.size, 0))), (6, .ptr (some (h2.size, 0))), (10, .str x6), (11, .bool x7), (44, .agg [vs eS p1.L, .bool p1.Closed])] H (fun fr => by kernel_rfl) (fun fr => .of (s_ldA (by kernel_rfl) (A.ldA 4 rfl (o := 0) (n := 2) ⟨Nat.le_of_ble_eq_true rfl, rfl⟩))) ?_
      intro fr t H
      have A1 := A.cut 0
      obtain ⟨x10, hx, hm⟩ := bind_some hm
      obtain ⟨v1, h11, hr, rfl, A1⟩ := ok_boulterref08_All (av := [.agg [vs eS p1.L, .bool p1.Closed]]) hx (by kernel_rfl) A1
      replace A : HH g h11 [.obj bp0 (.cells none 2 [.chan (some bp0_0), .str x8.now_, .int .i64 x8.size_, .bool x8.closed_]), .obj bp0_0 (.chan 64 (lst eS x9)), .obj h2.size (.cells none 2 [.slice none 0, .bool false]), .obj h1.size (.cells none 2 [.int .i64 p2.Kind, .int .i64 p2.N, .str p2.S]), .obj h.size (.cells none 2 [vs eS p1.L, .bool p1.Closed])] F := A.glue0 (n := 0) A1
      refine at_step (v := .str x10) (h1 := h11) [(4, .ptr (some (h.size, 0))), (5, .ptr (some (h1.size, 0))), (6, .ptr (some (h2.size, 0))), (10, .str x6), (11, .bool x7), (45, .str x10)] H (fun fr => by kernel_rfl) (fun fr => Steps.call (by kernel_rfl) hr) ?_
      intro fr t H
      refine at_seg [(2, [])] [(4, .ptr (some (h.size, 0))), (5, .ptr (some (h1.size, 0))), (6, .ptr (some (h2.size, 0))), (10, .str x6), (11, .bool x7), (12, .str x10)] H (noU_all rfl) (fun fr => by kernel_rfl) ?_
      intro fr H
      refine at_nil ?_
      show AW cfg 12 g (right (right (left (right (right (right (left (right (left (right (bodyC cfg.P 12))))))))))) fr h11 _
      refine aw_seq (by kernel_rfl) ?_
      refine aw_seq (by kernel_rfl) ?_
      refine aw_reg (id := 8) (n := 10) [(0, []), (1, []), (2, []), (3, []), (4, []), (5, []), (6, []), (7, []), (8, []), (9, [])] (by kernel_rfl) (by kernel_rfl) ?_
      refine at_seg [(0, [])] [(4, .ptr (some (h.size, 0))), (5, .ptr (some (h1.size, 0))), (6, .ptr (some (h2.size, 0))), (10, .str x6), (11, .bool x7), (12, .str x10), (46, .ptr (some (h1.size, 1)))] H (noU_all rfl) (fun fr => by kernel_rfl) ?_
      intro fr H
      refine at_step (v := .int .i64 p2.N) (h1 := h11) [(4, .ptr (some (h.size, 0))), (5, .ptr (some (h1.size, 0))), (6, .ptr (some (h2.size, 0))), (10, .str x6), (11, .bool x7), (12, .str x10), (47, .int .i64 p2.N)] H (fun fr => by kernel_rfl) (fun fr => .of (s_ld (by kernel_rfl) (A.ld1 3 rfl (o := 1) rfl))) ?_
      intro fr t H
      refine at_seg [(2, []), (3, [])] [(4, .ptr (some (h.size, 0))), (5, .ptr (some (h1.size, 0))), (6, .ptr (some (h2.size, 0))), (10, .str x6), (11, .bool x7), (12, .str x10), (49, .bool (decide (p2.N < (0 : Int))))] H (noU_all rfl) (fun fr => by kernel_rfl) ?_
      intro fr H
      refine at_cut [(4, []), (5, []), (6, []), (7, []), (8, []), (9, [])] (fun fr' h' => h11 = h' ∧ Has fr' 111 [(4, .ptr (some (h.size, 0))), (5, .ptr (some (h1.size, 0))), (6, .ptr (some (h2.size, 0))), (10, .str x6), (11, .bool x7), (12, .str x10), (55, .bool ((decide (p2.N < (0 : Int))) || (decide (p2.N > (x10.length : Int)))))]) ?_ ?_
      · cases hb : (decide (p2.N < (0 : Int)) : Bool) with
        | true =>
          replace H := H.know 49 hb (by kernel_rfl)
          refine at_seg [(4, []), (5, []), (6, []), (7, []), (8, []), (9, [])] [(4, .ptr (some (h.size, 0))), (5, .ptr (some (h1.size, 0))), (6, .ptr (some (h2.size, 0))), (10, .str x6), (11, .bool x7), (12, .str x10), (55, .bool true)] H (noU_all rfl) (fun fr => by kernel_rfl) ?_
          intro fr H
          exact at_nil ⟨rfl, by first | exact H.less _ (fun fr => by rfl) | exact H.less _ (fun fr => by rw [hb]; rfl)⟩
        | false =>
          replace H := H.know 49 hb (by kernel_rfl)
          refine at_seg [(4, [])] [(4, .ptr (some (h.size, 0))), (5, .ptr (some (h1.size, 0))), (6, .ptr (some (h2.size, 0))), (10, .str x6), (11, .bool x7), (12, .str x10), (49, .bool false), (50, .ptr (some (h1.size, 1)))] H (noU_all rfl) (fun fr => by kernel_rfl) ?_
          intro fr H
          refine at_step (v := .int .i64 p2.N) (h1 := h11) [(4, .ptr (some (h.size, 0))), (5, .ptr (some (h1.size, 0))), (6, .ptr (some (h2.size, 0))), (10, .str x6), (11, .bool x7), (12, .str x10), (49, .bool false), (51, .int .i64 p2.N)] H (fun fr => by kernel_rfl) (fun fr => .of (s_ld (by kernel_rfl) (A.ld1 3 rfl (o := 1) rfl))) ?_
          intro fr t H
          refine at_seg [(6, []), (7, []), (8, []), (9, [])] [(4, .ptr (some (h.size, 0))), (5, .ptr (some (h1.size, 0))), (6, .ptr (some (h2.size, 0))), (10, .str x6), (11, .bool x7), (12, .str x10), (55, .bool (decide (p2.N > (x10.length : Int))))] H (noU_all rfl) (fun fr => by kernel_rfl) ?_
          intro fr H
          exact at_nil ⟨rfl, by first | exact H.less _ (fun fr => by rfl) | exact H.less _ (fun fr => by rw [hb]; rfl)⟩
      · intro t fr h' hK
        obtain ⟨e, H⟩ := hK
        subst e
        refine at_nil ?_
        show AW cfg 12 g (right (left (right (right (left (right (right (right (left (right (left (right (bodyC cfg.P 12))))))))))))) fr h11 _
        rcases iteB_some hm with ⟨hb, hm⟩ | ⟨hb, hm⟩
        · replace H := H.know 55 hb (by kernel_rfl)
          refine aw_true (x := .tmp 55) (by kernel_rfl) H (fun fr => by kernel_rfl) ?_
          refine aw_seq (by kernel_rfl) ?_
          refine aw_reg (id := 9) (n := 9) [(0, []), (1, []), (2, []), (3, []), (4, []), (5, []), (6, []), (7, []), (8, [])] (by kernel_rfl) (by kernel_rfl) ?_
          refine at_step (v := .agg [vs eS p1.L, .bool p1.Closed]) (h1 := h11) [(6, .ptr (some (h2.size, 0))), (10, .str x6), (11, .bool x7), (56, .agg [vs eS p1.L, .bool p1.Closed])] H (fun fr => by kernel_rfl) (fun fr => .of (s_ldA (by kernel_rfl) (A.ldA 4 rfl (o := 0) (n := 2) ⟨Nat.le_of_ble_eq_true rfl, rfl⟩))) ?_
          intro fr t H
          refine at_seg [(1, []), (2, []), (3, [])] [(6, .ptr (some (h2.size, 0))), (10, .str x6), (56, .agg [vs eS p1.L, .bool p1.Closed]), (59, .bool (!x7))] H (noU_all rfl) (fun fr => by kernel_rfl) ?_
          intro fr H
          refine at_cut [(4, []), (5, []), (6, [])] (fun fr' h' => h11 = h' ∧ Has fr' 111 [(6, .ptr (some (h2.size, 0))), (56, .agg [vs eS p1.L, .bool p1.Closed]), (62, .bool ((!x7) && (x6 == ([] : List UInt8))))]) ?_ ?_
          · cases hb : (!x7 : Bool) with
            | true =>
              replace H := H.know 59 hb (by kernel_rfl)
              refine at_seg [(4, []), (5, []), (6, [])] [(6, .ptr (some (h2.size, 0))), (56, .agg [vs eS p1.L, .bool p1.Closed]), (62, .bool (x6 == ([] : List UInt8)))] H (noU_all rfl) (fun fr => by kernel_rfl) ?_
              intro fr H
              exact at_nil ⟨rfl, by first | exact H.less _ (fun fr => by rfl) | exact H.less _ (fun fr => by rw [hb]; rfl)⟩
            | false =>
              replace H := H.know 59 hb (by kernel_rfl)
              refine at_seg [(4, []), (5, []), (6, [])] [(6, .ptr (some (h2.size, 0))), (56, .agg [vs eS p1.L, .bool p1.Closed]), (62, .bool false)] H (noU_all rfl) (fun fr => by kernel_rfl) ?_
              intro fr H
              exact at_nil ⟨rfl, by first | exact H.less _ (fun fr => by rfl) | exact H.less _ (fun fr => by rw [hb]; rfl)⟩
          · intro t fr h' hK
            obtain ⟨e, H⟩ := hK
            subst e
            obtain ⟨h12, hx, A1⟩ := A.st 2 rfl (o := 0) (new := [vs eS p1.L, .bool p1.Closed]) (ds := [vs eS p1.L, .bool p1.Closed]) (Nat.le_of_ble_eq_true rfl) rfl rfl
            replace A : HH g h12 [.obj bp0 (.cells none 2 [.chan (some bp0_0), .str x8.now_, .int .i64 x8.size_, .bool x8.closed_]), .obj bp0_0 (.chan 64 (lst eS x9)), .obj h2.size (.cells none 2 [vs eS p1.L, .bool p1.Closed]), .obj h1.size (.cells none 2 [.int .i64 p2.Kind, .int .i64 p2.N, .str p2.S]), .obj h.size (.cells none 2 [vs eS p1.L, .bool p1.Closed])] F := A1
            refine at_step (v := .tuple []) (h1 := h12) [(6, .ptr (some (h2.size, 0))), (62, .bool ((!x7) && (x6 == ([] : List UInt8))))] H (fun fr => by kernel_rfl) (fun fr => .of (s_stG (by kernel_rfl) (stG_st hx rfl))) ?_
            intro fr t H
            refine at_seg [(8, [])] [(6, .ptr (some (h2.size, 0))), (7, .bool ((!x7) && (x6 == ([] : List UInt8))))] H (noU_all rfl) (fun fr => by kernel_rfl) ?_
            intro fr H
            refine at_nil ?_
            show AW cfg 12 g (right (left (right (left (right (right (left (right (right (right (left (right (left (right (bodyC cfg.P 12))))))))))))))) fr h12 _
            refine aw_ret (by kernel_rfl) ?_
            have e0 := Option.some.inj hm
            obtain ⟨y0, z0⟩ := Prod.mk.inj e0
            obtain ⟨y1, z1⟩ := Prod.mk.inj z0
            obtain ⟨y2, z2⟩ := Prod.mk.inj z1
            subst y0
            subst y1
            subst y2
            subst z2
            refine ⟨.inl rfl, .tuple [.agg [vs eS p1.L, .bool p1.Closed], .bool ((!x7) && (x6 == ([] : List UInt8)))], resL_many (.cell (resT H (fun fr => by kernel_rfl)) (load_ldA (by kernel_rfl) (by kernel_rfl) (A.ldA 2 rfl (o := 0) (n := 2) ⟨Nat.le_of_ble_eq_true rfl, rfl⟩)) (.tmp (resT H (fun fr => by kernel_rfl)) .nil)), ?_⟩
            replace A : HH g h12 [.obj bp0 (.cells none 2 [.chan (some bp0_0), .str x8.now_, .int .i64 x8.size_, .bool x8.closed_]), .obj bp0_0 (.chan 64 (lst eS x9))] F := (HH.dropF ((A.front 1 rfl).front 1 rfl) 2)
            exact ⟨rfl, A⟩
        · replace H := H.know 55 hb (by kernel_rfl)
          refine aw_false (x := .tmp 55) (by kernel_rfl) H (fun fr => by kernel_rfl) ?_
          refine aw_skip (by kernel_rfl) ?_
          show AW cfg 12 g (right (right (right (left (right (right (right (left (right (left (right (bodyC cfg.P 12)))))))))))) fr h11 _
          refine aw_seq (by kernel_rfl) ?_
          refine aw_draw (id := 10) (n := 15) (by kernel_rfl) [(0, []), (1, []), (2, []), (3, []), (4, []), (5, []), (6, []), (7, []), (8, []), (9, []), (10, []), (11, []), (12, []), (13, [9]), (14, [])] (by kernel_rfl) ?_
          refine at_stepT (v := .agg [vs eS p1.L, .bool p1.Closed]) (h1 := h11) (tch' := [(0, h.size)]) (g.prot) [(5, .ptr (some (h1.size, 0))), (6, .ptr (some (h2.size, 0))), (10, .str x6), (11, .bool x7), (12, .str x10), (63, .agg [vs eS p1.L, .bool p1.Closed])] H (fun fr => by kernel_rfl) (by kernel_rfl) (fun fr => by kernel_rfl) (fun fr => .of (s_ldA (by kernel_rfl) (A.ldA 4 rfl (o := 0) (n := 2) ⟨Nat.le_of_ble_eq_true rfl, rfl⟩))) ?_
          intro fr H
          refine at_seg [(1, [])] [(5, .ptr (some (h1.size, 0))), (6, .ptr (some (h2.size, 0))), (10, .str x6), (11, .bool x7), (12, .str x10), (63, .agg [vs eS p1.L, .bool p1.Closed]), (64, .ptr (some (h1.size, 1)))] H (noU_all rfl) (fun fr => by kernel_rfl) ?_
          intro fr H
          refine at_stepT (v := .int .i64 p2.N) (h1 := h11) (tch' := [(2, h1.size), (0, h.size)]) (g.prot) [(5, .ptr (some (h1.size, 0))), (6, .ptr (some (h2.size, 0))), (10, .str x6), (11, .bool x7), (12, .str x10), (63, .agg [vs eS p1.L, .bool p1.Closed]), (65, .int .i64 p2.N)] H (fun fr => by kernel_rfl) (by kernel_rfl) (fun fr => by kernel_rfl) (fun fr => .of (s_ld (by kernel_rfl) (A.ld1 3 rfl (o := 1) rfl))) ?_
          intro fr H
          have A1 := A.cut 0
          obtain ⟨x11, hx, hm⟩ := bind_some hm
          obtain ⟨v1, h13, hr, rfl, A1⟩ := ok_boulterref08_Drop (av := [.agg [vs eS p1.L, .bool p1.Closed], .int .i64 p2.N]) hx (by kernel_rfl) A1
          replace A : HH g h13 [.obj bp0 (.cells none 2 [.chan (some bp0_0), .str x8.now_, .int .i64 x8.size_, .bool x8.closed_]), .obj bp0_0 (.chan 64 (lst eS x9)), .obj h2.size (.cells none 2 [.slice none 0, .bool false]), .obj h1.size (.cells none 2 [.int .i64 p2.Kind, .int .i64 p2.N, .str p2.S]), .obj h.size (.cells none 2 [vs eS p1.L, .bool p1.Closed])] F := A.glue0 (n := 0) A1
          refine at_stepT (v := .agg [vs eS x11.L, .bool x11.Closed]) (h1 := h13) (tch' := [(2, h1.size), (0, h.size)]) (g.prot) [(5, .ptr (some (h1.size, 0))), (6, .ptr (some (h2.size, 0))), (10, .str x6), (11, .bool x7), (12, .str x10), (66, .agg [vs eS x11.L, .bool x11.Closed])] H (fun fr => by kernel_rfl) (by kernel_rfl) (fun fr => by kernel_rfl) (fun fr => Steps.call (by kernel_rfl) hr) ?_
          intro fr H
          refine at_seg [(4, []), (5, [])] [(5, .ptr (some (h1.size, 0))), (6, .ptr (some (h2.size, 0))), (10, .str x6), (12, .str x10), (66, .agg [vs eS x11.L, .bool x11.Closed]), (68, .bool x7)] H (noU_all rfl) (fun fr => by kernel_rfl) ?_
          intro fr H
          rcases iteB_some hm with ⟨hb, hm⟩ | ⟨hb, hm⟩
          · replace H := H.know 68 hb (by kernel_rfl)
            refine at_seg [(6, []), (7, []), (8, [])] [(6, .ptr (some (h2.size, 0))), (66, .agg [vs eS x11.L, .bool x11.Closed]), (68, .bool true), (69, .str x6), (70, .str x10), (71, .ptr (some (h1.size, 1)))] H (noU_all rfl) (fun fr => by kernel_rfl) ?_
            intro fr H
            refine at_stepT (v := .int .i64 p2.N) (h1 := h13) (tch' := [(9, h1.size), (2, h1.size), (0, h.size)]) (g.prot) [(6, .ptr (some (h2.size, 0))), (66, .agg [vs eS x11.L, .bool x11.Closed]), (68, .bool true), (69, .str x6), (70, .str x10), (72, .int .i64 p2.N)] H (fun fr => by kernel_rfl) (by kernel_rfl) (fun fr => by kernel_rfl) (fun fr => .of (s_ld (by kernel_rfl) (A.ld1 3 rfl (o := 1) rfl))) ?_
            intro fr H
            obtain ⟨x12, hx, hm⟩ := bind_some hm
            refine at_stepT (v := .str x12) (h1 := h13) (tch' := [(9, h1.size), (2, h1.size), (0, h.size)]) (g.prot) [(6, .ptr (some (h2.size, 0))), (66, .agg [vs eS x11.L, .bool x11.Closed]), (68, .bool true), (69, .str x6), (73, .str x12)] H (fun fr => by kernel_rfl) (by kernel_rfl) (fun fr => by kernel_rfl) (fun fr => .of (s_subS (k := .i64) (k' := .i64) (lo := none) (hi := (some p2.N)) (by kernel_rfl) hx)) ?_
            intro fr H
            refine at_seg [(11, []), (12, [])] [(6, .ptr (some (h2.size, 0))), (66, .agg [vs eS x11.L, .bool x11.Closed]), (75, .bool (x6 == x12))] H (noU_all rfl) (fun fr => by kernel_rfl) ?_
            intro fr H
            replace A : HH g h13 [.obj h2.size (.cells none 2 [.slice none 0, .bool false]), .obj bp0 (.cells none 2 [.chan (some bp0_0), .str x8.now_, .int .i64 x8.size_, .bool x8.closed_]), .obj bp0_0 (.chan 64 (lst eS x9)), .obj h1.size (.cells none 2 [.int .i64 p2.Kind, .int .i64 p2.N, .str p2.S]), .obj h.size (.cells none 2 [vs eS p1.L, .bool p1.Closed])] F := (A.front 2 rfl)
            have A1 := A.prot2 1 (pr := [h1.size]) (.cons 2 rfl (by simp [Ck.ids]) .nil)
            obtain ⟨h14, hx, A1⟩ := A1.st 0 rfl (o := 0) (new := [vs eS x11.L, .bool x11.Closed]) (ds := [vs eS x11.L, .bool x11.Closed]) (Nat.le_of_ble_eq_true rfl) rfl rfl
            replace A : HH g h14 [.obj h2.size (.cells none 2 [vs eS x11.L, .bool x11.Closed]), .obj bp0 (.cells none 2 [.chan (some bp0_0), .str x8.now_, .int .i64 x8.size_, .bool x8.closed_]), .obj bp0_0 (.chan 64 (lst eS x9)), .obj h1.size (.cells none 2 [.int .i64 p2.Kind, .int .i64 p2.N, .str p2.S]), .obj h.size (.cells none 2 [vs eS p1.L, .bool p1.Closed])] F := A.glueP (n := 1) A1
            refine at_stepT (v := .tuple []) (h1 := h14) (tch' := [(9, h1.size), (2, h1.size), (0, h.size)]) (h1.size :: g.prot) [(6, .ptr (some (h2.size, 0))), (75, .bool (x6 == x12))] H (fun fr => by kernel_rfl) (by kernel_rfl) (fun fr => by kernel_rfl) (fun fr => .of (s_stG (by kernel_rfl) (stG_st hx rfl))) ?_
            intro fr H
            refine at_seg [(14, [])] [(6, .ptr (some (h2.size, 0))), (7, .bool (x6 == x12))] H (noU_all rfl) (fun fr => by kernel_rfl) ?_
            intro fr H
            refine at_nil ?_
            show AW cfg 12 g (right (right (right (right (left (right (right (right (left (right (left (right (bodyC cfg.P 12))))))))))))) fr h14 _
            refine aw_ret (by kernel_rfl) ?_
            have e0 := Option.some.inj hm
            obtain ⟨y0, z0⟩ := Prod.mk.inj e0
            obtain ⟨y1, z1⟩ := Prod.mk.inj z0
            obtain ⟨y2, z2⟩ := Prod.mk.inj z1
            subst y0
            subst y1
            subst y2
            subst z2
            refine ⟨.inl rfl, .tuple [.agg [vs eS x11.L, .bool x11.Closed], .bool (x6 == x12)], resL_many (.cell (resT H (fun fr => by kernel_rfl)) (load_ldA (by kernel_rfl) (by kernel_rfl) (A.ldA 0 rfl (o := 0) (n := 2) ⟨Nat.le_of_ble_eq_true rfl, rfl⟩)) (.tmp (resT H (fun fr => by kernel_rfl)) .nil)), ?_⟩
            replace A : HH g h14 [.obj bp0 (.cells none 2 [.chan (some bp0_0), .str x8.now_, .int .i64 x8.size_, .bool x8.closed_]), .obj bp0_0 (.chan 64 (lst eS x9))] F := (HH.dropF ((A.front 2 rfl).front 2 rfl) 2)
            exact ⟨rfl, A⟩
          · replace H := H.know 68 hb (by kernel_rfl)
            refine at_seg [(6, []), (7, []), (8, []), (9, []), (10, []), (11, []), (12, [])] [(6, .ptr (some (h2.size, 0))), (66, .agg [vs eS x11.L, .bool x11.Closed]), (75, .bool false)] H (noU_all rfl) (fun fr => by kernel_rfl) ?_
            intro fr H
            obtain ⟨h15, hx, A1⟩ := A.st 2 rfl (o := 0) (new := [vs eS x11.L, .bool x11.Closed]) (ds := [vs eS x11.L, .bool x11.Closed]) (Nat.le_of_ble_eq_true rfl) rfl rfl
            replace A : HH g h15 [.obj bp0 (.cells none 2 [.chan (some bp0_0), .str x8.now_, .int .i64 x8.size_, .bool x8.closed_]), .obj bp0_0 (.chan 64 (lst eS x9)), .obj h2.size (.cells none 2 [vs eS x11.L, .bool x11.Closed]), .obj h1.size (.cells none 2 [.int .i64 p2.Kind, .int .i64 p2.N, .str p2.S]), .obj h.size (.cells none 2 [vs eS p1.L, .bool p1.Closed])] F := A1
            refine at_stepT (v := .tuple []) (h1 := h15) (tch' := [(2, h1.size), (0, h.size)]) (g.prot) [(6, .ptr (some (h2.size, 0))), (75, .bool false)] H (fun fr => by kernel_rfl) (by kernel_rfl) (fun fr => by kernel_rfl) (fun fr => .of (s_stG (by kernel_rfl) (stG_st hx rfl))) ?_
            intro fr H
            refine at_seg [(14, [])] [(6, .ptr (some (h2.size, 0))), (7, .bool false)] H (noU_all rfl) (fun fr => by kernel_rfl) ?_
            intro fr H
            refine at_nil ?_
            show AW cfg 12 g (right (right (right (right (left (right (right (right (left (right (left (right (bodyC cfg.P 12))))))))))))) fr h15 _
            refine aw_ret (by kernel_rfl) ?_
            have e0 := Option.some.inj hm
            obtain ⟨y0, z0⟩ := Prod.mk.inj e0
            obtain ⟨y1, z1⟩ := Prod.mk.inj z0
            obtain ⟨y2, z2⟩ := Prod.mk.inj z1
            subst y0
            subst y1
            subst y2
            subst z2
            refine ⟨.inl rfl, .tuple [.agg [vs eS x11.L, .bool x11.Closed], .bool false], resL_many (.cell (resT H (fun fr => by kernel_rfl)) (load_ldA (by kernel_rfl) (by kernel_rfl) (A.ldA 2 rfl (o := 0) (n := 2) ⟨Nat.le_of_ble_eq_true rfl, rfl⟩)) (.tmp (resT H (fun fr => by kernel_rfl)) .nil)), ?_⟩
            replace A : HH g h15 [.obj bp0 (.cells none 2 [.chan (some bp0_0), .str x8.now_, .int .i64 x8.size_, .bool x8.closed_]), .obj bp0_0 (.chan 64 (lst eS x9))] F := (HH.dropF ((A.front 1 rfl).front 1 rfl) 2)
            exact ⟨rfl, A⟩
    · replace H := H.know 35 hb (by kernel_rfl)
      refine aw_false (x := .tmp 35) (by kernel_rfl) H (fun fr => by kernel_rfl) ?_
      refine aw_seq (by kernel_rfl) ?_
      refine aw_reg (id := 11) (n := 2) [(0, []), (1, [])] (by kernel_rfl) (by kernel_rfl) ?_
      refine at_seg [(0, []), (1, [])] [(0, .ptr (some (bp0, 0))), (4, .ptr (some (h.size, 0))), (5, .ptr (some (h1.size, 0))), (6, .ptr (some (h2.size, 0))), (17, .int .i64 p2.Kind), (76, .bool (p2.Kind == (3 : Int)))] H (noU_all rfl) (fun fr => by kernel_rfl) ?_
      intro fr H
      refine at_nil ?_
      show AW cfg 12 g (right (right (right (right (right (left (right (left (right (bodyC cfg.P 12)))))))))) fr h3 _
      rcases iteB_some hm with ⟨hb, hm⟩ | ⟨hb, hm⟩
      · replace H := H.know 76 hb (by kernel_rfl)
        refine aw_true (x := .tmp 76) (by kernel_rfl) H (fun fr => by kernel_rfl) ?_
        refine aw_seq (by kernel_rfl) ?_
        refine aw_reg (id := 12) (n := 3) [(0, []), (1, []), (2, [])] (by kernel_rfl) (by kernel_rfl) ?_
        refine at_step (v := .agg [vs eS p1.L, .bool p1.Closed]) (h1 := h3) [(0, .ptr (some (bp0, 0))), (4, .ptr (some (h.size, 0))), (5, .ptr (some (h1.size, 0))), (6, .ptr (some (h2.size, 0))), (78, .agg [vs eS p1.L, .bool p1.Closed])] H (fun fr => by kernel_rfl) (fun fr => .of (s_ldA (by kernel_rfl) (A.ldA 2 rfl (o := 0) (n := 2) ⟨Nat.le_of_ble_eq_true rfl, rfl⟩))) ?_
        intro fr t H
        have A1 := A.cut 0
        obtain ⟨x13, hx, hm⟩ := bind_some hm
        obtain ⟨v1, h16, hr, rfl, A1⟩ := ok_boulterref08_All (av := [.agg [vs eS p1.L, .bool p1.Closed]]) hx (by kernel_rfl) A1
        replace A : HH g h16 [.obj h2.size (.cells none 2 [.slice none 0, .bool false]), .obj h1.size (.cells none 2 [.int .i64 p2.Kind, .int .i64 p2.N, .str p2.S]), .obj h.size (.cells none 2 [vs eS p1.L, .bool p1.Closed]), .obj bp0 (.cells none 2 [.chan (some bp0_0), .str p0.now_, .int .i64 p0.size_, .bool p0.closed_]), .obj bp0_0 (.chan 64 (lst eS p0.wait_))] F := A.glue0 (n := 0) A1
        refine at_step (v := .str x13) (h1 := h16) [(0, .ptr (some (bp0, 0))), (4, .ptr (some (h.size, 0))), (5, .ptr (some (h1.size, 0))), (6, .ptr (some (h2.size, 0))), (79, .str x13)] H (fun fr => by kernel_rfl) (fun fr => Steps.call (by kernel_rfl) hr) ?_
        intro fr t H
        refine at_seg [(2, [])] [(0, .ptr (some (bp0, 0))), (4, .ptr (some (h.size, 0))), (5, .ptr (some (h1.size, 0))), (6, .ptr (some (h2.size, 0))), (13, .str x13)] H (noU_all rfl) (fun fr => by kernel_rfl) ?_
        intro fr H
        refine at_nil ?_
        show AW cfg 12 g (right (left (right (right (right (right (right (left (right (left (right (bodyC cfg.P 12)))))))))))) fr h16 _
        refine aw_seq (by kernel_rfl) ?_
        refine aw_reg (id := 13) (n := 7) [(0, []), (1, []), (2, []), (3, []), (4, []), (5, []), (6, [])] (by kernel_rfl) (by kernel_rfl) ?_
        refine at_seg [(0, [])] [(0, .ptr (some (bp0, 0))), (4, .ptr (some (h.size, 0))), (5, .ptr (some (h1.size, 0))), (6, .ptr (some (h2.size, 0))), (13, .str x13), (80, .ptr (some (h1.size, 1)))] H (noU_all rfl) (fun fr => by kernel_rfl) ?_
        intro fr H
        refine at_step (v := .int .i64 p2.N) (h1 := h16) [(0, .ptr (some (bp0, 0))), (4, .ptr (some (h.size, 0))), (5, .ptr (some (h1.size, 0))), (6, .ptr (some (h2.size, 0))), (13, .str x13), (81, .int .i64 p2.N)] H (fun fr => by kernel_rfl) (fun fr => .of (s_ld (by kernel_rfl) (A.ld1 1 rfl (o := 1) rfl))) ?_
        intro fr t H
        refine at_seg [(2, []), (3, []), (4, []), (5, []), (6, [])] [(0, .ptr (some (bp0, 0))), (4, .ptr (some (h.size, 0))), (5, .ptr (some (h1.size, 0))), (6, .ptr (some (h2.size, 0))), (13, .str x13), (14, .int .i64 (mx (mn p2.N (x13.length : Int)) (0 : Int)))] H (noU_all rfl) (fun fr => by kernel_rfl) ?_
        intro fr H
        refine at_nil ?_
        show AW cfg 12 g (right (right (left (right (right (right (right (right (left (right (left (right (bodyC cfg.P 12))))))))))))) fr h16 _
        refine aw_seq (by kernel_rfl) ?_
        refine aw_draw (id := 14) (n := 13) (by kernel_rfl) [(0, []), (1, []), (3, []), (4, []), (5, []), (2, [5]), (6, []), (7, []), (8, []), (9, []), (10, []), (11, []), (12, [])] (by kernel_rfl) ?_
        refine at_stepT (v := .agg [vs eS p1.L, .bool p1.Closed]) (h1 := h16) (tch' := [(0, h.size)]) (g.prot) [(0, .ptr (some (bp0, 0))), (5, .ptr (some (h1.size, 0))), (6, .ptr (some (h2.size, 0))), (13, .str x13), (14, .int .i64 (mx (mn p2.N (x13.length : Int)) (0 : Int))), (86, .agg [vs eS p1.L, .bool p1.Closed])] H (fun fr => by kernel_rfl) (by kernel_rfl) (fun fr => by kernel_rfl) (fun fr => .of (s_ldA (by kernel_rfl) (A.ldA 2 rfl (o := 0) (n := 2) ⟨Nat.le_of_ble_eq_true rfl, rfl⟩))) ?_
        intro fr H
        refine at_seg [(1, []), (3, []), (4, [])] [(6, .ptr (some (h2.size, 0))), (13, .str x13), (14, .int .i64 (mx (mn p2.N (x13.length : Int)) (0 : Int))), (86, .agg [vs eS p1.L, .bool p1.Closed]), (87, .int .i64 (mx (mn p2.N (x13.length : Int)) (0 : Int))), (89, .ptr (some (bp0, 0))), (90, .ptr (some (h1.size, 1)))] H (noU_all rfl) (fun fr => by kernel_rfl) ?_
        intro fr H
        refine at_stepT (v := .int .i64 p2.N) (h1 := h16) (tch' := [(5, h1.size), (0, h.size)]) (g.prot) [(6, .ptr (some (h2.size, 0))), (13, .str x13), (14, .int .i64 (mx (mn p2.N (x13.length : Int)) (0 : Int))), (86, .agg [vs eS p1.L, .bool p1.Closed]), (87, .int .i64 (mx (mn p2.N (x13.length : Int)) (0 : Int))), (89, .ptr (some (bp0, 0))), (91, .int .i64 p2.N)] H (fun fr => by kernel_rfl) (by kernel_rfl) (fun fr => by kernel_rfl) (fun fr => .of (s_ld (by kernel_rfl) (A.ld1 1 rfl (o := 1) rfl))) ?_
        intro fr H
        have A1 := A.prot2 0 (pr := [h1.size]) (.cons 1 rfl (by simp [Ck.ids]) .nil)
        obtain ⟨x14, hx, hm⟩ := bind_some hm
        obtain ⟨v1, h17, hr, rfl, A1⟩ := ok_boulterref08_Drop (av := [.agg [vs eS p1.L, .bool p1.Closed], .int .i64 (mx (mn p2.N (x13.length : Int)) (0 : Int))]) hx (by kernel_rfl) A1
        replace A : HH g h17 [.obj h2.size (.cells none 2 [.slice none 0, .bool false]), .obj h1.size (.cells none 2 [.int .i64 p2.Kind, .int .i64 p2.N, .str p2.S]), .obj h.size (.cells none 2 [vs eS p1.L, .bool p1.Closed]), .obj bp0 (.cells none 2 [.chan (some bp0_0), .str p0.now_, .int .i64 p0.size_, .bool p0.closed_]), .obj bp0_0 (.chan 64 (lst eS p0.wait_))] F := A.glueP (n := 0) A1
        refine at_stepT (v := .agg [vs eS x14.L, .bool x14.Closed]) (h1 := h17) (tch' := [(5, h1.size), (0, h.size)]) (h1.size :: g.prot) [(6, .ptr (some (h2.size, 0))), (13, .str x13), (14, .int .i64 (mx (mn p2.N (x13.length : Int)) (0 : Int))), (88, .agg [vs eS x14.L, .bool x14.Closed]), (89, .ptr (some (bp0, 0))), (91, .int .i64 p2.N)] H (fun fr => by kernel_rfl) (by kernel_rfl) (fun fr => by kernel_rfl) (fun fr => Steps.call (by kernel_rfl) hr) ?_
        intro fr H
        replace A : HH g h17 [.obj bp0 (.cells none 2 [.chan (some bp0_0), .str p0.now_, .int .i64 p0.size_, .bool p0.closed_]), .obj bp0_0 (.chan 64 (lst eS p0.wait_)), .obj h2.size (.cells none 2 [.slice none 0, .bool false]), .obj h1.size (.cells none 2 [.int .i64 p2.Kind, .int .i64 p2.N, .str p2.S]), .obj h.size (.cells none 2 [vs eS p1.L, .bool p1.Closed])] F := ((A.front 4 rfl).front 4 rfl)
        have A1 := A.cut 2
        obtain ⟨⟨x15, x16, x17⟩, hx, hm⟩ := bind_some hm
        obtain ⟨v1, h18, hr, rfl, A1⟩ := ok_feed_Feed_Some_sPCHI (av := [.ptr (some (bp0, 0)), .int .i64 p2.N]) hx (by kernel_rfl) A1
        replace A : HH g h18 [.obj bp0 (.cells none 2 [.chan (some bp0_0), .str x16.now_, .int .i64 x16.size_, .bool x16.closed_]), .obj bp0_0 (.chan 64 (lst eS x17)), .obj h2.size (.cells none 2 [.slice none 0, .bool false]), .obj h1.size (.cells none 2 [.int .i64 p2.Kind, .int .i64 p2.N, .str p2.S]), .obj h.size (.cells none 2 [vs eS p1.L, .bool p1.Closed])] F := A.glue0 (n := 2) A1
        refine at_stepT (v := .str x15) (h1 := h18) (tch' := [(5, h1.size), (0, h.size)]) (g.prot) [(6, .ptr (some (h2.size, 0))), (13, .str x13), (14, .int .i64 (mx (mn p2.N (x13.length : Int)) (0 : Int))), (88, .agg [vs eS x14.L, .bool x14.Closed]), (92, .str x15)] H (fun fr => by kernel_rfl) (by kernel_rfl) (fun fr => by kernel_rfl) (fun fr => Steps.call (by kernel_rfl) hr) ?_
        intro fr H
        refine at_seg [(7, []), (8, [])] [(6, .ptr (some (h2.size, 0))), (88, .agg [vs eS x14.L, .bool x14.Closed]), (92, .str x15), (93, .str x13), (94, .int .i64 (mx (mn p2.N (x13.length : Int)) (0 : Int)))] H (noU_all rfl) (fun fr => by kernel_rfl) ?_
        intro fr H
        obtain ⟨x18, hx, hm⟩ := bind_some hm
        refine at_stepT (v := .str x18) (h1 := h18) (tch' := [(5, h1.size), (0, h.size)]) (g.prot) [(6, .ptr (some (h2.size, 0))), (88, .agg [vs eS x14.L, .bool x14.Closed]), (92, .str x15), (95, .str x18)] H (fun fr => by kernel_rfl) (by kernel_rfl) (fun fr => by kernel_rfl) (fun fr => .of (s_subS (k := .i64) (k' := .i64) (lo := none) (hi := (some (mx (mn p2.N (x13.length : Int)) (0 : Int)))) (by kernel_rfl) hx)) ?_
        intro fr H
        refine at_seg [(10, [])] [(6, .ptr (some (h2.size, 0))), (88, .agg [vs eS x14.L, .bool x14.Closed]), (96, .bool (x15 == x18))] H (noU_all rfl) (fun fr => by kernel_rfl) ?_
        intro fr H
        obtain ⟨h19, hx, A1⟩ := A.st 2 rfl (o := 0) (new := [vs eS x14.L, .bool x14.Closed]) (ds := [vs eS x14.L, .bool x14.Closed]) (Nat.le_of_ble_eq_true rfl) rfl rfl
        replace A : HH g h19 [.obj bp0 (.cells none 2 [.chan (some bp0_0), .str x16.now_, .int .i64 x16.size_, .bool x16.closed_]), .obj bp0_0 (.chan 64 (lst eS x17)), .obj h2.size (.cells none 2 [vs eS x14.L, .bool x14.Closed]), .obj h1.size (.cells none 2 [.int .i64 p2.Kind, .int .i64 p2.N, .str p2.S]), .obj h.size (.cells none 2 [vs eS p1.L, .bool p1.Closed])] F := A1
        refine at_stepT (v := .tuple []) (h1 := h19) (tch' := [(5, h1.size), (0, h.size)]) (g.prot) [(6, .ptr (some (h2.size, 0))), (96, .bool (x15 == x18))] H (fun fr => by kernel_rfl) (by kernel_rfl) (fun fr => by kernel_rfl) (fun fr => .of (s_stG (by kernel_rfl) (stG_st hx rfl))) ?_
        intro fr H
        refine at_seg [(12, [])] [(6, .ptr (some (h2.size, 0))), (7, .bool (x15 == x18))] H (noU_all rfl) (fun fr => by kernel_rfl) ?_
        intro fr H
        refine at_nil ?_
        show AW cfg 12 g (right (right (right (left (right (right (right (right (right (left (right (left (right (bodyC cfg.P 12)))))))))))))) fr h19 _
        refine aw_ret (by kernel_rfl) ?_
        have e0 := Option.some.inj hm
        obtain ⟨y0, z0⟩ := Prod.mk.inj e0
        obtain ⟨y1, z1⟩ := Prod.mk.inj z0
        obtain ⟨y2, z2⟩ := Prod.mk.inj z1
        subst y0
        subst y1
        subst y2
        subst z2
        refine ⟨.inl rfl, .tuple [.agg [vs eS x14.L, .bool x14.Closed], .bool (x15 == x18)], resL_many (.cell (resT H (fun fr => by kernel_rfl)) (load_ldA (by kernel_rfl) (by kernel_rfl) (A.ldA 2 rfl (o := 0) (n := 2) ⟨Nat.le_of_ble_eq_true rfl, rfl⟩)) (.tmp (resT H (fun fr => by kernel_rfl)) .nil)), ?_⟩
        replace A : HH g h19 [.obj bp0 (.cells none 2 [.chan (some bp0_0), .str x16.now_, .int .i64 x16.size_, .bool x16.closed_]), .obj bp0_0 (.chan 64 (lst eS x17))] F := (HH.dropF ((A.front 1 rfl).front 1 rfl) 2)
        exact ⟨rfl, A⟩
      · replace H := H.know 76 hb (by kernel_rfl)
        refine aw_false (x := .tmp 76) (by kernel_rfl) H (fun fr => by kernel_rfl) ?_
        refine aw_seq (by kernel_rfl) ?_
        refine aw_reg (id := 15) (n := 2) [(0, []), (1, [])] (by kernel_rfl) (by kernel_rfl) ?_
        refine at_seg [(0, []), (1, [])] [(0, .ptr (some (bp0, 0))), (4, .ptr (some (h.size, 0))), (6, .ptr (some (h2.size, 0))), (97, .bool (p2.Kind == (4 : Int)))] H (noU_all rfl) (fun fr => by kernel_rfl) ?_
        intro fr H
        refine at_nil ?_
        show AW cfg 12 g (right (right (right (right (right (right (right (left (right (left (right (bodyC cfg.P 12)))))))))))) fr h3 _
        rcases iteB_some hm with ⟨hb, hm⟩ | ⟨hb, hm⟩
        · replace H := H.know 97 hb (by kernel_rfl)
          refine aw_true (x := .tmp 97) (by kernel_rfl) H (fun fr => by kernel_rfl) ?_
          refine aw_seq (by kernel_rfl) ?_
          refine aw_reg (id := 16) (n := 3) [(0, []), (1, []), (2, [])] (by kernel_rfl) (by kernel_rfl) ?_
          refine at_seg [(0, [])] [(4, .ptr (some (h.size, 0))), (6, .ptr (some (h2.size, 0))), (99, .ptr (some (bp0, 0)))] H (noU_all rfl) (fun fr => by kernel_rfl) ?_
          intro fr H
          replace A : HH g h3 [.obj bp0 (.cells none 2 [.chan (some bp0_0), .str p0.now_, .int .i64 p0.size_, .bool p0.closed_]), .obj bp0_0 (.chan 64 (lst eS p0.wait_)), .obj h2.size (.cells none 2 [.slice none 0, .bool false]), .obj h1.size (.cells none 2 [.int .i64 p2.Kind, .int .i64 p2.N, .str p2.S]), .obj h.size (.cells none 2 [vs eS p1.L, .bool p1.Closed])] F := ((A.front 4 rfl).front 4 rfl)
          have A1 := A.cut 2
          obtain ⟨⟨x19, x20⟩, hx, hm⟩ := bind_some hm
          obtain ⟨v1, h20, hr, rfl, A1⟩ := ok_feed_Feed_Close_sPCH (av := [.ptr (some (bp0, 0))]) hx (by kernel_rfl) A1
          replace A : HH g h20 [.obj bp0 (.cells none 2 [.chan (some bp0_0), .str x20.now_, .int .i64 x20.size_, .bool x20.closed_]), .obj bp0_0 (.chan 64 (lst eS p0.wait_)), .obj h2.size (.cells none 2 [.slice none 0, .bool false]), .obj h1.size (.cells none 2 [.int .i64 p2.Kind, .int .i64 p2.N, .str p2.S]), .obj h.size (.cells none 2 [vs eS p1.L, .bool p1.Closed])] F := A.glue0 (n := 2) A1
          refine at_step (v := .int .i64 x19) (h1 := h20) [(4, .ptr (some (h.size, 0))), (6, .ptr (some (h2.size, 0))), (100, .int .i64 x19)] H (fun fr => by kernel_rfl) (fun fr => Steps.call (by kernel_rfl) hr) ?_
          intro fr t H
          refine at_seg [(2, [])] [(4, .ptr (some (h.size, 0))), (6, .ptr (some (h2.size, 0))), (15, .int .i64 x19)] H (noU_all rfl) (fun fr => by kernel_rfl) ?_
          intro fr H
          refine at_nil ?_
          show AW cfg 12 g (right (left (right (right (right (right (right (right (right (left (right (left (right (bodyC cfg.P 12)))))))))))))) fr h20 _
          refine aw_seq (by kernel_rfl) ?_
          refine aw_seq (by kernel_rfl) ?_
          refine aw_reg (id := 17) (n := 2) [(0, []), (1, [])] (by kernel_rfl) (by kernel_rfl) ?_
          refine at_seg [(0, [])] [(4, .ptr (some (h.size, 0))), (6, .ptr (some (h2.size, 0))), (15, .int .i64 x19), (101, .ptr (some (h.size, 1)))] H (noU_all rfl) (fun fr => by kernel_rfl) ?_
          intro fr H
          refine at_step (v := .bool p1.Closed) (h1 := h20) [(4, .ptr (some (h.size, 0))), (6, .ptr (some (h2.size, 0))), (15, .int .i64 x19), (102, .bool p1.Closed)] H (fun fr => by kernel_rfl) (fun fr => .of (s_ld (by kernel_rfl) (A.ld1 4 rfl (o := 1) rfl))) ?_
          intro fr t H
          refine at_nil ?_
          show AW cfg 12 g (right (left (right (left (right (right (right (right (right (right (right (left (right (left (right (bodyC cfg.P 12)))))))))))))))) fr h20 _
          rcases iteB_some hm with ⟨hb, hm⟩ | ⟨hb, hm⟩
          · replace H := H.know 102 hb (by kernel_rfl)
            refine aw_true (x := .tmp 102) (by kernel_rfl) H (fun fr => by kernel_rfl) ?_
            refine aw_seq (by kernel_rfl) ?_
            refine aw_reg (id := 18) (n := 5) [(0, []), (1, []), (2, []), (3, []), (4, [])] (by kernel_rfl) (by kernel_rfl) ?_
            refine at_step (v := .agg [vs eS p1.L, .bool p1.Closed]) (h1 := h20) [(6, .ptr (some (h2.size, 0))), (15, .int .i64 x19), (103, .agg [vs eS p1.L, .bool p1.Closed])] H (fun fr => by kernel_rfl) (fun fr => .of (s_ldA (by kernel_rfl) (A.ldA 4 rfl (o := 0) (n := 2) ⟨Nat.le_of_ble_eq_true rfl, rfl⟩))) ?_
            intro fr t H
            refine at_seg [(1, []), (2, [])] [(6, .ptr (some (h2.size, 0))), (103, .agg [vs eS p1.L, .bool p1.Closed]), (105, .bool (x19 == (10 : Int)))] H (noU_all rfl) (fun fr => by kernel_rfl) ?_
            intro fr H
            obtain ⟨h21, hx, A1⟩ := A.st 2 rfl (o := 0) (new := [vs eS p1.L, .bool p1.Closed]) (ds := [vs eS p1.L, .bool p1.Closed]) (Nat.le_of_ble_eq_true rfl) rfl rfl
            replace A : HH g h21 [.obj bp0 (.cells none 2 [.chan (some bp0_0), .str x20.now_, .int .i64 x20.size_, .bool x20.closed_]), .obj bp0_0 (.chan 64 (lst eS p0.wait_)), .obj h2.size (.cells none 2 [vs eS p1.L, .bool p1.Closed]), .obj h1.size (.cells none 2 [.int .i64 p2.Kind, .int .i64 p2.N, .str p2.S]), .obj h.size (.cells none 2 [vs eS p1.L, .bool p1.Closed])] F := A1
            refine at_step (v := .tuple []) (h1 := h21) [(6, .ptr (some (h2.size, 0))), (105, .bool (x19 == (10 : Int)))] H (fun fr => by kernel_rfl) (fun fr => .of (s_stG (by kernel_rfl) (stG_st hx rfl))) ?_
            intro fr t H
            refine at_seg [(4, [])] [(6, .ptr (some (h2.size, 0))), (7, .bool (x19 == (10 : Int)))] H (noU_all rfl) (fun fr => by kernel_rfl) ?_
            intro fr H
            refine at_nil ?_
            show AW cfg 12 g (right (left (right (left (right (left (right (right (right (right (right (right (right (left (right (left (right (bodyC cfg.P 12)))))))))))))))))) fr h21 _
            refine aw_ret (by kernel_rfl) ?_
            have e0 := Option.some.inj hm
            obtain ⟨y0, z0⟩ := Prod.mk.inj e0
            obtain ⟨y1, z1⟩ := Prod.mk.inj z0
            obtain ⟨y2, z2⟩ := Prod.mk.inj z1
            subst y0
            subst y1
            subst y2
            subst z2
            refine ⟨.inl rfl, .tuple [.agg [vs eS p1.L, .bool p1.Closed], .bool (x19 == (10 : Int))], resL_many (.cell (resT H (fun fr => by kernel_rfl)) (load_ldA (by kernel_rfl) (by kernel_rfl) (A.ldA 2 rfl (o := 0) (n := 2) ⟨Nat.le_of_ble_eq_true rfl, rfl⟩)) (.tmp (resT H (fun fr => by kernel_rfl)) .nil)), ?_⟩
            replace A : HH g h21 [.obj bp0 (.cells none 2 [.chan (some bp0_0), .str x20.now_, .int .i64 x20.size_, .bool x20.closed_]), .obj bp0_0 (.chan 64 (lst eS p0.wait_))] F := (HH.dropF ((A.front 1 rfl).front 1 rfl) 2)
            exact ⟨rfl, A⟩
          · replace H := H.know 102 hb (by kernel_rfl)
            refine aw_false (x := .tmp 102) (by kernel_rfl) H (fun fr => by kernel_rfl) ?_
            refine aw_skip (by kernel_rfl) ?_
            show AW cfg 12 g (right (right (left (right (right (right (right (right (right (right (left (right (left (right (bodyC cfg.P 12))))))))))))))) fr h20 _
            refine aw_seq (by kernel_rfl) ?_
            refine aw_reg (id := 19) (n := 2) [(0, []), (1, [])] (by kernel_rfl) (by kernel_rfl) ?_
            refine at_seg [(0, [])] [(4, .ptr (some (h.size, 0))), (6, .ptr (some (h2.size, 0))), (15, .int .i64 x19), (106, .ptr (some (h.size, 1)))] H (noU_all rfl) (fun fr => by kernel_rfl) ?_
            intro fr H
            obtain ⟨h22, hx, A1⟩ := A.st 4 rfl (o := 1) (new := [.bool true]) (ds := [vs eS p1.L, .bool true]) (Nat.le_of_ble_eq_true rfl) rfl rfl
            replace A : HH g h22 [.obj bp0 (.cells none 2 [.chan (some bp0_0), .str x20.now_, .int .i64 x20.size_, .bool x20.closed_]), .obj bp0_0 (.chan 64 (lst eS p0.wait_)), .obj h2.size (.cells none 2 [.slice none 0, .bool false]), .obj h1.size (.cells none 2 [.int .i64 p2.Kind, .int .i64 p2.N, .str p2.S]), .obj h.size (.cells none 2 [vs eS p1.L, .bool true])] F := A1
            refine at_step (v := .tuple []) (h1 := h22) [(4, .ptr (some (h.size, 0))), (6, .ptr (some (h2.size, 0))), (15, .int .i64 x19)] H (fun fr => by kernel_rfl) (fun fr => .of (s_st (by kernel_rfl) rfl hx)) ?_
            intro fr t H
            refine at_nil ?_
            show AW cfg 12 g (right (right (right (left (right (right (right (right (right (right (right (left (right (left (right (bodyC cfg.P 12)))))))))))))))) fr h22 _
            refine aw_seq (by kernel_rfl) ?_
            refine aw_reg (id := 20) (n := 5) [(0, []), (1, []), (2, []), (3, []), (4, [])] (by kernel_rfl) (by kernel_rfl) ?_
            refine at_step (v := .agg [vs eS p1.L, .bool true]) (h1 := h22) [(6, .ptr (some (h2.size, 0))), (15, .int .i64 x19), (107, .agg [vs eS p1.L, .bool true])] H (fun fr => by kernel_rfl) (fun fr => .of (s_ldA (by kernel_rfl) (A.ldA 4 rfl (o := 0) (n := 2) ⟨Nat.le_of_ble_eq_true rfl, rfl⟩))) ?_
            intro fr t H
            refine at_seg [(1, []), (2, [])] [(6, .ptr (some (h2.size, 0))), (107, .agg [vs eS p1.L, .bool true]), (109, .bool (x19 == (0 : Int)))] H (noU_all rfl) (fun fr => by kernel_rfl) ?_
            intro fr H
            obtain ⟨h23, hx, A1⟩ := A.st 2 rfl (o := 0) (new := [vs eS p1.L, .bool true]) (ds := [vs eS p1.L, .bool true]) (Nat.le_of_ble_eq_true rfl) rfl rfl
            replace A : HH g h23 [.obj bp0 (.cells none 2 [.chan (some bp0_0), .str x20.now_, .int .i64 x20.size_, .bool x20.closed_]), .obj bp0_0 (.chan 64 (lst eS p0.wait_)), .obj h2.size (.cells none 2 [vs eS p1.L, .bool true]), .obj h1.size (.cells none 2 [.int .i64 p2.Kind, .int .i64 p2.N, .str p2.S]), .obj h.size (.cells none 2 [vs eS p1.L, .bool true])] F := A1
            refine at_step (v := .tuple []) (h1 := h23) [(6, .ptr (some (h2.size, 0))), (109, .bool (x19 == (0 : Int)))] H (fun fr => by kernel_rfl) (fun fr => .of (s_stG (by kernel_rfl) (stG_st hx rfl))) ?_
            intro fr t H
            refine at_seg [(4, [])] [(6, .ptr (some (h2.size, 0))), (7, .bool (x19 == (0 : Int)))] H (noU_all rfl) (fun fr => by kernel_rfl) ?_
            intro fr H
            refine at_nil ?_
            show AW cfg 12 g (right (right (right (right (left (right (right (right (right (right (right (right (left (right (left (right (bodyC cfg.P 12))))))))))))))))) fr h23 _
            refine aw_ret (by kernel_rfl) ?_
            have e0 := Option.some.inj hm
            obtain ⟨y0, z0⟩ := Prod.mk.inj e0
            obtain ⟨y1, z1⟩ := Prod.mk.inj z0
            obtain ⟨y2, z2⟩ := Prod.mk.inj z1
            subst y0
            subst y1
            subst y2
            subst z2
            refine ⟨.inl rfl, .tuple [.agg [vs eS p1.L, .bool true], .bool (x19 == (0 : Int))], resL_many (.cell (resT H (fun fr => by kernel_rfl)) (load_ldA (by kernel_rfl) (by kernel_rfl) (A.ldA 2 rfl (o := 0) (n := 2) ⟨Nat.le_of_ble_eq_true rfl, rfl⟩)) (.tmp (resT H (fun fr => by kernel_rfl)) .nil)), ?_⟩
            replace A : HH g h23 [.obj bp0 (.cells none 2 [.chan (some bp0_0), .str x20.now_, .int .i64 x20.size_, .bool x20.closed_]), .obj bp0_0 (.chan 64 (lst eS p0.wait_))] F := (HH.dropF ((A.front 1 rfl).front 1 rfl) 2)
            exact ⟨rfl, A⟩
        · replace H := H.know 97 hb (by kernel_rfl)
          refine aw_false (x := .tmp 97) (by kernel_rfl) H (fun fr => by kernel_rfl) ?_
          refine aw_skip (by kernel_rfl) ?_
          show AW cfg 12 g (right (right (bodyC cfg.P 12))) fr h3 _
          refine aw_seq (by kernel_rfl) ?_
          refine aw_reg (id := 21) (n := 3) [(0, []), (1, []), (2, [])] (by kernel_rfl) (by kernel_rfl) ?_
          refine at_step (v := .agg [vs eS p1.L, .bool p1.Closed]) (h1 := h3) [(6, .ptr (some (h2.size, 0))), (110, .agg [vs eS p1.L, .bool p1.Closed])] H (fun fr => by kernel_rfl) (fun fr => .of (s_ldA (by kernel_rfl) (A.ldA 2 rfl (o := 0) (n := 2) ⟨Nat.le_of_ble_eq_true rfl, rfl⟩))) ?_
          intro fr t H
          obtain ⟨h24, hx, A1⟩ := A.st 0 rfl (o := 0) (new := [vs eS p1.L, .bool p1.Closed]) (ds := [vs eS p1.L, .bool p1.Closed]) (Nat.le_of_ble_eq_true rfl) rfl rfl
          replace A : HH g h24 [.obj h2.size (.cells none 2 [vs eS p1.L, .bool p1.Closed]), .obj h1.size (.cells none 2 [.int .i64 p2.Kind, .int .i64 p2.N, .str p2.S]), .obj h.size (.cells none 2 [vs eS p1.L, .bool p1.Closed]), .obj bp0 (.cells none 2 [.chan (some bp0_0), .str p0.now_, .int .i64 p0.size_, .bool p0.closed_]), .obj bp0_0 (.chan 64 (lst eS p0.wait_))] F := A1
          refine at_step (v := .tuple []) (h1 := h24) [(6, .ptr (some (h2.size, 0)))] H (fun fr => by kernel_rfl) (fun fr => .of (s_stG (by kernel_rfl) (stG_st hx rfl))) ?_
          intro fr t H
          refine at_seg [(2, [])] [(6, .ptr (some (h2.size, 0))), (7, .bool true)] H (noU_all rfl) (fun fr => by kernel_rfl) ?_
          intro fr H
          refine at_nil ?_
          show AW cfg 12 g (right (right (right (bodyC cfg.P 12)))) fr h24 _
          refine aw_ret (by kernel_rfl) ?_
          have e0 := Option.some.inj hm
          obtain ⟨y0, z0⟩ := Prod.mk.inj e0
          obtain ⟨y1, z1⟩ := Prod.mk.inj z0
          obtain ⟨y2, z2⟩ := Prod.mk.inj z1
          subst y0
          subst y1
          subst y2
          subst z2
          refine ⟨.inl rfl, .tuple [.agg [vs eS p1.L, .bool p1.Closed], .bool true], resL_many (.cell (resT H (fun fr => by kernel_rfl)) (load_ldA (by kernel_rfl) (by kernel_rfl) (A.ldA 0 rfl (o := 0) (n := 2) ⟨Nat.le_of_ble_eq_true rfl, rfl⟩)) (.tmp (resT H (fun fr => by kernel_rfl)) .nil)), ?_⟩
          replace A : HH g h24 [.obj bp0 (.cells none 2 [.chan (some bp0_0), .str p0.now_, .int .i64 p0.size_, .bool p0.closed_]), .obj bp0_0 (.chan 64 (lst eS p0.wait_))] F := (HH.dropF ((A.front 4 rfl).front 4 rfl) 2)
          exact ⟨rfl, A⟩
end Go.Av.L
