/-
  Models of functions, and that the abstract run tells them. Written by lift2.py.
-/
import Derived.Test.YteeaeioplbameaaKCfg
namespace Go.Av.L
open Go.Av Go.Lib
set_option maxRecDepth 10000
set_option linter.unusedVariables false
set_option linter.unusedSimpArgs false
/-! ### boulter/feed.New -/
noncomputable def M_feed_New : Option (S_feed_Feed) :=
 some (⟨([] : List (List UInt8)), ([] : List UInt8), (0 : Int), false⟩ : S_feed_Feed)
theorem ok_feed_New {g : Gd} {h : AHeap} {F : List Ck} {q00 : S_feed_Feed} {av : List AVal} (hm : M_feed_New = some q00) (hc : canL (cfg.still 6) av = []) (A : HH g h [] F) : ∃ v h', Runs cfg g h 6 av v h' ∧ ∃ (bq00 : Nat) (bq00_0 : Nat), v = .ptr (some (bq00, 0)) ∧ HH g h' [.obj bq00 (.cells none 2 [.chan (some bq00_0), .str q00.now_, .int .i64 q00.size_, .bool q00.closed_]), .obj bq00_0 (.chan 64 (lst eS q00.wait_))] F := by
  refine runsQ1 (n := 4) (rs := [.tmp 0]) (by kernel_rfl) hc (by kernel_rfl) ?_
  clear hc
  unfold M_feed_New at hm
  refine start (n := 4) [] (by kernel_rfl) (by kernel_rfl) ?_
  intro fr H
  refine aw_seq (by kernel_rfl) ?_
  refine aw_reg (id := 0) (n := 1) [(0, [])] (by kernel_rfl) (by kernel_rfl) ?_
  refine at_seg [(0, [])] [] H (noU_all rfl) (fun fr => by kernel_rfl) ?_
  intro fr H
  refine at_nil ?_
  show AW cfg 6 g (right (bodyC cfg.P 6)) fr h _
  refine aw_seq (by kernel_rfl) ?_
  refine aw_reg (id := 1) (n := 4) [(0, []), (1, []), (2, []), (3, [])] (by kernel_rfl) (by kernel_rfl) ?_
  obtain ⟨h1, e1⟩ : ∃ x, x = h.push (.chan 64 []) := ⟨_, rfl⟩
  replace A : HH g h1 [.obj h.size (.chan 64 (lst eS ([] : List (List UInt8))))] F := (A.push _).to e1
  refine at_step (v := .chan (some h.size)) (h1 := h1) [(1, .chan (some h.size))] H (fun fr => by kernel_rfl) (fun fr => .of (s_n' (by kernel_rfl) (congrArg some e1.symm))) ?_
  intro fr t H
  refine at_seg [(1, [])] [(2, .agg [.chan (some h.size), .str ([] : List UInt8), .int .i64 (0 : Int), .bool false])] H (noU_all rfl) (fun fr => by kernel_rfl) ?_
  intro fr H
  obtain ⟨h2, e2⟩ : ∃ x, x = h1.push (.cells none 2 [.chan (some h.size), .str ([] : List UInt8), .int .i64 (0 : Int), .bool false]) := ⟨_, rfl⟩
  replace A := (A.push _).to e2
  refine at_step (v := .ptr (some (h1.size, 0))) (h1 := h2) [(3, .ptr (some (h1.size, 0)))] H (fun fr => by kernel_rfl) (fun fr => .of (s_n' (by kernel_rfl) (congrArg some e2.symm))) ?_
  intro fr t H
  refine at_seg [(3, [])] [(0, .ptr (some (h1.size, 0)))] H (noU_all rfl) (fun fr => by kernel_rfl) ?_
  intro fr H
  refine at_nil ?_
  show AW cfg 6 g (right (right (bodyC cfg.P 6))) fr h2 _
  refine aw_ret (by kernel_rfl) ?_
  have e1 := Option.some.inj hm
  subst e1
  refine ⟨.inl rfl, .ptr (some (h1.size, 0)), resH H (fun fr => by kernel_rfl), ?_⟩
  exact ⟨h1.size, h.size, rfl, A⟩
/-! ### boulter/boulterlaw08.awake -/
def M_boulterlaw08_awake : Option Bool := some true
theorem ok_boulterlaw08_awake {g : Gd} {h : AHeap} {q0 : Bool} (hm : M_boulterlaw08_awake = some q0) : Runs cfg g h 7 [] (.bool q0) h := by
  have e1 := Option.some.inj hm
  subst e1
  exact runs4E (by kernel_rfl) rfl rfl (closed 1000 (by kernel_rfl))
/-! ### (*boulter/feed.Feed).Chunks -/
noncomputable def M_feed_Feed_Chunks_sPCH (p0 : S_feed_Feed) : Option (Int) :=
 (iteB (!(p0.now_ == ([] : List UInt8))) (some (IntKind.i64.wrap ((p0.wait_.length : Int) + (1 : Int)))) (some (p0.wait_.length : Int)) : Option ((Int))).bind fun x1 => some x1
theorem ok_feed_Feed_Chunks_sPCH {g : Gd} {h : AHeap} {F : List Ck} {p0 : S_feed_Feed} {bp0 : Nat} {bp0_0 : Nat} {q0 : Int} {av : List AVal} (hm : M_feed_Feed_Chunks_sPCH p0 = some q0) (hc : canL (cfg.still 11) av = [.ptr (some (bp0, 0))]) (A : HH g h [.obj bp0 (.cells none 2 [.chan (some bp0_0), .str p0.now_, .int .i64 p0.size_, .bool p0.closed_]), .obj bp0_0 (.chan 64 (lst eS p0.wait_))] F) : ∃ v h', Runs cfg g h 11 av v h' ∧ v = .int .i64 q0 ∧ HH g h' [.obj bp0 (.cells none 2 [.chan (some bp0_0), .str p0.now_, .int .i64 p0.size_, .bool p0.closed_]), .obj bp0_0 (.chan 64 (lst eS p0.wait_))] F := by
  refine runsQ1 (n := 17) (rs := [.tmp 2]) (by kernel_rfl) hc (by kernel_rfl) ?_
  clear hc
  unfold M_feed_Feed_Chunks_sPCH at hm
  refine start (n := 17) [(0, .ptr (some (bp0, 0)))] (by kernel_rfl) (by kernel_rfl) ?_
  intro fr H
  refine aw_seq (by kernel_rfl) ?_
  refine aw_reg (id := 0) (n := 1) [(0, [])] (by kernel_rfl) (by kernel_rfl) ?_
  refine at_seg [(0, [])] [(0, .ptr (some (bp0, 0)))] H (noU_all rfl) (fun fr => by kernel_rfl) ?_
  intro fr H
  refine at_nil ?_
  show AW cfg 11 g (right (bodyC cfg.P 11)) fr h _
  refine aw_seq (by kernel_rfl) ?_
  refine aw_reg (id := 1) (n := 6) [(0, []), (1, []), (2, []), (3, []), (4, []), (5, [])] (by kernel_rfl) (by kernel_rfl) ?_
  refine at_seg [(0, []), (1, []), (2, [])] [(0, .ptr (some (bp0, 0))), (6, .ptr (some (bp0, 0)))] H (noU_all rfl) (fun fr => by kernel_rfl) ?_
  intro fr H
  refine at_step (v := .chan (some bp0_0)) (h1 := h) [(0, .ptr (some (bp0, 0))), (7, .chan (some bp0_0))] H (fun fr => by kernel_rfl) (fun fr => .of (s_ld (by kernel_rfl) (A.ld1 0 rfl (o := 0) rfl))) ?_
  intro fr t H
  refine at_step (v := .int .i64 (p0.wait_.length : Int)) (h1 := h) [(0, .ptr (some (bp0, 0))), (8, .int .i64 (p0.wait_.length : Int))] H (fun fr => by kernel_rfl) (fun fr => .of (s_lenC (by kernel_rfl) (HH.clen encS A 1 rfl).1 (HH.clen encS A 1 (xs := p0.wait_) rfl).2)) ?_
  intro fr t H
  refine at_seg [(5, [])] [(0, .ptr (some (bp0, 0))), (3, .int .i64 (p0.wait_.length : Int))] H (noU_all rfl) (fun fr => by kernel_rfl) ?_
  intro fr H
  refine at_nil ?_
  show AW cfg 11 g (right (right (bodyC cfg.P 11))) fr h _
  refine aw_seq (by kernel_rfl) ?_
  obtain ⟨o1, ho, hm⟩ := bind_some hm
  refine aw_mono (Q' := fun e fr' h' => (∃ (x1 : Int), e = .normal ∧ x1 = o1 ∧ Has fr' 17 [(3, .int .i64 x1)] ∧ HH g h' [.obj bp0 (.cells none 2 [.chan (some bp0_0), .str p0.now_, .int .i64 p0.size_, .bool p0.closed_]), .obj bp0_0 (.chan 64 (lst eS p0.wait_))] F) ∨ False) ?_ ?_
  · replace hm := ho
    clear ho
    refine aw_seq (by kernel_rfl) ?_
    refine aw_reg (id := 2) (n := 5) [(0, []), (1, []), (2, []), (3, []), (4, [])] (by kernel_rfl) (by kernel_rfl) ?_
    refine at_seg [(0, []), (1, []), (2, [])] [(3, .int .i64 (p0.wait_.length : Int)), (11, .ptr (some (bp0, 1)))] H (noU_all rfl) (fun fr => by kernel_rfl) ?_
    intro fr H
    refine at_step (v := .str p0.now_) (h1 := h) [(3, .int .i64 (p0.wait_.length : Int)), (12, .str p0.now_)] H (fun fr => by kernel_rfl) (fun fr => .of (s_ld (by kernel_rfl) (A.ld1 0 rfl (o := 1) rfl))) ?_
    intro fr t H
    refine at_seg [(4, [])] [(3, .int .i64 (p0.wait_.length : Int)), (13, .bool (!(p0.now_ == ([] : List UInt8))))] H (noU_all rfl) (fun fr => by kernel_rfl) ?_
    intro fr H
    refine at_nil ?_
    show AW cfg 11 g (right (left (right (right (bodyC cfg.P 11))))) fr h _
    rcases iteB_some hm with ⟨hb, hm⟩ | ⟨hb, hm⟩
    · replace H := H.know 13 hb (by kernel_rfl)
      refine aw_true (x := .tmp 13) (by kernel_rfl) H (fun fr => by kernel_rfl) ?_
      refine aw_reg (id := 3) (n := 3) [(0, []), (1, []), (2, [])] (by kernel_rfl) (by kernel_rfl) ?_
      refine at_seg [(0, []), (1, []), (2, [])] [(3, .int .i64 (IntKind.i64.wrap ((p0.wait_.length : Int) + (1 : Int))))] H (noU_all rfl) (fun fr => by kernel_rfl) ?_
      intro fr H
      refine at_nil ?_
      exact Or.inl ⟨IntKind.i64.wrap ((p0.wait_.length : Int) + (1 : Int)), rfl, Option.some.inj hm, H.less _ (fun fr => by kernel_rfl), A⟩
    · replace H := H.know 13 hb (by kernel_rfl)
      refine aw_false (x := .tmp 13) (by kernel_rfl) H (fun fr => by kernel_rfl) ?_
      refine aw_skip (by kernel_rfl) ?_
      exact Or.inl ⟨(p0.wait_.length : Int), rfl, Option.some.inj hm, H.less _ (fun fr => by kernel_rfl), A⟩
  · clear ho
    clear A
    intro e fr h1 hQ
    rcases hQ with ⟨x1, rfl, rfl, H, A⟩ | hF
    · skip
      show AW cfg 11 g (right (right (right (bodyC cfg.P 11)))) fr h1 _
      refine aw_seq (by kernel_rfl) ?_
      refine aw_reg (id := 4) (n := 2) [(0, []), (1, [])] (by kernel_rfl) (by kernel_rfl) ?_
      refine at_seg [(0, []), (1, [])] [(2, .int .i64 x1)] H (noU_all rfl) (fun fr => by kernel_rfl) ?_
      intro fr H
      refine at_nil ?_
      show AW cfg 11 g (right (right (right (right (bodyC cfg.P 11))))) fr h1 _
      refine aw_ret (by kernel_rfl) ?_
      have e1 := Option.some.inj hm
      subst e1
      refine ⟨.inl rfl, .int .i64 x1, resH H (fun fr => by kernel_rfl), ?_⟩
      exact ⟨rfl, A⟩
    · exact hF.elim
/-! ### (*boulter/feed.Feed).Put -/
noncomputable def M_feed_Feed_Put_sPCHO (p0 : S_feed_Feed) (p1 : List UInt8) : Option (Int × S_feed_Feed × (List (List UInt8))) :=
 iteB (decide ((p1.length : Int) > (65536 : Int))) (some ((12 : Int), p0, p0.wait_)) (iteB p0.closed_ (some ((10 : Int), p0, p0.wait_)) (iteB ((p1.length : Int) == (0 : Int)) (some ((0 : Int), p0, p0.wait_)) ((M_feed_Feed_Chunks_sPCH p0).bind fun x1 => iteB (decide (x1 ≥ (64 : Int))) (some ((8 : Int), p0, p0.wait_)) (iteB (Nat.blt p0.wait_.length 64) (some ((0 : Int), (⟨(p0.wait_ ++ [p1]), p0.now_, IntKind.i64.wrap (p0.size_ + (p1.length : Int)), p0.closed_⟩ : S_feed_Feed), (p0.wait_ ++ [p1]))) (some ((8 : Int), p0, p0.wait_))))))
theorem ok_feed_Feed_Put_sPCHO {g : Gd} {h : AHeap} {F : List Ck} {p0 : S_feed_Feed} {p1 : List UInt8} {bp0 : Nat} {bp0_0 : Nat} {rp1 : Option Nat} {q0 : Int} {u0 : S_feed_Feed} {u1 : List (List UInt8)} {av : List AVal} (hm : M_feed_Feed_Put_sPCHO p0 p1 = some (q0, u0, u1)) (hc : canL (cfg.still 8) av = [.ptr (some (bp0, 0)), rowV rp1 p1.length]) (A : HH g h [.obj bp0 (.cells none 2 [.chan (some bp0_0), .str p0.now_, .int .i64 p0.size_, .bool p0.closed_]), .obj bp0_0 (.chan 64 (lst eS p0.wait_)), .lst rp1 5 (lst eY p1)] F) : ∃ v h', Runs cfg g h 8 av v h' ∧ v = .int .i64 q0 ∧ HH g h' [.obj bp0 (.cells none 2 [.chan (some bp0_0), .str u0.now_, .int .i64 u0.size_, .bool u0.closed_]), .obj bp0_0 (.chan 64 (lst eS u1)), .lst rp1 5 (lst eY p1)] F := by
  refine runsQ8 (n := 40) (rs := [.tmp 4]) (by kernel_rfl) hc (by kernel_rfl) ?_
  clear hc
  unfold M_feed_Feed_Put_sPCHO at hm
  refine startS (n := 40) [(0, .ptr (some (bp0, 0))), (1, rowV rp1 p1.length)] (by kernel_rfl) (by kernel_rfl) ?_
  intro fr H
  refine aws_seq (by kernel_rfl) ?_
  refine aws_of (by kernel_rfl) ?_
  refine aw_reg (id := 0) (n := 1) [(0, [])] (by kernel_rfl) (by kernel_rfl) ?_
  refine at_seg [(0, [])] [(0, .ptr (some (bp0, 0))), (1, rowV rp1 p1.length)] H (noU_all rfl) (fun fr => by kernel_rfl) ?_
  intro fr H
  refine at_nil ?_
  show AWS cfg 8 g (right (bodyC cfg.P 8)) fr h _
  refine aws_seq (by kernel_rfl) ?_
  refine aws_of (by kernel_rfl) ?_
  refine aw_block (id := 0) (by kernel_rfl) ?_
  refine aw_seq (by kernel_rfl) ?_
  refine aw_reg (id := 1) (n := 4) [(0, []), (1, []), (2, []), (3, [])] (by kernel_rfl) (by kernel_rfl) ?_
  refine at_seg [(0, []), (1, []), (2, []), (3, [])] [(0, .ptr (some (bp0, 0))), (1, rowV rp1 p1.length), (5, .bool (decide ((p1.length : Int) > (65536 : Int))))] H (noU_all rfl) (fun fr => by kernel_rfl) ?_
  intro fr H
  refine at_nil ?_
  show AW cfg 8 g (right (left (left (right (bodyC cfg.P 8))))) fr h _
  rcases iteB_some hm with ⟨hb, hm⟩ | ⟨hb, hm⟩
  · replace H := H.know 5 hb (by kernel_rfl)
    refine aw_true (x := .tmp 5) (by kernel_rfl) H (fun fr => by kernel_rfl) ?_
    refine aw_seq (by kernel_rfl) ?_
    refine aw_reg (id := 2) (n := 1) [(0, [])] (by kernel_rfl) (by kernel_rfl) ?_
    refine at_seg [(0, [])] [(4, .int .i64 (12 : Int))] H (noU_all rfl) (fun fr => by kernel_rfl) ?_
    intro fr H
    refine at_nil ?_
    show AW cfg 8 g (right (left (right (left (left (right (bodyC cfg.P 8))))))) fr h _
    refine aw_ret (by kernel_rfl) ?_
    have e0 := Option.some.inj hm
    obtain ⟨y0, z0⟩ := Prod.mk.inj e0
    obtain ⟨y1, z1⟩ := Prod.mk.inj z0
    subst y0
    subst y1
    subst z1
    refine ⟨.inl rfl, .int .i64 (12 : Int), resH H (fun fr => by kernel_rfl), ?_⟩
    exact ⟨rfl, A⟩
  · replace H := H.know 5 hb (by kernel_rfl)
    refine aw_false (x := .tmp 5) (by kernel_rfl) H (fun fr => by kernel_rfl) ?_
    refine aw_seq (by kernel_rfl) ?_
    refine aw_reg (id := 3) (n := 5) [(0, []), (1, []), (2, []), (3, []), (4, [])] (by kernel_rfl) (by kernel_rfl) ?_
    refine at_seg [(0, []), (1, []), (2, [])] [(0, .ptr (some (bp0, 0))), (1, rowV rp1 p1.length), (12, .ptr (some (bp0, 3)))] H (noU_all rfl) (fun fr => by kernel_rfl) ?_
    intro fr H
    refine at_step (v := .bool p0.closed_) (h1 := h) [(0, .ptr (some (bp0, 0))), (1, rowV rp1 p1.length), (13, .bool p0.closed_)] H (fun fr => by kernel_rfl) (fun fr => .of (s_ld (by kernel_rfl) (A.ld1 0 rfl (o := 3) rfl))) ?_
    intro fr t H
    refine at_seg [(4, [])] [(0, .ptr (some (bp0, 0))), (1, rowV rp1 p1.length), (9, .bool p0.closed_)] H (noU_all rfl) (fun fr => by kernel_rfl) ?_
    intro fr H
    refine at_nil ?_
    show AW cfg 8 g (right (right (right (left (left (right (bodyC cfg.P 8))))))) fr h _
    rcases iteB_some hm with ⟨hb, hm⟩ | ⟨hb, hm⟩
    · replace H := H.know 9 hb (by kernel_rfl)
      refine aw_true (x := .tmp 9) (by kernel_rfl) H (fun fr => by kernel_rfl) ?_
      refine aw_seq (by kernel_rfl) ?_
      refine aw_reg (id := 4) (n := 1) [(0, [])] (by kernel_rfl) (by kernel_rfl) ?_
      refine at_seg [(0, [])] [(4, .int .i64 (10 : Int))] H (noU_all rfl) (fun fr => by kernel_rfl) ?_
      intro fr H
      refine at_nil ?_
      show AW cfg 8 g (right (left (right (right (right (left (left (right (bodyC cfg.P 8))))))))) fr h _
      refine aw_ret (by kernel_rfl) ?_
      have e0 := Option.some.inj hm
      obtain ⟨y0, z0⟩ := Prod.mk.inj e0
      obtain ⟨y1, z1⟩ := Prod.mk.inj z0
      subst y0
      subst y1
      subst z1
      refine ⟨.inl rfl, .int .i64 (10 : Int), resH H (fun fr => by kernel_rfl), ?_⟩
      exact ⟨rfl, A⟩
    · replace H := H.know 9 hb (by kernel_rfl)
      refine aw_false (x := .tmp 9) (by kernel_rfl) H (fun fr => by kernel_rfl) ?_
      refine aw_seq (by kernel_rfl) ?_
      refine aw_reg (id := 5) (n := 4) [(0, []), (1, []), (2, []), (3, [])] (by kernel_rfl) (by kernel_rfl) ?_
      refine at_seg [(0, []), (1, []), (2, []), (3, [])] [(0, .ptr (some (bp0, 0))), (1, rowV rp1 p1.length), (14, .bool ((p1.length : Int) == (0 : Int)))] H (noU_all rfl) (fun fr => by kernel_rfl) ?_
      intro fr H
      refine at_nil ?_
      show AW cfg 8 g (right (right (right (right (right (left (left (right (bodyC cfg.P 8))))))))) fr h _
      rcases iteB_some hm with ⟨hb, hm⟩ | ⟨hb, hm⟩
      · replace H := H.know 14 hb (by kernel_rfl)
        refine aw_true (x := .tmp 14) (by kernel_rfl) H (fun fr => by kernel_rfl) ?_
        refine aw_seq (by kernel_rfl) ?_
        refine aw_reg (id := 6) (n := 1) [(0, [])] (by kernel_rfl) (by kernel_rfl) ?_
        refine at_seg [(0, [])] [(4, .int .i64 (0 : Int))] H (noU_all rfl) (fun fr => by kernel_rfl) ?_
        intro fr H
        refine at_nil ?_
        show AW cfg 8 g (right (left (right (right (right (right (right (left (left (right (bodyC cfg.P 8))))))))))) fr h _
        refine aw_ret (by kernel_rfl) ?_
        have e0 := Option.some.inj hm
        obtain ⟨y0, z0⟩ := Prod.mk.inj e0
        obtain ⟨y1, z1⟩ := Prod.mk.inj z0
        subst y0
        subst y1
        subst z1
        refine ⟨.inl rfl, .int .i64 (0 : Int), resH H (fun fr => by kernel_rfl), ?_⟩
        exact ⟨rfl, A⟩
      · replace H := H.know 14 hb (by kernel_rfl)
        refine aw_false (x := .tmp 14) (by kernel_rfl) H (fun fr => by kernel_rfl) ?_
        refine aw_seq (by kernel_rfl) ?_
        refine aw_reg (id := 7) (n := 4) [(0, []), (1, []), (2, []), (3, [])] (by kernel_rfl) (by kernel_rfl) ?_
        refine at_seg [(0, [])] [(0, .ptr (some (bp0, 0))), (1, rowV rp1 p1.length), (19, .ptr (some (bp0, 0)))] H (noU_all rfl) (fun fr => by kernel_rfl) ?_
        intro fr H
        have A1 := A.cut 2
        obtain ⟨x1, hx, hm⟩ := bind_some hm
        obtain ⟨v1, h1, hr, rfl, A1⟩ := ok_feed_Feed_Chunks_sPCH (av := [.ptr (some (bp0, 0))]) hx (by kernel_rfl) A1
        replace A : HH g h1 [.obj bp0 (.cells none 2 [.chan (some bp0_0), .str p0.now_, .int .i64 p0.size_, .bool p0.closed_]), .obj bp0_0 (.chan 64 (lst eS p0.wait_)), .lst rp1 5 (lst eY p1)] F := A.glue0 (n := 2) A1
        refine at_step (v := .int .i64 x1) (h1 := h1) [(0, .ptr (some (bp0, 0))), (1, rowV rp1 p1.length), (20, .int .i64 x1)] H (fun fr => by kernel_rfl) (fun fr => Steps.call (by kernel_rfl) hr) ?_
        intro fr t H
        refine at_seg [(2, []), (3, [])] [(0, .ptr (some (bp0, 0))), (1, rowV rp1 p1.length), (18, .bool (decide (x1 ≥ (64 : Int))))] H (noU_all rfl) (fun fr => by kernel_rfl) ?_
        intro fr H
        refine at_nil ?_
        show AW cfg 8 g (right (right (right (right (right (right (right (left (left (right (bodyC cfg.P 8))))))))))) fr h1 _
        rcases iteB_some hm with ⟨hb, hm⟩ | ⟨hb, hm⟩
        · replace H := H.know 18 hb (by kernel_rfl)
          refine aw_true (x := .tmp 18) (by kernel_rfl) H (fun fr => by kernel_rfl) ?_
          refine aw_seq (by kernel_rfl) ?_
          refine aw_reg (id := 8) (n := 1) [(0, [])] (by kernel_rfl) (by kernel_rfl) ?_
          refine at_seg [(0, [])] [(4, .int .i64 (8 : Int))] H (noU_all rfl) (fun fr => by kernel_rfl) ?_
          intro fr H
          refine at_nil ?_
          show AW cfg 8 g (right (left (right (right (right (right (right (right (right (left (left (right (bodyC cfg.P 8))))))))))))) fr h1 _
          refine aw_ret (by kernel_rfl) ?_
          have e0 := Option.some.inj hm
          obtain ⟨y0, z0⟩ := Prod.mk.inj e0
          obtain ⟨y1, z1⟩ := Prod.mk.inj z0
          subst y0
          subst y1
          subst z1
          refine ⟨.inl rfl, .int .i64 (8 : Int), resH H (fun fr => by kernel_rfl), ?_⟩
          exact ⟨rfl, A⟩
        · replace H := H.know 18 hb (by kernel_rfl)
          refine aw_false (x := .tmp 18) (by kernel_rfl) H (fun fr => by kernel_rfl) ?_
          refine aw_skip (by kernel_rfl) ?_
          show AWS cfg 8 g (right (right (bodyC cfg.P 8))) fr h1 _
          refine aws_seq (by kernel_rfl) ?_
          refine aws_seq (by kernel_rfl) ?_
          refine aws_of (by kernel_rfl) ?_
          refine aw_reg (id := 9) (n := 4) [(0, []), (1, []), (2, []), (3, [])] (by kernel_rfl) (by kernel_rfl) ?_
          refine at_seg [(0, []), (1, []), (2, [])] [(0, .ptr (some (bp0, 0))), (1, rowV rp1 p1.length), (24, .ptr (some (bp0, 0)))] H (noU_all rfl) (fun fr => by kernel_rfl) ?_
          intro fr H
          refine at_step (v := .chan (some bp0_0)) (h1 := h1) [(0, .ptr (some (bp0, 0))), (1, rowV rp1 p1.length), (25, .chan (some bp0_0))] H (fun fr => by kernel_rfl) (fun fr => .of (s_ld (by kernel_rfl) (A.ld1 0 rfl (o := 0) rfl))) ?_
          intro fr t H
          refine at_nil ?_
          show AWS cfg 8 g (right (left (right (right (bodyC cfg.P 8))))) fr h1 _
          refine aws_of (by kernel_rfl) ?_
          refine aw_reg (id := 10) (n := 2) [(0, []), (1, [])] (by kernel_rfl) (by kernel_rfl) ?_
          refine at_seg [(0, [])] [(0, .ptr (some (bp0, 0))), (1, rowV rp1 p1.length), (25, .chan (some bp0_0)), (26, rowV rp1 p1.length)] H (noU_all rfl) (fun fr => by kernel_rfl) ?_
          intro fr H
          refine at_step (v := .str p1) (h1 := h1) [(0, .ptr (some (bp0, 0))), (1, rowV rp1 p1.length), (25, .chan (some bp0_0)), (27, .str p1)] H (fun fr => by kernel_rfl) (fun fr => .of (s_byO (xs := p1) A 2 rfl (by kernel_rfl))) ?_
          intro fr t H
          refine at_nil ?_
          show AWS cfg 8 g (right (right (right (bodyC cfg.P 8)))) fr h1 _
          refine aws_seq (by kernel_rfl) ?_
          rcases iteB_some hm with ⟨hb, hm⟩ | ⟨hb, hm⟩
          · skip
            obtain ⟨h2, hx, A1⟩ := HH.sendRoom encS A 1 (xs := p0.wait_) (x := p1) (v := .str p1) rfl rfl hb
            replace A : HH g h2 [.obj bp0 (.cells none 2 [.chan (some bp0_0), .str p0.now_, .int .i64 p0.size_, .bool p0.closed_]), .obj bp0_0 (.chan 64 (lst eS (p0.wait_ ++ [p1]))), .lst rp1 5 (lst eY p1)] F := A1
            refine aws_sel (id := 11) (n := 2) (v := .tuple [.int .i64 (0 : Int), .bool false]) [(1, []), (2, [])] [(0, .ptr (some (bp0, 0))), (1, rowV rp1 p1.length), (28, .tuple [.int .i64 (0 : Int), .bool false])] (by kernel_rfl) (by kernel_rfl) (by kernel_rfl) H (fun fr => sel_send (by kernel_rfl) hx) (fun fr => by kernel_rfl) ?_
            intro fr H
            refine at_seg [(1, []), (2, [])] [(0, .ptr (some (bp0, 0))), (1, rowV rp1 p1.length), (30, .bool true)] H (noU_all rfl) (fun fr => by kernel_rfl) ?_
            intro fr H
            refine at_nil ?_
            show AWS cfg 8 g (right (right (right (right (bodyC cfg.P 8))))) fr h2 _
            refine aws_of (by kernel_rfl) ?_
            refine aw_block (id := 1) (by kernel_rfl) ?_
            refine aw_true (x := .tmp 30) (by kernel_rfl) H (fun fr => by kernel_rfl) ?_
            refine aw_seq (by kernel_rfl) ?_
            refine aw_reg (id := 13) (n := 10) [(0, []), (1, []), (2, []), (3, []), (4, []), (5, []), (6, []), (7, []), (8, []), (9, [])] (by kernel_rfl) (by kernel_rfl) ?_
            refine at_seg [(0, []), (1, []), (2, [])] [(1, rowV rp1 p1.length), (31, .ptr (some (bp0, 0))), (33, .ptr (some (bp0, 2)))] H (noU_all rfl) (fun fr => by kernel_rfl) ?_
            intro fr H
            refine at_step (v := .int .i64 p0.size_) (h1 := h2) [(1, rowV rp1 p1.length), (31, .ptr (some (bp0, 0))), (34, .int .i64 p0.size_)] H (fun fr => by kernel_rfl) (fun fr => .of (s_ld (by kernel_rfl) (A.ld1 0 rfl (o := 2) rfl))) ?_
            intro fr t H
            refine at_seg [(4, []), (5, []), (6, []), (7, []), (8, [])] [(37, .int .i64 (IntKind.i64.wrap (p0.size_ + (p1.length : Int)))), (39, .ptr (some (bp0, 2)))] H (noU_all rfl) (fun fr => by kernel_rfl) ?_
            intro fr H
            obtain ⟨h3, hx, A1⟩ := A.st 0 rfl (o := 2) (new := [.int .i64 (IntKind.i64.wrap (p0.size_ + (p1.length : Int)))]) (ds := [.chan (some bp0_0), .str p0.now_, .int .i64 (IntKind.i64.wrap (p0.size_ + (p1.length : Int))), .bool p0.closed_]) (Nat.le_of_ble_eq_true rfl) rfl rfl
            replace A : HH g h3 [.obj bp0 (.cells none 2 [.chan (some bp0_0), .str p0.now_, .int .i64 (IntKind.i64.wrap (p0.size_ + (p1.length : Int))), .bool p0.closed_]), .obj bp0_0 (.chan 64 (lst eS (p0.wait_ ++ [p1]))), .lst rp1 5 (lst eY p1)] F := A1
            refine at_step (v := .tuple []) (h1 := h3) [] H (fun fr => by kernel_rfl) (fun fr => .of (s_st (by kernel_rfl) rfl hx)) ?_
            intro fr t H
            refine at_nil ?_
            show AW cfg 8 g (right (left (left (right (right (right (right (bodyC cfg.P 8)))))))) fr h3 _
            refine aw_seq (by kernel_rfl) ?_
            refine aw_reg (id := 14) (n := 1) [(0, [])] (by kernel_rfl) (by kernel_rfl) ?_
            refine at_seg [(0, [])] [(4, .int .i64 (0 : Int))] H (noU_all rfl) (fun fr => by kernel_rfl) ?_
            intro fr H
            refine at_nil ?_
            show AW cfg 8 g (right (right (left (left (right (right (right (right (bodyC cfg.P 8))))))))) fr h3 _
            refine aw_ret (by kernel_rfl) ?_
            have e0 := Option.some.inj hm
            obtain ⟨y0, z0⟩ := Prod.mk.inj e0
            obtain ⟨y1, z1⟩ := Prod.mk.inj z0
            subst y0
            subst y1
            subst z1
            refine ⟨.inl rfl, .int .i64 (0 : Int), resH H (fun fr => by kernel_rfl), ?_⟩
            exact ⟨rfl, A⟩
          · skip
            have hx := HH.sendFull encS A 1 (xs := p0.wait_) (v := .str p1) rfl hb
            refine aws_sel (id := 11) (n := 2) (v := .tuple [.int .i64 (-1 : Int), .bool false]) [(1, []), (2, [])] [(0, .ptr (some (bp0, 0))), (1, rowV rp1 p1.length), (28, .tuple [.int .i64 (-1 : Int), .bool false])] (by kernel_rfl) (by kernel_rfl) (by kernel_rfl) H (fun fr => sel_send (by kernel_rfl) hx) (fun fr => by kernel_rfl) ?_
            intro fr H
            refine at_seg [(1, []), (2, [])] [(0, .ptr (some (bp0, 0))), (1, rowV rp1 p1.length), (30, .bool false)] H (noU_all rfl) (fun fr => by kernel_rfl) ?_
            intro fr H
            refine at_nil ?_
            show AWS cfg 8 g (right (right (right (right (bodyC cfg.P 8))))) fr h1 _
            refine aws_of (by kernel_rfl) ?_
            refine aw_block (id := 1) (by kernel_rfl) ?_
            refine aw_false (x := .tmp 30) (by kernel_rfl) H (fun fr => by kernel_rfl) ?_
            refine aw_seq (by kernel_rfl) ?_
            refine aw_reg (id := 12) (n := 1) [(0, [])] (by kernel_rfl) (by kernel_rfl) ?_
            refine at_seg [(0, [])] [(4, .int .i64 (8 : Int))] H (noU_all rfl) (fun fr => by kernel_rfl) ?_
            intro fr H
            refine at_nil ?_
            show AW cfg 8 g (right (right (left (right (right (right (right (bodyC cfg.P 8)))))))) fr h1 _
            refine aw_ret (by kernel_rfl) ?_
            have e0 := Option.some.inj hm
            obtain ⟨y0, z0⟩ := Prod.mk.inj e0
            obtain ⟨y1, z1⟩ := Prod.mk.inj z0
            subst y0
            subst y1
            subst z1
            refine ⟨.inl rfl, .int .i64 (8 : Int), resH H (fun fr => by kernel_rfl), ?_⟩
            exact ⟨rfl, A⟩
/-! ### (*boulter/feed.Feed).more -/
noncomputable def M_feed_Feed_more_sPCH (p0 : S_feed_Feed) : Option (Bool × S_feed_Feed × (List (List UInt8))) :=
 iteB (p0.wait_.isEmpty) (some (false, p0, p0.wait_)) ((unc p0.wait_).bind fun (x1, x2) => some (true, (⟨x2, x1, p0.size_, p0.closed_⟩ : S_feed_Feed), x2))
theorem ok_feed_Feed_more_sPCH {g : Gd} {h : AHeap} {F : List Ck} {p0 : S_feed_Feed} {bp0 : Nat} {bp0_0 : Nat} {q0 : Bool} {u0 : S_feed_Feed} {u1 : List (List UInt8)} {av : List AVal} (hm : M_feed_Feed_more_sPCH p0 = some (q0, u0, u1)) (hc : canL (cfg.still 16) av = [.ptr (some (bp0, 0))]) (A : HH g h [.obj bp0 (.cells none 2 [.chan (some bp0_0), .str p0.now_, .int .i64 p0.size_, .bool p0.closed_]), .obj bp0_0 (.chan 64 (lst eS p0.wait_))] F) : ∃ v h', Runs cfg g h 16 av v h' ∧ v = .bool q0 ∧ HH g h' [.obj bp0 (.cells none 2 [.chan (some bp0_0), .str u0.now_, .int .i64 u0.size_, .bool u0.closed_]), .obj bp0_0 (.chan 64 (lst eS u1))] F := by
  refine runsQ8 (n := 14) (rs := [.tmp 2]) (by kernel_rfl) hc (by kernel_rfl) ?_
  clear hc
  unfold M_feed_Feed_more_sPCH at hm
  refine startS (n := 14) [(0, .ptr (some (bp0, 0)))] (by kernel_rfl) (by kernel_rfl) ?_
  intro fr H
  refine aws_seq (by kernel_rfl) ?_
  refine aws_of (by kernel_rfl) ?_
  refine aw_reg (id := 0) (n := 1) [(0, [])] (by kernel_rfl) (by kernel_rfl) ?_
  refine at_seg [(0, [])] [(0, .ptr (some (bp0, 0)))] H (noU_all rfl) (fun fr => by kernel_rfl) ?_
  intro fr H
  refine at_nil ?_
  show AWS cfg 16 g (right (bodyC cfg.P 16)) fr h _
  refine aws_seq (by kernel_rfl) ?_
  refine aws_of (by kernel_rfl) ?_
  refine aw_reg (id := 1) (n := 4) [(0, []), (1, []), (2, []), (3, [])] (by kernel_rfl) (by kernel_rfl) ?_
  refine at_seg [(0, []), (1, []), (2, [])] [(0, .ptr (some (bp0, 0))), (5, .ptr (some (bp0, 0)))] H (noU_all rfl) (fun fr => by kernel_rfl) ?_
  intro fr H
  refine at_step (v := .chan (some bp0_0)) (h1 := h) [(0, .ptr (some (bp0, 0))), (6, .chan (some bp0_0))] H (fun fr => by kernel_rfl) (fun fr => .of (s_ld (by kernel_rfl) (A.ld1 0 rfl (o := 0) rfl))) ?_
  intro fr t H
  refine at_nil ?_
  show AWS cfg 16 g (right (right (bodyC cfg.P 16))) fr h _
  refine aws_seq (by kernel_rfl) ?_
  rcases iteB_some hm with ⟨hb, hm⟩ | ⟨hb, hm⟩
  · skip
    have hx := HH.recvNone (e := eS) A 1 (xs := p0.wait_) (z := .str ([] : List UInt8)) rfl hb
    refine aws_sel (id := 2) (n := 2) (v := .tuple [.int .i64 (-1 : Int), .bool false, .str ([] : List UInt8)]) [(1, []), (2, [])] [(0, .ptr (some (bp0, 0))), (7, .tuple [.int .i64 (-1 : Int), .bool false, .str ([] : List UInt8)])] (by kernel_rfl) (by kernel_rfl) (by kernel_rfl) H (fun fr => sel_recv (by kernel_rfl) hx) (fun fr => by kernel_rfl) ?_
    intro fr H
    refine at_seg [(1, []), (2, [])] [(0, .ptr (some (bp0, 0))), (7, .tuple [.int .i64 (-1 : Int), .bool false, .str ([] : List UInt8)]), (9, .bool false)] H (noU_all rfl) (fun fr => by kernel_rfl) ?_
    intro fr H
    refine at_nil ?_
    show AWS cfg 16 g (right (right (right (bodyC cfg.P 16)))) fr h _
    refine aws_of (by kernel_rfl) ?_
    refine aw_block (id := 0) (by kernel_rfl) ?_
    refine aw_false (x := .tmp 9) (by kernel_rfl) H (fun fr => by kernel_rfl) ?_
    refine aw_seq (by kernel_rfl) ?_
    refine aw_reg (id := 3) (n := 1) [(0, [])] (by kernel_rfl) (by kernel_rfl) ?_
    refine at_seg [(0, [])] [(2, .bool false)] H (noU_all rfl) (fun fr => by kernel_rfl) ?_
    intro fr H
    refine at_nil ?_
    show AW cfg 16 g (right (right (left (right (right (right (bodyC cfg.P 16))))))) fr h _
    refine aw_ret (by kernel_rfl) ?_
    have e0 := Option.some.inj hm
    obtain ⟨y0, z0⟩ := Prod.mk.inj e0
    obtain ⟨y1, z1⟩ := Prod.mk.inj z0
    subst y0
    subst y1
    subst z1
    refine ⟨.inl rfl, .bool false, resH H (fun fr => by kernel_rfl), ?_⟩
    exact ⟨rfl, A⟩
  · skip
    obtain ⟨⟨x1, x2⟩, hx, hm⟩ := bind_some hm
    obtain ⟨h1, hx, A1⟩ := HH.recvSome encS A 1 (xs := p0.wait_) (v := .str x1) (z := .str ([] : List UInt8)) rfl hx rfl
    replace A : HH g h1 [.obj bp0 (.cells none 2 [.chan (some bp0_0), .str p0.now_, .int .i64 p0.size_, .bool p0.closed_]), .obj bp0_0 (.chan 64 (lst eS x2))] F := A1
    refine aws_sel (id := 2) (n := 2) (v := .tuple [.int .i64 (0 : Int), .bool true, .str x1]) [(1, []), (2, [])] [(0, .ptr (some (bp0, 0))), (7, .tuple [.int .i64 (0 : Int), .bool true, .str x1])] (by kernel_rfl) (by kernel_rfl) (by kernel_rfl) H (fun fr => sel_recv (by kernel_rfl) hx) (fun fr => by kernel_rfl) ?_
    intro fr H
    refine at_seg [(1, []), (2, [])] [(0, .ptr (some (bp0, 0))), (7, .tuple [.int .i64 (0 : Int), .bool true, .str x1]), (9, .bool true)] H (noU_all rfl) (fun fr => by kernel_rfl) ?_
    intro fr H
    refine at_nil ?_
    show AWS cfg 16 g (right (right (right (bodyC cfg.P 16)))) fr h1 _
    refine aws_of (by kernel_rfl) ?_
    refine aw_block (id := 0) (by kernel_rfl) ?_
    refine aw_true (x := .tmp 9) (by kernel_rfl) H (fun fr => by kernel_rfl) ?_
    refine aw_seq (by kernel_rfl) ?_
    refine aw_reg (id := 4) (n := 5) [(0, []), (1, []), (2, []), (3, []), (4, [])] (by kernel_rfl) (by kernel_rfl) ?_
    refine at_seg [(0, []), (1, []), (2, []), (3, [])] [(11, .str x1), (13, .ptr (some (bp0, 1)))] H (noU_all rfl) (fun fr => by kernel_rfl) ?_
    intro fr H
    obtain ⟨h2, hx, A1⟩ := A.st 0 rfl (o := 1) (new := [.str x1]) (ds := [.chan (some bp0_0), .str x1, .int .i64 p0.size_, .bool p0.closed_]) (Nat.le_of_ble_eq_true rfl) rfl rfl
    replace A : HH g h2 [.obj bp0 (.cells none 2 [.chan (some bp0_0), .str x1, .int .i64 p0.size_, .bool p0.closed_]), .obj bp0_0 (.chan 64 (lst eS x2))] F := A1
    refine at_step (v := .tuple []) (h1 := h2) [] H (fun fr => by kernel_rfl) (fun fr => .of (s_st (by kernel_rfl) rfl hx)) ?_
    intro fr t H
    refine at_nil ?_
    show AW cfg 16 g (right (left (left (right (right (right (bodyC cfg.P 16))))))) fr h2 _
    refine aw_seq (by kernel_rfl) ?_
    refine aw_reg (id := 5) (n := 1) [(0, [])] (by kernel_rfl) (by kernel_rfl) ?_
    refine at_seg [(0, [])] [(2, .bool true)] H (noU_all rfl) (fun fr => by kernel_rfl) ?_
    intro fr H
    refine at_nil ?_
    show AW cfg 16 g (right (right (left (left (right (right (right (bodyC cfg.P 16)))))))) fr h2 _
    refine aw_ret (by kernel_rfl) ?_
    have e0 := Option.some.inj hm
    obtain ⟨y0, z0⟩ := Prod.mk.inj e0
    obtain ⟨y1, z1⟩ := Prod.mk.inj z0
    subst y0
    subst y1
    subst z1
    refine ⟨.inl rfl, .bool true, resH H (fun fr => by kernel_rfl), ?_⟩
    exact ⟨rfl, A⟩
/-! ### (*boulter/feed.Feed).Some -/
noncomputable def M_feed_Feed_Some_sPCHI_L0 (p1 : Int) (s : (List UInt8) × (List UInt8) × Int × Bool × (List (List UInt8))) : Option (((List UInt8) × (List UInt8) × Int × Bool × (List (List UInt8))) ⊕ (((List UInt8) × (List UInt8) × Int × Bool × (List (List UInt8))))) :=
  match s with
  | (x1, x2, x3, x4, x5) => iteB (decide (p1 > (x1.length : Int))) ((iteB (x2 == ([] : List UInt8)) ((M_feed_Feed_more_sPCH (⟨x5, x2, x3, x4⟩ : S_feed_Feed)).bind fun (x16, x17, x18) => some (x17.now_, x17.size_, x17.closed_, x18, !x16)) (some (x2, x3, x4, x5, false)) : Option ((List UInt8) × Int × Bool × (List (List UInt8)) × Bool)).bind fun (x11, x12, x13, x14, x15) => iteB x15 (some (.inr (x1, x11, x12, x13, x14))) ((subS x11 none (some (mn (IntKind.i64.wrap (p1 - (x1.length : Int))) (x11.length : Int)))).bind fun x19 => need (okN 1 (x1.length + x19.length)) <| (subS x11 (some (mn (IntKind.i64.wrap (p1 - (x1.length : Int))) (x11.length : Int))) none).bind fun x20 => some (.inl ((x1 ++ x19), x20, x12, x13, x14)))) (some (.inr (x1, x2, x3, x4, x5)))
noncomputable def M_feed_Feed_Some_sPCHI (p0 : S_feed_Feed) (p1 : Int) : Option ((List UInt8) × S_feed_Feed × (List (List UInt8))) :=
 (loop (M_feed_Feed_Some_sPCHI_L0 p1) (([] : List UInt8), p0.now_, p0.size_, p0.closed_, p0.wait_)).bind fun (x6, x7, x8, x9, x10) => some (x6, (⟨x10, x7, IntKind.i64.wrap (x8 - (x6.length : Int)), x9⟩ : S_feed_Feed), x10)
theorem ok_feed_Feed_Some_sPCHI {g : Gd} {h : AHeap} {F : List Ck} {p0 : S_feed_Feed} {p1 : Int} {bp0 : Nat} {bp0_0 : Nat} {q0 : List UInt8} {u0 : S_feed_Feed} {u1 : List (List UInt8)} {av : List AVal} (hm : M_feed_Feed_Some_sPCHI p0 p1 = some (q0, u0, u1)) (hc : canL (cfg.still 9) av = [.ptr (some (bp0, 0)), .int .i64 p1]) (A : HH g h [.obj bp0 (.cells none 2 [.chan (some bp0_0), .str p0.now_, .int .i64 p0.size_, .bool p0.closed_]), .obj bp0_0 (.chan 64 (lst eS p0.wait_))] F) : ∃ v h', Runs cfg g h 9 av v h' ∧ v = .str q0 ∧ HH g h' [.obj bp0 (.cells none 2 [.chan (some bp0_0), .str u0.now_, .int .i64 u0.size_, .bool u0.closed_]), .obj bp0_0 (.chan 64 (lst eS u1))] F := by
  refine runsQ1 (n := 59) (rs := [.tmp 4]) (by kernel_rfl) hc (by kernel_rfl) ?_
  clear hc
  unfold M_feed_Feed_Some_sPCHI at hm
  refine start (n := 59) [(0, .ptr (some (bp0, 0))), (1, .int .i64 p1)] (by kernel_rfl) (by kernel_rfl) ?_
  intro fr H
  refine aw_seq (by kernel_rfl) ?_
  refine aw_reg (id := 0) (n := 1) [(0, [])] (by kernel_rfl) (by kernel_rfl) ?_
  refine at_seg [(0, [])] [(0, .ptr (some (bp0, 0))), (1, .int .i64 p1)] H (noU_all rfl) (fun fr => by kernel_rfl) ?_
  intro fr H
  refine at_nil ?_
  show AW cfg 9 g (right (bodyC cfg.P 9)) fr h _
  refine aw_scope (by kernel_rfl) ?_
  refine aw_seq (by kernel_rfl) ?_
  refine aw_reg (id := 1) (n := 1) [(0, [])] (by kernel_rfl) (by kernel_rfl) ?_
  refine at_seg [(0, [])] [(0, .ptr (some (bp0, 0))), (1, .int .i64 p1), (5, .slice none 0)] H (noU_all rfl) (fun fr => by kernel_rfl) ?_
  intro fr H
  refine at_nil ?_
  show AW cfg 9 g (right (left (right (bodyC cfg.P 9)))) fr h _
  refine aw_seq (by kernel_rfl) ?_
  refine aw_label (by kernel_rfl) ?_
  show AW cfg 9 g (right (right (left (right (bodyC cfg.P 9))))) fr h _
  refine aw_seq (by kernel_rfl) ?_
  refine aw_block (id := 0) (by kernel_rfl) ?_
  replace A : HH g h [.lst none 5 (lst eY ([] : List UInt8)), .obj bp0 (.cells none 2 [.chan (some bp0_0), .str p0.now_, .int .i64 p0.size_, .bool p0.closed_]), .obj bp0_0 (.chan 64 (lst eS p0.wait_))] F := A.nilL 5
  obtain ⟨o1, ho, hm⟩ := bind_some hm
  refine aw_mono (Q' := fun e fr' h' => (∃ (x6 : List UInt8) (x7 : List UInt8) (x8 : Int) (x9 : Bool) (x10 : List (List UInt8)), e = .exit 0 ∧ (x6, x7, x8, x9, x10) = o1 ∧ ∃ (r2 : Option Nat), Has fr' 59 [(0, .ptr (some (bp0, 0))), (5, rowV r2 x6.length)] ∧ HH g h' [.lst r2 5 (lst eY x6), .obj bp0 (.cells none 2 [.chan (some bp0_0), .str x7, .int .i64 x8, .bool x9]), .obj bp0_0 (.chan 64 (lst eS x10))] F) ∨ False) ?_ ?_
  · refine aw_loop (by kernel_rfl) (fun (s : (List UInt8) × (List UInt8) × Int × Bool × (List (List UInt8))) fr' h' => ∃ (x1 : List UInt8) (x2 : List UInt8) (x3 : Int) (x4 : Bool) (x5 : List (List UInt8)), (x1, x2, x3, x4, x5) = s ∧ ∃ (r1 : Option Nat), Has fr' 59 [(0, .ptr (some (bp0, 0))), (1, .int .i64 p1), (5, rowV r1 x1.length)] ∧ HH g h' [.lst r1 5 (lst eY x1), .obj bp0 (.cells none 2 [.chan (some bp0_0), .str x2, .int .i64 x3, .bool x4]), .obj bp0_0 (.chan 64 (lst eS x5))] F) ho ⟨([] : List UInt8), p0.now_, p0.size_, p0.closed_, p0.wait_, rfl, none, H.less _ (fun fr => by kernel_rfl), A⟩ ?_
    clear ho hm H A
    intro s q fr h1 hI hm
    obtain ⟨x1, x2, x3, x4, x5, rfl, r1, H, A⟩ := hI
    unfold M_feed_Feed_Some_sPCHI_L0 at hm
    refine aw_seq (by kernel_rfl) ?_
    refine aw_seq (by kernel_rfl) ?_
    refine aw_reg (id := 2) (n := 4) [(0, []), (1, []), (2, []), (3, [])] (by kernel_rfl) (by kernel_rfl) ?_
    refine at_seg [(0, []), (1, []), (2, []), (3, [])] [(0, .ptr (some (bp0, 0))), (1, .int .i64 p1), (5, rowV r1 x1.length), (10, .bool (decide (p1 > (x1.length : Int))))] H (noU_all rfl) (fun fr => by kernel_rfl) ?_
    intro fr H
    refine at_nil ?_
    show AW cfg 9 g (right (left (left (left (left (right (right (left (right (bodyC cfg.P 9)))))))))) fr h1 _
    rcases iteB_some hm with ⟨hb, hm⟩ | ⟨hb, hm⟩
    · replace H := H.know 10 hb (by kernel_rfl)
      refine aw_true (x := .tmp 10) (by kernel_rfl) H (fun fr => by kernel_rfl) ?_
      refine aw_skip (by kernel_rfl) ?_
      show AW cfg 9 g (right (left (left (left (right (right (left (right (bodyC cfg.P 9))))))))) fr h1 _
      refine aw_block (id := 1) (by kernel_rfl) ?_
      refine aw_seq (by kernel_rfl) ?_
      refine aw_seq (by kernel_rfl) ?_
      refine aw_reg (id := 3) (n := 10) [(0, []), (1, []), (2, []), (3, []), (4, []), (5, []), (6, []), (7, []), (8, []), (9, [])] (by kernel_rfl) (by kernel_rfl) ?_
      refine at_seg [(0, []), (1, []), (2, [])] [(0, .ptr (some (bp0, 0))), (1, .int .i64 p1), (5, rowV r1 x1.length), (13, .ptr (some (bp0, 1)))] H (noU_all rfl) (fun fr => by kernel_rfl) ?_
      intro fr H
      refine at_step (v := .str x2) (h1 := h1) [(0, .ptr (some (bp0, 0))), (1, .int .i64 p1), (5, rowV r1 x1.length), (14, .str x2)] H (fun fr => by kernel_rfl) (fun fr => .of (s_ld (by kernel_rfl) (A.ld1 1 rfl (o := 1) rfl))) ?_
      intro fr t H
      refine at_seg [(4, []), (5, [])] [(0, .ptr (some (bp0, 0))), (1, .int .i64 p1), (5, rowV r1 x1.length), (16, .bool (x2 == ([] : List UInt8)))] H (noU_all rfl) (fun fr => by kernel_rfl) ?_
      intro fr H
      obtain ⟨⟨x11, x12, x13, x14, x15⟩, ho, hm⟩ := bind_some hm
      refine at_cut [(6, []), (7, []), (8, []), (9, [])] (fun fr' h' => Has fr' 59 [(0, .ptr (some (bp0, 0))), (1, .int .i64 p1), (5, rowV r1 x1.length), (20, .bool x15)] ∧ HH g h' [.lst r1 5 (lst eY x1), .obj bp0 (.cells none 2 [.chan (some bp0_0), .str x11, .int .i64 x12, .bool x13]), .obj bp0_0 (.chan 64 (lst eS x14))] F) ?_ ?_
      · rcases iteB_some ho with ⟨hb, hm⟩ | ⟨hb, hm⟩
        · replace H := H.know 16 hb (by kernel_rfl)
          refine at_seg [(6, [])] [(0, .ptr (some (bp0, 0))), (1, .int .i64 p1), (5, rowV r1 x1.length), (16, .bool true), (17, .ptr (some (bp0, 0)))] H (noU_all rfl) (fun fr => by kernel_rfl) ?_
          intro fr H
          replace A : HH g h1 [.obj bp0 (.cells none 2 [.chan (some bp0_0), .str x2, .int .i64 x3, .bool x4]), .obj bp0_0 (.chan 64 (lst eS x5)), .lst r1 5 (lst eY x1)] F := ((A.front 2 rfl).front 2 rfl)
          have A1 := A.cut 2
          obtain ⟨⟨x16, x17, x18⟩, hx, hm⟩ := bind_some hm
          obtain ⟨v1, h3, hr, rfl, A1⟩ := ok_feed_Feed_more_sPCH (av := [.ptr (some (bp0, 0))]) hx (by kernel_rfl) A1
          replace A : HH g h3 [.obj bp0 (.cells none 2 [.chan (some bp0_0), .str x17.now_, .int .i64 x17.size_, .bool x17.closed_]), .obj bp0_0 (.chan 64 (lst eS x18)), .lst r1 5 (lst eY x1)] F := A.glue0 (n := 2) A1
          refine at_step (v := .bool x16) (h1 := h3) [(0, .ptr (some (bp0, 0))), (1, .int .i64 p1), (5, rowV r1 x1.length), (16, .bool true), (18, .bool x16)] H (fun fr => by kernel_rfl) (fun fr => Steps.call (by kernel_rfl) hr) ?_
          intro fr t H
          refine at_seg [(8, []), (9, [])] [(0, .ptr (some (bp0, 0))), (1, .int .i64 p1), (5, rowV r1 x1.length), (20, .bool (!x16))] H (noU_all rfl) (fun fr => by kernel_rfl) ?_
          intro fr H
          have e0 := Option.some.inj hm
          obtain ⟨e1, f1⟩ := Prod.mk.inj e0
          obtain ⟨e2, f2⟩ := Prod.mk.inj f1
          obtain ⟨e3, f3⟩ := Prod.mk.inj f2
          obtain ⟨e4, f4⟩ := Prod.mk.inj f3
          subst e1
          subst e2
          subst e3
          subst e4
          subst f4
          replace A : HH g h3 [.lst r1 5 (lst eY x1), .obj bp0 (.cells none 2 [.chan (some bp0_0), .str x17.now_, .int .i64 x17.size_, .bool x17.closed_]), .obj bp0_0 (.chan 64 (lst eS x18))] F := (((A.front 1 rfl).front 1 rfl).front 2 rfl)
          exact at_nil ⟨H.less _ (fun fr => by kernel_rfl), A⟩
        · replace H := H.know 16 hb (by kernel_rfl)
          refine at_seg [(6, []), (7, []), (8, []), (9, [])] [(0, .ptr (some (bp0, 0))), (1, .int .i64 p1), (5, rowV r1 x1.length), (20, .bool false)] H (noU_all rfl) (fun fr => by kernel_rfl) ?_
          intro fr H
          have e0 := Option.some.inj hm
          obtain ⟨e1, f1⟩ := Prod.mk.inj e0
          obtain ⟨e2, f2⟩ := Prod.mk.inj f1
          obtain ⟨e3, f3⟩ := Prod.mk.inj f2
          obtain ⟨e4, f4⟩ := Prod.mk.inj f3
          subst e1
          subst e2
          subst e3
          subst e4
          subst f4
          exact at_nil ⟨H.less _ (fun fr => by kernel_rfl), A⟩
      · clear A
        intro t fr h2 hK
        obtain ⟨H, A⟩ := hK
        refine at_nil ?_
        show AW cfg 9 g (right (left (left (right (left (left (left (right (right (left (right (bodyC cfg.P 9)))))))))))) fr h2 _
        rcases iteB_some hm with ⟨hb, hm⟩ | ⟨hb, hm⟩
        · replace H := H.know 20 hb (by kernel_rfl)
          refine aw_true (x := .tmp 20) (by kernel_rfl) H (fun fr => by kernel_rfl) ?_
          refine aw_exit (i := 0) (by kernel_rfl) ?_
          exact Exists.intro _ (And.intro (Option.some.inj hm).symm (fun e => Or.inl ⟨x1, x11, x12, x13, x14, rfl, e, r1, H.less _ (fun fr => by kernel_rfl), A⟩))
        · replace H := H.know 20 hb (by kernel_rfl)
          refine aw_false (x := .tmp 20) (by kernel_rfl) H (fun fr => by kernel_rfl) ?_
          refine aw_skip (by kernel_rfl) ?_
          show AW cfg 9 g (right (left (right (left (left (left (right (right (left (right (bodyC cfg.P 9))))))))))) fr h2 _
          refine aw_seq (by kernel_rfl) ?_
          refine aw_reg (id := 4) (n := 11) [(0, []), (1, []), (2, []), (3, []), (4, []), (5, []), (6, []), (7, []), (8, []), (9, []), (10, [])] (by kernel_rfl) (by kernel_rfl) ?_
          refine at_seg [(0, []), (1, []), (2, []), (3, []), (4, []), (5, []), (6, [])] [(0, .ptr (some (bp0, 0))), (1, .int .i64 p1), (5, rowV r1 x1.length), (24, .int .i64 (IntKind.i64.wrap (p1 - (x1.length : Int)))), (27, .ptr (some (bp0, 1)))] H (noU_all rfl) (fun fr => by kernel_rfl) ?_
          intro fr H
          refine at_step (v := .str x11) (h1 := h2) [(0, .ptr (some (bp0, 0))), (1, .int .i64 p1), (5, rowV r1 x1.length), (24, .int .i64 (IntKind.i64.wrap (p1 - (x1.length : Int)))), (28, .str x11)] H (fun fr => by kernel_rfl) (fun fr => .of (s_ld (by kernel_rfl) (A.ld1 1 rfl (o := 1) rfl))) ?_
          intro fr t H
          refine at_seg [(8, []), (9, []), (10, [])] [(0, .ptr (some (bp0, 0))), (1, .int .i64 p1), (5, rowV r1 x1.length), (6, .int .i64 (mn (IntKind.i64.wrap (p1 - (x1.length : Int))) (x11.length : Int)))] H (noU_all rfl) (fun fr => by kernel_rfl) ?_
          intro fr H
          refine at_nil ?_
          show AW cfg 9 g (right (right (left (right (left (left (left (right (right (left (right (bodyC cfg.P 9)))))))))))) fr h2 _
          refine aw_seq (by kernel_rfl) ?_
          refine aw_reg (id := 5) (n := 9) [(0, []), (1, []), (2, []), (3, []), (4, []), (5, []), (6, []), (7, []), (8, [])] (by kernel_rfl) (by kernel_rfl) ?_
          refine at_seg [(0, []), (1, []), (2, []), (3, [])] [(0, .ptr (some (bp0, 0))), (1, .int .i64 p1), (6, .int .i64 (mn (IntKind.i64.wrap (p1 - (x1.length : Int))) (x11.length : Int))), (31, rowV r1 x1.length), (34, .ptr (some (bp0, 1)))] H (noU_all rfl) (fun fr => by kernel_rfl) ?_
          intro fr H
          refine at_step (v := .str x11) (h1 := h2) [(0, .ptr (some (bp0, 0))), (1, .int .i64 p1), (6, .int .i64 (mn (IntKind.i64.wrap (p1 - (x1.length : Int))) (x11.length : Int))), (31, rowV r1 x1.length), (35, .str x11)] H (fun fr => by kernel_rfl) (fun fr => .of (s_ld (by kernel_rfl) (A.ld1 1 rfl (o := 1) rfl))) ?_
          intro fr t H
          refine at_seg [(5, [])] [(0, .ptr (some (bp0, 0))), (1, .int .i64 p1), (6, .int .i64 (mn (IntKind.i64.wrap (p1 - (x1.length : Int))) (x11.length : Int))), (31, rowV r1 x1.length), (35, .str x11), (36, .int .i64 (mn (IntKind.i64.wrap (p1 - (x1.length : Int))) (x11.length : Int)))] H (noU_all rfl) (fun fr => by kernel_rfl) ?_
          intro fr H
          obtain ⟨x19, hx, hm⟩ := bind_some hm
          refine at_step (v := .str x19) (h1 := h2) [(0, .ptr (some (bp0, 0))), (1, .int .i64 p1), (6, .int .i64 (mn (IntKind.i64.wrap (p1 - (x1.length : Int))) (x11.length : Int))), (31, rowV r1 x1.length), (37, .str x19)] H (fun fr => by kernel_rfl) (fun fr => .of (s_subS (k := .i64) (k' := .i64) (lo := none) (hi := (some (mn (IntKind.i64.wrap (p1 - (x1.length : Int))) (x11.length : Int)))) (by kernel_rfl) hx)) ?_
          intro fr t H
          obtain ⟨hb, hm⟩ := need_some hm
          obtain ⟨r3, h4, hx, A1⟩ := HH.appO encY (by decide) A 0 (xs := x1) (ys := x19) rfl (firstS _ x19) (encY.canL _) rfl hb
          replace A : HH g h4 [.lst r3 5 (lst eY (x1 ++ x19)), .obj bp0 (.cells none 2 [.chan (some bp0_0), .str x11, .int .i64 x12, .bool x13]), .obj bp0_0 (.chan 64 (lst eS x14))] F := A1
          refine at_step (v := rowV r3 ((x1 ++ x19).length)) (h1 := h4) [(0, .ptr (some (bp0, 0))), (1, .int .i64 p1), (6, .int .i64 (mn (IntKind.i64.wrap (p1 - (x1.length : Int))) (x11.length : Int))), (38, rowV r3 ((x1 ++ x19).length))] H (fun fr => by kernel_rfl) (fun fr => .of (s_app (s := rowS r1 x1.length) (by kernel_rfl) hx)) ?_
          intro fr t H
          refine at_seg [(8, [])] [(0, .ptr (some (bp0, 0))), (1, .int .i64 p1), (5, rowV r3 ((x1 ++ x19).length)), (6, .int .i64 (mn (IntKind.i64.wrap (p1 - (x1.length : Int))) (x11.length : Int)))] H (noU_all rfl) (fun fr => by kernel_rfl) ?_
          intro fr H
          refine at_nil ?_
          show AW cfg 9 g (right (right (right (left (right (left (left (left (right (right (left (right (bodyC cfg.P 9))))))))))))) fr h4 _
          refine aw_reg (id := 6) (n := 10) [(0, []), (1, []), (2, []), (3, []), (4, []), (5, []), (6, []), (7, []), (8, []), (9, [])] (by kernel_rfl) (by kernel_rfl) ?_
          refine at_seg [(0, []), (1, []), (2, []), (3, [])] [(0, .ptr (some (bp0, 0))), (1, .int .i64 p1), (5, rowV r3 ((x1 ++ x19).length)), (6, .int .i64 (mn (IntKind.i64.wrap (p1 - (x1.length : Int))) (x11.length : Int))), (39, .ptr (some (bp0, 0))), (42, .ptr (some (bp0, 1)))] H (noU_all rfl) (fun fr => by kernel_rfl) ?_
          intro fr H
          refine at_step (v := .str x11) (h1 := h4) [(0, .ptr (some (bp0, 0))), (1, .int .i64 p1), (5, rowV r3 ((x1 ++ x19).length)), (6, .int .i64 (mn (IntKind.i64.wrap (p1 - (x1.length : Int))) (x11.length : Int))), (39, .ptr (some (bp0, 0))), (43, .str x11)] H (fun fr => by kernel_rfl) (fun fr => .of (s_ld (by kernel_rfl) (A.ld1 1 rfl (o := 1) rfl))) ?_
          intro fr t H
          refine at_seg [(5, [])] [(0, .ptr (some (bp0, 0))), (1, .int .i64 p1), (5, rowV r3 ((x1 ++ x19).length)), (39, .ptr (some (bp0, 0))), (43, .str x11), (44, .int .i64 (mn (IntKind.i64.wrap (p1 - (x1.length : Int))) (x11.length : Int)))] H (noU_all rfl) (fun fr => by kernel_rfl) ?_
          intro fr H
          obtain ⟨x20, hx, hm⟩ := bind_some hm
          refine at_step (v := .str x20) (h1 := h4) [(0, .ptr (some (bp0, 0))), (1, .int .i64 p1), (5, rowV r3 ((x1 ++ x19).length)), (39, .ptr (some (bp0, 0))), (45, .str x20)] H (fun fr => by kernel_rfl) (fun fr => .of (s_subS (k := .i64) (k' := .i64) (lo := (some (mn (IntKind.i64.wrap (p1 - (x1.length : Int))) (x11.length : Int)))) (hi := none) (by kernel_rfl) hx)) ?_
          intro fr t H
          refine at_seg [(7, []), (8, [])] [(0, .ptr (some (bp0, 0))), (1, .int .i64 p1), (5, rowV r3 ((x1 ++ x19).length)), (45, .str x20), (47, .ptr (some (bp0, 1)))] H (noU_all rfl) (fun fr => by kernel_rfl) ?_
          intro fr H
          obtain ⟨h5, hx, A1⟩ := A.st 1 rfl (o := 1) (new := [.str x20]) (ds := [.chan (some bp0_0), .str x20, .int .i64 x12, .bool x13]) (Nat.le_of_ble_eq_true rfl) rfl rfl
          replace A : HH g h5 [.lst r3 5 (lst eY (x1 ++ x19)), .obj bp0 (.cells none 2 [.chan (some bp0_0), .str x20, .int .i64 x12, .bool x13]), .obj bp0_0 (.chan 64 (lst eS x14))] F := A1
          refine at_step (v := .tuple []) (h1 := h5) [(0, .ptr (some (bp0, 0))), (1, .int .i64 p1), (5, rowV r3 ((x1 ++ x19).length))] H (fun fr => by kernel_rfl) (fun fr => .of (s_st (by kernel_rfl) rfl hx)) ?_
          intro fr t H
          refine at_nil ?_
          exact Exists.intro ((x1 ++ x19), x20, x12, x13, x14) (And.intro (Option.some.inj hm).symm ⟨(x1 ++ x19), x20, x12, x13, x14, rfl, r3, H.less _ (fun fr => by kernel_rfl), A⟩)
    · replace H := H.know 10 hb (by kernel_rfl)
      refine aw_false (x := .tmp 10) (by kernel_rfl) H (fun fr => by kernel_rfl) ?_
      refine aw_exit (i := 0) (by kernel_rfl) ?_
      exact Exists.intro _ (And.intro (Option.some.inj hm).symm (fun e => Or.inl ⟨x1, x2, x3, x4, x5, rfl, e, r1, H.less _ (fun fr => by kernel_rfl), A⟩))
  · clear ho
    clear A
    intro e fr h6 hQ
    rcases hQ with ⟨x6, x7, x8, x9, x10, rfl, rfl, r2, H, A⟩ | hF
    · skip
      show AW cfg 9 g (right (right (right (left (right (bodyC cfg.P 9)))))) fr h6 _
      refine aw_seq (by kernel_rfl) ?_
      refine aw_reg (id := 7) (n := 10) [(0, []), (1, []), (2, []), (3, []), (4, []), (5, []), (6, []), (7, []), (8, []), (9, [])] (by kernel_rfl) (by kernel_rfl) ?_
      refine at_seg [(0, []), (1, []), (2, [])] [(5, rowV r2 x6.length), (48, .ptr (some (bp0, 0))), (50, .ptr (some (bp0, 2)))] H (noU_all rfl) (fun fr => by kernel_rfl) ?_
      intro fr H
      refine at_step (v := .int .i64 x8) (h1 := h6) [(5, rowV r2 x6.length), (48, .ptr (some (bp0, 0))), (51, .int .i64 x8)] H (fun fr => by kernel_rfl) (fun fr => .of (s_ld (by kernel_rfl) (A.ld1 1 rfl (o := 2) rfl))) ?_
      intro fr t H
      refine at_seg [(4, []), (5, []), (6, []), (7, []), (8, [])] [(5, rowV r2 x6.length), (54, .int .i64 (IntKind.i64.wrap (x8 - (x6.length : Int)))), (56, .ptr (some (bp0, 2)))] H (noU_all rfl) (fun fr => by kernel_rfl) ?_
      intro fr H
      obtain ⟨h7, hx, A1⟩ := A.st 1 rfl (o := 2) (new := [.int .i64 (IntKind.i64.wrap (x8 - (x6.length : Int)))]) (ds := [.chan (some bp0_0), .str x7, .int .i64 (IntKind.i64.wrap (x8 - (x6.length : Int))), .bool x9]) (Nat.le_of_ble_eq_true rfl) rfl rfl
      replace A : HH g h7 [.lst r2 5 (lst eY x6), .obj bp0 (.cells none 2 [.chan (some bp0_0), .str x7, .int .i64 (IntKind.i64.wrap (x8 - (x6.length : Int))), .bool x9]), .obj bp0_0 (.chan 64 (lst eS x10))] F := A1
      refine at_step (v := .tuple []) (h1 := h7) [(5, rowV r2 x6.length)] H (fun fr => by kernel_rfl) (fun fr => .of (s_st (by kernel_rfl) rfl hx)) ?_
      intro fr t H
      refine at_nil ?_
      show AW cfg 9 g (right (right (right (right (left (right (bodyC cfg.P 9))))))) fr h7 _
      refine aw_seq (by kernel_rfl) ?_
      refine aw_reg (id := 8) (n := 3) [(0, []), (1, []), (2, [])] (by kernel_rfl) (by kernel_rfl) ?_
      refine at_seg [(0, [])] [(57, rowV r2 x6.length)] H (noU_all rfl) (fun fr => by kernel_rfl) ?_
      intro fr H
      refine at_step (v := .str x6) (h1 := h7) [(58, .str x6)] H (fun fr => by kernel_rfl) (fun fr => .of (s_byO (xs := x6) A 0 rfl (by kernel_rfl))) ?_
      intro fr t H
      refine at_seg [(2, [])] [(4, .str x6)] H (noU_all rfl) (fun fr => by kernel_rfl) ?_
      intro fr H
      refine at_nil ?_
      show AW cfg 9 g (right (right (right (right (right (left (right (bodyC cfg.P 9)))))))) fr h7 _
      refine aw_ret (by kernel_rfl) ?_
      have e0 := Option.some.inj hm
      obtain ⟨y0, z0⟩ := Prod.mk.inj e0
      obtain ⟨y1, z1⟩ := Prod.mk.inj z0
      subst y0
      subst y1
      subst z1
      refine ⟨.inl rfl, .str x6, resH H (fun fr => by kernel_rfl), ?_⟩
      replace A : HH g h7 [.obj bp0 (.cells none 2 [.chan (some bp0_0), .str x7, .int .i64 (IntKind.i64.wrap (x8 - (x6.length : Int))), .bool x9]), .obj bp0_0 (.chan 64 (lst eS x10))] F := (HH.dropF ((A.front 2 rfl).front 2 rfl) 2)
      exact ⟨rfl, A⟩
    · exact hF.elim
/-! ### (*boulter/feed.Feed).Len -/
noncomputable def M_feed_Feed_Len_sPCH (p0 : S_feed_Feed) : Option (Int) :=
 some p0.size_
theorem ok_feed_Feed_Len_sPCH {g : Gd} {h : AHeap} {F : List Ck} {p0 : S_feed_Feed} {bp0 : Nat} {bp0_0 : Nat} {q0 : Int} {av : List AVal} (hm : M_feed_Feed_Len_sPCH p0 = some q0) (hc : canL (cfg.still 10) av = [.ptr (some (bp0, 0))]) (A : HH g h [.obj bp0 (.cells none 2 [.chan (some bp0_0), .str p0.now_, .int .i64 p0.size_, .bool p0.closed_]), .obj bp0_0 (.chan 64 (lst eS p0.wait_))] F) : ∃ v h', Runs cfg g h 10 av v h' ∧ v = .int .i64 q0 ∧ HH g h' [.obj bp0 (.cells none 2 [.chan (some bp0_0), .str p0.now_, .int .i64 p0.size_, .bool p0.closed_]), .obj bp0_0 (.chan 64 (lst eS p0.wait_))] F := by
  refine runsQ1 (n := 7) (rs := [.tmp 2]) (by kernel_rfl) hc (by kernel_rfl) ?_
  clear hc
  unfold M_feed_Feed_Len_sPCH at hm
  refine start (n := 7) [(0, .ptr (some (bp0, 0)))] (by kernel_rfl) (by kernel_rfl) ?_
  intro fr H
  refine aw_seq (by kernel_rfl) ?_
  refine aw_reg (id := 0) (n := 1) [(0, [])] (by kernel_rfl) (by kernel_rfl) ?_
  refine at_seg [(0, [])] [(0, .ptr (some (bp0, 0)))] H (noU_all rfl) (fun fr => by kernel_rfl) ?_
  intro fr H
  refine at_nil ?_
  show AW cfg 10 g (right (bodyC cfg.P 10)) fr h _
  refine aw_seq (by kernel_rfl) ?_
  refine aw_reg (id := 1) (n := 5) [(0, []), (1, []), (2, []), (3, []), (4, [])] (by kernel_rfl) (by kernel_rfl) ?_
  refine at_seg [(0, []), (1, []), (2, [])] [(5, .ptr (some (bp0, 2)))] H (noU_all rfl) (fun fr => by kernel_rfl) ?_
  intro fr H
  refine at_step (v := .int .i64 p0.size_) (h1 := h) [(6, .int .i64 p0.size_)] H (fun fr => by kernel_rfl) (fun fr => .of (s_ld (by kernel_rfl) (A.ld1 0 rfl (o := 2) rfl))) ?_
  intro fr t H
  refine at_seg [(4, [])] [(2, .int .i64 p0.size_)] H (noU_all rfl) (fun fr => by kernel_rfl) ?_
  intro fr H
  refine at_nil ?_
  show AW cfg 10 g (right (right (bodyC cfg.P 10))) fr h _
  refine aw_ret (by kernel_rfl) ?_
  have e1 := Option.some.inj hm
  subst e1
  refine ⟨.inl rfl, .int .i64 p0.size_, resH H (fun fr => by kernel_rfl), ?_⟩
  exact ⟨rfl, A⟩
/-! ### boulter/boulterlaw08.FeedSame -/
noncomputable def M_boulterlaw08_FeedSame_L0 (p0 : List UInt8) (p1 : List UInt8) (s : (List UInt8) × Int × Bool × (List (List UInt8)) × Int × Int) : Option (((List UInt8) × Int × Bool × (List (List UInt8)) × Int × Int) ⊕ (((List UInt8) × Int × Bool × (List (List UInt8)) × Int) ⊕ ((List UInt8) × Int × Bool × (List (List UInt8)) × Bool))) :=
  match s with
  | (x3, x4, x5, x6, x7, x8) => iteB ((decide (x7 < (p0.length : Int))) && (decide (x8 < (60 : Int)))) ((iteB (decide (x8 < (p1.length : Int))) ((ixV p1 x8).bind fun x20 => some (mn (IntKind.i64.wrap ((p0.length : Int) - x7)) (Int.tmod (IntKind.i64.wrap (x20.toNat : Int)) (50 : Int)))) (some (IntKind.i64.wrap ((p0.length : Int) - x7))) : Option ((Int))).bind fun x19 => (subS p0 (some x7) (some (IntKind.i64.wrap (x7 + x19)))).bind fun x21 => need (decide (x21.length ≤ 1099511627776)) <| (M_feed_Feed_Put_sPCHO (⟨x6, x3, x4, x5⟩ : S_feed_Feed) x21).bind fun (x22, x23, x24) => iteB (x22 != (0 : Int)) (some (.inr (.inr (x23.now_, x23.size_, x23.closed_, x24, false)))) (some (.inl (x23.now_, x23.size_, x23.closed_, x24, IntKind.i64.wrap (x7 + x19), IntKind.i64.wrap (x8 + (1 : Int)))))) (some (.inr (.inl (x3, x4, x5, x6, x7))))
noncomputable def M_boulterlaw08_FeedSame_L1 (p2 : List UInt8) (s : (List UInt8) × Int × Bool × (List (List UInt8)) × (List UInt8) × Int) : Option (((List UInt8) × Int × Bool × (List (List UInt8)) × (List UInt8) × Int) ⊕ (((List UInt8) × Int × Bool × (List (List UInt8)) × (List UInt8)))) :=
  match s with
  | (x25, x26, x27, x28, x29, x30) => iteB (decide (x30 < (p2.length : Int))) ((ixV p2 x30).bind fun x36 => (M_feed_Feed_Some_sPCHI (⟨x28, x25, x26, x27⟩ : S_feed_Feed) (Int.tmod (IntKind.i64.wrap (x36.toNat : Int)) (20 : Int))).bind fun (x37, x38, x39) => need (decide (x29.length + x37.length ≤ 9223372036854775807)) <| some (.inl (x38.now_, x38.size_, x38.closed_, x39, x29 ++ x37, IntKind.i64.wrap (x30 + (1 : Int))))) (some (.inr (x25, x26, x27, x28, x29)))
noncomputable def M_boulterlaw08_FeedSame (p0 : List UInt8) (p1 : List UInt8) (p2 : List UInt8) : Option (Bool) :=
 (M_feed_New).bind fun x1w1 => iteB (((decide ((p0.length : Int) > (400 : Int))) || (decide ((p1.length : Int) > (40 : Int)))) || (decide ((p2.length : Int) > (400 : Int)))) ((M_boulterlaw08_awake).bind fun x2 => some x2) ((loop (M_boulterlaw08_FeedSame_L0 p0 p1) (x1w1.now_, x1w1.size_, x1w1.closed_, x1w1.wait_, (0 : Int), (0 : Int))).bind fun o1 => (match o1 with | .inl (x9, x10, x11, x12, x13) => (loop (M_boulterlaw08_FeedSame_L1 p2) (x9, x10, x11, x12, ([] : List UInt8), (0 : Int))).bind fun (x31, x32, x33, x34, x35) => (M_feed_Feed_Some_sPCHI (⟨x34, x31, x32, x33⟩ : S_feed_Feed) x13).bind fun (x40, x41, x42) => need (decide (x35.length + x40.length ≤ 9223372036854775807)) <| (subS p0 none (some x13)).bind fun x43 => (iteB ((x35 ++ x40) == x43) ((M_feed_Feed_Len_sPCH (⟨x42, x41.now_, x41.size_, x41.closed_⟩ : S_feed_Feed)).bind fun x45 => some (x45 == (0 : Int))) (some false) : Option (Bool)).bind fun x44 => (iteB x44 ((M_feed_Feed_Chunks_sPCH (⟨x42, x41.now_, x41.size_, x41.closed_⟩ : S_feed_Feed)).bind fun x47 => some (x47 == (0 : Int))) (some false) : Option (Bool)).bind fun x46 => (iteB x46 ((M_boulterlaw08_awake).bind fun x49 => some x49) (some false) : Option (Bool)).bind fun x48 => some x48 | .inr (x14, x15, x16, x17, x18) => some x18))
theorem ok_boulterlaw08_FeedSame {g : Gd} {h : AHeap} {F : List Ck} {p0 : List UInt8} {p1 : List UInt8} {p2 : List UInt8} {q0 : Bool} {av : List AVal} (hm : M_boulterlaw08_FeedSame p0 p1 p2 = some q0) (hc : canL (cfg.still 3) av = [.str p0, vs eY p1, vs eY p2]) (A : HH g h [] F) : ∃ v h', Runs cfg g h 3 av v h' ∧ v = .bool q0 ∧ HH g h' [] F := by
  refine runsQ1 (n := 112) (rs := [.tmp 6]) (by kernel_rfl) hc (by kernel_rfl) ?_
  clear hc
  unfold M_boulterlaw08_FeedSame at hm
  refine start (n := 112) [(0, .str p0), (1, vs eY p1), (2, vs eY p2)] (by kernel_rfl) (by kernel_rfl) ?_
  intro fr H
  refine aw_seq (by kernel_rfl) ?_
  refine aw_reg (id := 0) (n := 1) [(0, [])] (by kernel_rfl) (by kernel_rfl) ?_
  refine at_seg [(0, [])] [(0, .str p0), (1, vs eY p1), (2, vs eY p2)] H (noU_all rfl) (fun fr => by kernel_rfl) ?_
  intro fr H
  refine at_nil ?_
  show AW cfg 3 g (right (bodyC cfg.P 3)) fr h _
  refine aw_seq (by kernel_rfl) ?_
  refine aw_reg (id := 1) (n := 2) [(0, []), (1, [])] (by kernel_rfl) (by kernel_rfl) ?_
  have A1 := A.cut 0
  obtain ⟨x1w1, hx, hm⟩ := bind_some hm
  obtain ⟨v1, h1, hr, bx1w1, bx1w1_0, rfl, A1⟩ := ok_feed_New (av := []) hx (by kernel_rfl) A1
  replace A : HH g h1 [.obj bx1w1 (.cells none 2 [.chan (some bx1w1_0), .str x1w1.now_, .int .i64 x1w1.size_, .bool x1w1.closed_]), .obj bx1w1_0 (.chan 64 (lst eS x1w1.wait_))] F := A.glue0 (n := 0) A1
  refine at_step (v := .ptr (some (bx1w1, 0))) (h1 := h1) [(0, .str p0), (1, vs eY p1), (2, vs eY p2), (14, .ptr (some (bx1w1, 0)))] H (fun fr => by kernel_rfl) (fun fr => Steps.call (by kernel_rfl) hr) ?_
  intro fr t H
  refine at_seg [(1, [])] [(0, .str p0), (1, vs eY p1), (2, vs eY p2), (7, .ptr (some (bx1w1, 0)))] H (noU_all rfl) (fun fr => by kernel_rfl) ?_
  intro fr H
  refine at_nil ?_
  show AW cfg 3 g (right (right (bodyC cfg.P 3))) fr h1 _
  refine aw_seq (by kernel_rfl) ?_
  refine aw_seq (by kernel_rfl) ?_
  refine aw_reg (id := 2) (n := 17) [(0, []), (1, []), (2, []), (3, []), (4, []), (5, []), (6, []), (7, []), (8, []), (9, []), (10, []), (11, []), (12, []), (13, []), (14, []), (15, []), (16, [])] (by kernel_rfl) (by kernel_rfl) ?_
  refine at_seg [(0, []), (1, []), (2, []), (3, []), (4, []), (5, []), (6, []), (7, [])] [(0, .str p0), (1, vs eY p1), (2, vs eY p2), (7, .ptr (some (bx1w1, 0))), (22, .bool (decide ((p0.length : Int) > (400 : Int))))] H (noU_all rfl) (fun fr => by kernel_rfl) ?_
  intro fr H
  refine at_cut [(8, []), (9, []), (10, []), (11, [])] (fun fr' h' => h1 = h' ∧ Has fr' 112 [(0, .str p0), (1, vs eY p1), (2, vs eY p2), (7, .ptr (some (bx1w1, 0))), (26, .bool ((decide ((p0.length : Int) > (400 : Int))) || (decide ((p1.length : Int) > (40 : Int)))))]) ?_ ?_
  · cases hb : (decide ((p0.length : Int) > (400 : Int)) : Bool) with
    | true =>
      replace H := H.know 22 hb (by kernel_rfl)
      refine at_seg [(8, []), (9, []), (10, []), (11, [])] [(0, .str p0), (1, vs eY p1), (2, vs eY p2), (7, .ptr (some (bx1w1, 0))), (26, .bool true)] H (noU_all rfl) (fun fr => by kernel_rfl) ?_
      intro fr H
      exact at_nil ⟨rfl, by first | exact H.less _ (fun fr => by rfl) | exact H.less _ (fun fr => by rw [hb]; rfl)⟩
    | false =>
      replace H := H.know 22 hb (by kernel_rfl)
      refine at_seg [(8, []), (9, []), (10, []), (11, [])] [(0, .str p0), (1, vs eY p1), (2, vs eY p2), (7, .ptr (some (bx1w1, 0))), (26, .bool (decide ((p1.length : Int) > (40 : Int))))] H (noU_all rfl) (fun fr => by kernel_rfl) ?_
      intro fr H
      exact at_nil ⟨rfl, by first | exact H.less _ (fun fr => by rfl) | exact H.less _ (fun fr => by rw [hb]; rfl)⟩
  · intro t fr h' hK
    obtain ⟨e, H⟩ := hK
    subst e
    refine at_seg [(12, [])] [(0, .str p0), (1, vs eY p1), (2, vs eY p2), (7, .ptr (some (bx1w1, 0))), (27, .bool ((decide ((p0.length : Int) > (400 : Int))) || (decide ((p1.length : Int) > (40 : Int)))))] H (noU_all rfl) (fun fr => by kernel_rfl) ?_
    intro fr H
    refine at_cut [(13, []), (14, []), (15, []), (16, [])] (fun fr' h' => h1 = h' ∧ Has fr' 112 [(0, .str p0), (1, vs eY p1), (2, vs eY p2), (7, .ptr (some (bx1w1, 0))), (31, .bool (((decide ((p0.length : Int) > (400 : Int))) || (decide ((p1.length : Int) > (40 : Int)))) || (decide ((p2.length : Int) > (400 : Int)))))]) ?_ ?_
    · cases hb : ((decide ((p0.length : Int) > (400 : Int))) || (decide ((p1.length : Int) > (40 : Int))) : Bool) with
      | true =>
        replace H := H.know 27 hb (by kernel_rfl)
        refine at_seg [(13, []), (14, []), (15, []), (16, [])] [(0, .str p0), (1, vs eY p1), (2, vs eY p2), (7, .ptr (some (bx1w1, 0))), (31, .bool true)] H (noU_all rfl) (fun fr => by kernel_rfl) ?_
        intro fr H
        exact at_nil ⟨rfl, by first | exact H.less _ (fun fr => by rfl) | exact H.less _ (fun fr => by rw [hb]; rfl)⟩
      | false =>
        replace H := H.know 27 hb (by kernel_rfl)
        refine at_seg [(13, []), (14, []), (15, []), (16, [])] [(0, .str p0), (1, vs eY p1), (2, vs eY p2), (7, .ptr (some (bx1w1, 0))), (31, .bool (decide ((p2.length : Int) > (400 : Int))))] H (noU_all rfl) (fun fr => by kernel_rfl) ?_
        intro fr H
        exact at_nil ⟨rfl, by first | exact H.less _ (fun fr => by rfl) | exact H.less _ (fun fr => by rw [hb]; rfl)⟩
    · intro t fr h' hK
      obtain ⟨e, H⟩ := hK
      subst e
      refine at_nil ?_
      show AW cfg 3 g (right (left (right (right (bodyC cfg.P 3))))) fr h1 _
      rcases iteB_some hm with ⟨hb, hm⟩ | ⟨hb, hm⟩
      · replace H := H.know 31 hb (by kernel_rfl)
        refine aw_true (x := .tmp 31) (by kernel_rfl) H (fun fr => by kernel_rfl) ?_
        refine aw_seq (by kernel_rfl) ?_
        refine aw_reg (id := 3) (n := 6) [(0, []), (1, []), (2, []), (3, []), (4, []), (5, [])] (by kernel_rfl) (by kernel_rfl) ?_
        refine at_seg [(0, []), (1, []), (2, [])] [(34, .bool true)] H (noU_all rfl) (fun fr => by kernel_rfl) ?_
        intro fr H
        obtain ⟨x2, hx, hm⟩ := bind_some hm
        refine at_step (v := .bool x2) (h1 := h1) [(34, .bool true), (35, .bool x2)] H (fun fr => by kernel_rfl) (fun fr => Steps.call (by kernel_rfl) (ok_boulterlaw08_awake hx)) ?_
        intro fr t H
        refine at_seg [(4, []), (5, [])] [(6, .bool x2)] H (noU_all rfl) (fun fr => by kernel_rfl) ?_
        intro fr H
        refine at_nil ?_
        show AW cfg 3 g (right (left (right (left (right (right (bodyC cfg.P 3))))))) fr h1 _
        refine aw_ret (by kernel_rfl) ?_
        have e1 := Option.some.inj hm
        subst e1
        refine ⟨.inl rfl, .bool x2, resH H (fun fr => by kernel_rfl), ?_⟩
        replace A : HH g h1 [] F := (HH.dropF A 0)
        exact ⟨rfl, A⟩
      · replace H := H.know 31 hb (by kernel_rfl)
        refine aw_false (x := .tmp 31) (by kernel_rfl) H (fun fr => by kernel_rfl) ?_
        refine aw_skip (by kernel_rfl) ?_
        show AW cfg 3 g (right (right (right (bodyC cfg.P 3)))) fr h1 _
        refine aw_seq (by kernel_rfl) ?_
        refine aw_reg (id := 4) (n := 2) [(0, []), (1, [])] (by kernel_rfl) (by kernel_rfl) ?_
        refine at_seg [(0, []), (1, [])] [(0, .str p0), (1, vs eY p1), (2, vs eY p2), (7, .ptr (some (bx1w1, 0))), (8, .int .i64 (0 : Int)), (9, .str ([] : List UInt8))] H (noU_all rfl) (fun fr => by kernel_rfl) ?_
        intro fr H
        refine at_nil ?_
        show AW cfg 3 g (right (right (right (right (bodyC cfg.P 3))))) fr h1 _
        refine aw_seq (by kernel_rfl) ?_
        refine aw_seq (by kernel_rfl) ?_
        refine aw_reg (id := 5) (n := 1) [(0, [])] (by kernel_rfl) (by kernel_rfl) ?_
        refine at_seg [(0, [])] [(0, .str p0), (1, vs eY p1), (2, vs eY p2), (7, .ptr (some (bx1w1, 0))), (8, .int .i64 (0 : Int)), (9, .str ([] : List UInt8)), (10, .int .i64 (0 : Int))] H (noU_all rfl) (fun fr => by kernel_rfl) ?_
        intro fr H
        refine at_nil ?_
        show AW cfg 3 g (right (left (right (right (right (right (bodyC cfg.P 3))))))) fr h1 _
        refine aw_block (id := 0) (by kernel_rfl) ?_
        obtain ⟨o1, ho, hm⟩ := bind_some hm
        refine aw_mono (Q' := fun e fr' h' => (∃ (x9 : List UInt8) (x10 : Int) (x11 : Bool) (x12 : List (List UInt8)) (x13 : Int), e = .exit 0 ∧ .inl (x9, x10, x11, x12, x13) = o1 ∧ Has fr' 112 [(0, .str p0), (2, vs eY p2), (7, .ptr (some (bx1w1, 0))), (8, .int .i64 x13), (9, .str ([] : List UInt8))] ∧ HH g h' [.obj bx1w1 (.cells none 2 [.chan (some bx1w1_0), .str x9, .int .i64 x10, .bool x11]), .obj bx1w1_0 (.chan 64 (lst eS x12))] F) ∨ (∃ (x14 : List UInt8) (x15 : Int) (x16 : Bool) (x17 : List (List UInt8)) (x18 : Bool), e = .ret ∧ .inr (x14, x15, x16, x17, x18) = o1 ∧ Has fr' 112 [(6, .bool x18)] ∧ HH g h' [.obj bx1w1 (.cells none 2 [.chan (some bx1w1_0), .str x14, .int .i64 x15, .bool x16]), .obj bx1w1_0 (.chan 64 (lst eS x17))] F) ∨ False) ?_ ?_
        · refine aw_loop (by kernel_rfl) (fun (s : (List UInt8) × Int × Bool × (List (List UInt8)) × Int × Int) fr' h' => ∃ (x3 : List UInt8) (x4 : Int) (x5 : Bool) (x6 : List (List UInt8)) (x7 : Int) (x8 : Int), (x3, x4, x5, x6, x7, x8) = s ∧ Has fr' 112 [(0, .str p0), (1, vs eY p1), (2, vs eY p2), (7, .ptr (some (bx1w1, 0))), (8, .int .i64 x7), (9, .str ([] : List UInt8)), (10, .int .i64 x8)] ∧ HH g h' [.obj bx1w1 (.cells none 2 [.chan (some bx1w1_0), .str x3, .int .i64 x4, .bool x5]), .obj bx1w1_0 (.chan 64 (lst eS x6))] F) ho ⟨x1w1.now_, x1w1.size_, x1w1.closed_, x1w1.wait_, (0 : Int), (0 : Int), rfl, H.less _ (fun fr => by kernel_rfl), A⟩ ?_
          clear ho hm H A
          intro s q fr h2 hI hm
          obtain ⟨x3, x4, x5, x6, x7, x8, rfl, H, A⟩ := hI
          unfold M_boulterlaw08_FeedSame_L0 at hm
          refine aw_seq (by kernel_rfl) ?_
          refine aw_seq (by kernel_rfl) ?_
          refine aw_reg (id := 6) (n := 8) [(0, []), (1, []), (2, []), (3, []), (4, []), (5, []), (6, []), (7, [])] (by kernel_rfl) (by kernel_rfl) ?_
          refine at_seg [(0, []), (1, []), (2, []), (3, []), (4, [])] [(0, .str p0), (1, vs eY p1), (2, vs eY p2), (7, .ptr (some (bx1w1, 0))), (8, .int .i64 x7), (9, .str ([] : List UInt8)), (10, .int .i64 x8), (41, .bool (decide (x7 < (p0.length : Int))))] H (noU_all rfl) (fun fr => by kernel_rfl) ?_
          intro fr H
          refine at_cut [(5, []), (6, []), (7, [])] (fun fr' h' => h2 = h' ∧ Has fr' 112 [(0, .str p0), (1, vs eY p1), (2, vs eY p2), (7, .ptr (some (bx1w1, 0))), (8, .int .i64 x7), (9, .str ([] : List UInt8)), (10, .int .i64 x8), (44, .bool ((decide (x7 < (p0.length : Int))) && (decide (x8 < (60 : Int)))))]) ?_ ?_
          · cases hb : (decide (x7 < (p0.length : Int)) : Bool) with
            | true =>
              replace H := H.know 41 hb (by kernel_rfl)
              refine at_seg [(5, []), (6, []), (7, [])] [(0, .str p0), (1, vs eY p1), (2, vs eY p2), (7, .ptr (some (bx1w1, 0))), (8, .int .i64 x7), (9, .str ([] : List UInt8)), (10, .int .i64 x8), (44, .bool (decide (x8 < (60 : Int))))] H (noU_all rfl) (fun fr => by kernel_rfl) ?_
              intro fr H
              exact at_nil ⟨rfl, by first | exact H.less _ (fun fr => by rfl) | exact H.less _ (fun fr => by rw [hb]; rfl)⟩
            | false =>
              replace H := H.know 41 hb (by kernel_rfl)
              refine at_seg [(5, []), (6, []), (7, [])] [(0, .str p0), (1, vs eY p1), (2, vs eY p2), (7, .ptr (some (bx1w1, 0))), (8, .int .i64 x7), (9, .str ([] : List UInt8)), (10, .int .i64 x8), (44, .bool false)] H (noU_all rfl) (fun fr => by kernel_rfl) ?_
              intro fr H
              exact at_nil ⟨rfl, by first | exact H.less _ (fun fr => by rfl) | exact H.less _ (fun fr => by rw [hb]; rfl)⟩
          · intro t fr h' hK
            obtain ⟨e, H⟩ := hK
            subst e
            refine at_nil ?_
            show AW cfg 3 g (right (left (left (left (right (left (right (right (right (right (bodyC cfg.P 3))))))))))) fr h2 _
            rcases iteB_some hm with ⟨hb, hm⟩ | ⟨hb, hm⟩
            · replace H := H.know 44 hb (by kernel_rfl)
              refine aw_true (x := .tmp 44) (by kernel_rfl) H (fun fr => by kernel_rfl) ?_
              refine aw_skip (by kernel_rfl) ?_
              show AW cfg 3 g (right (left (left (right (left (right (right (right (right (bodyC cfg.P 3)))))))))) fr h2 _
              refine aw_seq (by kernel_rfl) ?_
              refine aw_block (id := 1) (by kernel_rfl) ?_
              refine aw_seq (by kernel_rfl) ?_
              refine aw_reg (id := 8) (n := 5) [(0, []), (1, []), (2, []), (3, []), (4, [])] (by kernel_rfl) (by kernel_rfl) ?_
              refine at_seg [(0, []), (1, []), (2, []), (3, []), (4, [])] [(0, .str p0), (1, vs eY p1), (2, vs eY p2), (7, .ptr (some (bx1w1, 0))), (8, .int .i64 x7), (9, .str ([] : List UInt8)), (10, .int .i64 x8), (11, .int .i64 (IntKind.i64.wrap ((p0.length : Int) - x7)))] H (noU_all rfl) (fun fr => by kernel_rfl) ?_
              intro fr H
              refine at_nil ?_
              show AW cfg 3 g (right (left (left (right (left (left (right (left (right (right (right (right (bodyC cfg.P 3))))))))))))) fr h2 _
              refine aw_seq (by kernel_rfl) ?_
              obtain ⟨o2, ho, hm⟩ := bind_some hm
              refine aw_mono (Q' := fun e fr' h' => (∃ (x19 : Int), e = .normal ∧ x19 = o2 ∧ Has fr' 112 [(0, .str p0), (1, vs eY p1), (2, vs eY p2), (7, .ptr (some (bx1w1, 0))), (8, .int .i64 x7), (9, .str ([] : List UInt8)), (10, .int .i64 x8), (11, .int .i64 x19)] ∧ HH g h' [.obj bx1w1 (.cells none 2 [.chan (some bx1w1_0), .str x3, .int .i64 x4, .bool x5]), .obj bx1w1_0 (.chan 64 (lst eS x6))] F) ∨ False) ?_ ?_
              · replace hm := ho
                clear ho
                refine aw_seq (by kernel_rfl) ?_
                refine aw_reg (id := 9) (n := 4) [(0, []), (1, []), (2, []), (3, [])] (by kernel_rfl) (by kernel_rfl) ?_
                refine at_seg [(0, []), (1, []), (2, []), (3, [])] [(0, .str p0), (1, vs eY p1), (2, vs eY p2), (7, .ptr (some (bx1w1, 0))), (8, .int .i64 x7), (9, .str ([] : List UInt8)), (10, .int .i64 x8), (11, .int .i64 (IntKind.i64.wrap ((p0.length : Int) - x7))), (54, .bool (decide (x8 < (p1.length : Int))))] H (noU_all rfl) (fun fr => by kernel_rfl) ?_
                intro fr H
                refine at_nil ?_
                show AW cfg 3 g (right (left (right (left (left (right (left (left (right (left (right (right (right (right (bodyC cfg.P 3))))))))))))))) fr h2 _
                rcases iteB_some hm with ⟨hb, hm⟩ | ⟨hb, hm⟩
                · replace H := H.know 54 hb (by kernel_rfl)
                  refine aw_true (x := .tmp 54) (by kernel_rfl) H (fun fr => by kernel_rfl) ?_
                  refine aw_reg (id := 10) (n := 9) [(0, []), (1, []), (2, []), (3, []), (4, []), (5, []), (6, []), (7, []), (8, [])] (by kernel_rfl) (by kernel_rfl) ?_
                  refine at_seg [(0, []), (1, []), (2, [])] [(0, .str p0), (1, vs eY p1), (2, vs eY p2), (7, .ptr (some (bx1w1, 0))), (8, .int .i64 x7), (9, .str ([] : List UInt8)), (10, .int .i64 x8), (55, .int .i64 (IntKind.i64.wrap ((p0.length : Int) - x7))), (56, vs eY p1), (57, .int .i64 x8)] H (noU_all rfl) (fun fr => by kernel_rfl) ?_
                  intro fr H
                  obtain ⟨x20, hx, hm⟩ := bind_some hm
                  refine at_step (v := .vptr [.int .u8 (x20.toNat : Int)]) (h1 := h2) [(0, .str p0), (1, vs eY p1), (2, vs eY p2), (7, .ptr (some (bx1w1, 0))), (8, .int .i64 x7), (9, .str ([] : List UInt8)), (10, .int .i64 x8), (55, .int .i64 (IntKind.i64.wrap ((p0.length : Int) - x7))), (58, .vptr [.int .u8 (x20.toNat : Int)])] H (fun fr => by kernel_rfl) (fun fr => .of (s_ixV (e := eY) (x := x20) encY (by decide) (by kernel_rfl) hx)) ?_
                  intro fr t H
                  refine at_step (v := .int .u8 (x20.toNat : Int)) (h1 := h2) [(0, .str p0), (1, vs eY p1), (2, vs eY p2), (7, .ptr (some (bx1w1, 0))), (8, .int .i64 x7), (9, .str ([] : List UInt8)), (10, .int .i64 x8), (55, .int .i64 (IntKind.i64.wrap ((p0.length : Int) - x7))), (59, .int .u8 (x20.toNat : Int))] H (fun fr => by kernel_rfl) (fun fr => .of (s_lv (by kernel_rfl))) ?_
                  intro fr t H
                  refine at_seg [(5, []), (6, []), (7, []), (8, [])] [(0, .str p0), (1, vs eY p1), (2, vs eY p2), (7, .ptr (some (bx1w1, 0))), (8, .int .i64 x7), (9, .str ([] : List UInt8)), (10, .int .i64 x8), (11, .int .i64 (mn (IntKind.i64.wrap ((p0.length : Int) - x7)) (Int.tmod (IntKind.i64.wrap (x20.toNat : Int)) (50 : Int))))] H (noU_all rfl) (fun fr => by kernel_rfl) ?_
                  intro fr H
                  refine at_nil ?_
                  exact Or.inl ⟨mn (IntKind.i64.wrap ((p0.length : Int) - x7)) (Int.tmod (IntKind.i64.wrap (x20.toNat : Int)) (50 : Int)), rfl, Option.some.inj hm, H.less _ (fun fr => by kernel_rfl), A⟩
                · replace H := H.know 54 hb (by kernel_rfl)
                  refine aw_false (x := .tmp 54) (by kernel_rfl) H (fun fr => by kernel_rfl) ?_
                  refine aw_skip (by kernel_rfl) ?_
                  exact Or.inl ⟨IntKind.i64.wrap ((p0.length : Int) - x7), rfl, Option.some.inj hm, H.less _ (fun fr => by kernel_rfl), A⟩
              · clear ho
                clear A
                intro e fr h3 hQ
                rcases hQ with ⟨x19, rfl, rfl, H, A⟩ | hF
                · skip
                  show AW cfg 3 g (right (right (left (left (right (left (left (right (left (right (right (right (right (bodyC cfg.P 3)))))))))))))) fr h3 _
                  refine aw_seq (by kernel_rfl) ?_
                  refine aw_seq (by kernel_rfl) ?_
                  refine aw_reg (id := 11) (n := 10) [(0, []), (1, []), (2, []), (3, []), (4, []), (5, []), (6, []), (7, []), (8, []), (9, [])] (by kernel_rfl) (by kernel_rfl) ?_
                  refine at_seg [(0, []), (1, []), (2, []), (3, []), (4, []), (5, [])] [(0, .str p0), (1, vs eY p1), (2, vs eY p2), (7, .ptr (some (bx1w1, 0))), (8, .int .i64 x7), (9, .str ([] : List UInt8)), (10, .int .i64 x8), (11, .int .i64 x19), (63, .ptr (some (bx1w1, 0))), (64, .str p0), (65, .int .i64 x7), (68, .int .i64 (IntKind.i64.wrap (x7 + x19)))] H (noU_all rfl) (fun fr => by kernel_rfl) ?_
                  intro fr H
                  obtain ⟨x21, hx, hm⟩ := bind_some hm
                  refine at_step (v := .str x21) (h1 := h3) [(0, .str p0), (1, vs eY p1), (2, vs eY p2), (7, .ptr (some (bx1w1, 0))), (8, .int .i64 x7), (9, .str ([] : List UInt8)), (10, .int .i64 x8), (11, .int .i64 x19), (63, .ptr (some (bx1w1, 0))), (69, .str x21)] H (fun fr => by kernel_rfl) (fun fr => .of (s_subS (k := .i64) (k' := .i64) (lo := (some x7)) (hi := (some (IntKind.i64.wrap (x7 + x19)))) (by kernel_rfl) hx)) ?_
                  intro fr t H
                  obtain ⟨hb, hm⟩ := need_some hm
                  obtain ⟨h4, e1⟩ : ∃ x, x = h3.push (.cells (some 5) 2 (x21.map fun b => .int .u8 b.toNat)) := ⟨_, rfl⟩
                  replace A : HH g h4 [.lst (some h3.size) 5 (lst eY x21), .obj bx1w1 (.cells none 2 [.chan (some bx1w1_0), .str x3, .int .i64 x4, .bool x5]), .obj bx1w1_0 (.chan 64 (lst eS x6))] F := by rw [← map_eY]; exact (A.pushL _ _).to e1
                  refine at_step (v := rowV (some h3.size) x21.length) (h1 := h4) [(0, .str p0), (1, vs eY p1), (2, vs eY p2), (7, .ptr (some (bx1w1, 0))), (8, .int .i64 x7), (9, .str ([] : List UInt8)), (10, .int .i64 x8), (11, .int .i64 x19), (63, .ptr (some (bx1w1, 0))), (70, rowV (some h3.size) x21.length)] H (fun fr => by kernel_rfl) (fun fr => .of (s_toB (by kernel_rfl) hb (congrArg some e1.symm))) ?_
                  intro fr t H
                  replace A : HH g h4 [.obj bx1w1 (.cells none 2 [.chan (some bx1w1_0), .str x3, .int .i64 x4, .bool x5]), .obj bx1w1_0 (.chan 64 (lst eS x6)), .lst (some h3.size) 5 (lst eY x21)] F := (((A.front 0 rfl).front 2 rfl).front 2 rfl)
                  have A1 := A.cut 3
                  obtain ⟨⟨x22, x23, x24⟩, hx, hm⟩ := bind_some hm
                  obtain ⟨v1, h5, hr, rfl, A1⟩ := ok_feed_Feed_Put_sPCHO (av := [.ptr (some (bx1w1, 0)), rowV (some h3.size) x21.length]) hx (by kernel_rfl) A1
                  replace A : HH g h5 [.obj bx1w1 (.cells none 2 [.chan (some bx1w1_0), .str x23.now_, .int .i64 x23.size_, .bool x23.closed_]), .obj bx1w1_0 (.chan 64 (lst eS x24)), .lst (some h3.size) 5 (lst eY x21)] F := A.glue0 (n := 3) A1
                  refine at_step (v := .int .i64 x22) (h1 := h5) [(0, .str p0), (1, vs eY p1), (2, vs eY p2), (7, .ptr (some (bx1w1, 0))), (8, .int .i64 x7), (9, .str ([] : List UInt8)), (10, .int .i64 x8), (11, .int .i64 x19), (71, .int .i64 x22)] H (fun fr => by kernel_rfl) (fun fr => Steps.call (by kernel_rfl) hr) ?_
                  intro fr t H
                  refine at_seg [(9, [])] [(0, .str p0), (1, vs eY p1), (2, vs eY p2), (7, .ptr (some (bx1w1, 0))), (8, .int .i64 x7), (9, .str ([] : List UInt8)), (10, .int .i64 x8), (11, .int .i64 x19), (72, .bool (x22 != (0 : Int)))] H (noU_all rfl) (fun fr => by kernel_rfl) ?_
                  intro fr H
                  refine at_nil ?_
                  show AW cfg 3 g (right (left (right (right (left (left (right (left (left (right (left (right (right (right (right (bodyC cfg.P 3)))))))))))))))) fr h5 _
                  rcases iteB_some hm with ⟨hb, hm⟩ | ⟨hb, hm⟩
                  · replace H := H.know 72 hb (by kernel_rfl)
                    refine aw_true (x := .tmp 72) (by kernel_rfl) H (fun fr => by kernel_rfl) ?_
                    refine aw_seq (by kernel_rfl) ?_
                    refine aw_reg (id := 12) (n := 1) [(0, [])] (by kernel_rfl) (by kernel_rfl) ?_
                    refine at_seg [(0, [])] [(6, .bool false)] H (noU_all rfl) (fun fr => by kernel_rfl) ?_
                    intro fr H
                    refine at_nil ?_
                    show AW cfg 3 g (right (left (right (left (right (right (left (left (right (left (left (right (left (right (right (right (right (bodyC cfg.P 3)))))))))))))))))) fr h5 _
                    refine aw_ret (by kernel_rfl) ?_
                    replace A : HH g h5 [.obj bx1w1 (.cells none 2 [.chan (some bx1w1_0), .str x23.now_, .int .i64 x23.size_, .bool x23.closed_]), .obj bx1w1_0 (.chan 64 (lst eS x24))] F := (HH.dropF ((A.front 1 rfl).front 1 rfl) 2)
                    exact Exists.intro _ (And.intro (Option.some.inj hm).symm (fun e => Or.inr (Or.inl ⟨x23.now_, x23.size_, x23.closed_, x24, false, rfl, e, H.less _ (fun fr => by kernel_rfl), A⟩)))
                  · replace H := H.know 72 hb (by kernel_rfl)
                    refine aw_false (x := .tmp 72) (by kernel_rfl) H (fun fr => by kernel_rfl) ?_
                    refine aw_skip (by kernel_rfl) ?_
                    show AW cfg 3 g (right (right (right (left (left (right (left (left (right (left (right (right (right (right (bodyC cfg.P 3))))))))))))))) fr h5 _
                    refine aw_reg (id := 13) (n := 4) [(0, []), (1, []), (2, []), (3, [])] (by kernel_rfl) (by kernel_rfl) ?_
                    refine at_seg [(0, []), (1, []), (2, []), (3, [])] [(0, .str p0), (1, vs eY p1), (2, vs eY p2), (7, .ptr (some (bx1w1, 0))), (8, .int .i64 (IntKind.i64.wrap (x7 + x19))), (9, .str ([] : List UInt8)), (10, .int .i64 x8)] H (noU_all rfl) (fun fr => by kernel_rfl) ?_
                    intro fr H
                    refine at_nil ?_
                    show AW cfg 3 g (right (right (left (left (right (left (right (right (right (right (bodyC cfg.P 3))))))))))) fr h5 _
                    refine aw_reg (id := 7) (n := 3) [(0, []), (1, []), (2, [])] (by kernel_rfl) (by kernel_rfl) ?_
                    refine at_seg [(0, []), (1, []), (2, [])] [(0, .str p0), (1, vs eY p1), (2, vs eY p2), (7, .ptr (some (bx1w1, 0))), (8, .int .i64 (IntKind.i64.wrap (x7 + x19))), (9, .str ([] : List UInt8)), (10, .int .i64 (IntKind.i64.wrap (x8 + (1 : Int))))] H (noU_all rfl) (fun fr => by kernel_rfl) ?_
                    intro fr H
                    refine at_nil ?_
                    replace A : HH g h5 [.obj bx1w1 (.cells none 2 [.chan (some bx1w1_0), .str x23.now_, .int .i64 x23.size_, .bool x23.closed_]), .obj bx1w1_0 (.chan 64 (lst eS x24))] F := (HH.dropF ((A.front 1 rfl).front 1 rfl) 2)
                    exact Exists.intro (x23.now_, x23.size_, x23.closed_, x24, IntKind.i64.wrap (x7 + x19), IntKind.i64.wrap (x8 + (1 : Int))) (And.intro (Option.some.inj hm).symm ⟨x23.now_, x23.size_, x23.closed_, x24, IntKind.i64.wrap (x7 + x19), IntKind.i64.wrap (x8 + (1 : Int)), rfl, H.less _ (fun fr => by kernel_rfl), A⟩)
                · exact hF.elim
            · replace H := H.know 44 hb (by kernel_rfl)
              refine aw_false (x := .tmp 44) (by kernel_rfl) H (fun fr => by kernel_rfl) ?_
              refine aw_exit (i := 0) (by kernel_rfl) ?_
              exact Exists.intro _ (And.intro (Option.some.inj hm).symm (fun e => Or.inl ⟨x3, x4, x5, x6, x7, rfl, e, H.less _ (fun fr => by kernel_rfl), A⟩))
        · clear ho
          clear A
          intro e fr h6 hQ
          rcases hQ with ⟨x9, x10, x11, x12, x13, rfl, rfl, H, A⟩ | ⟨x14, x15, x16, x17, x18, rfl, rfl, H, A⟩ | hF
          · skip
            show AW cfg 3 g (right (right (right (right (right (bodyC cfg.P 3)))))) fr h6 _
            refine aw_seq (by kernel_rfl) ?_
            refine aw_seq (by kernel_rfl) ?_
            refine aw_reg (id := 14) (n := 3) [(0, []), (1, []), (2, [])] (by kernel_rfl) (by kernel_rfl) ?_
            refine at_seg [(0, []), (1, []), (2, [])] [(0, .str p0), (7, .ptr (some (bx1w1, 0))), (8, .int .i64 x13), (9, .str ([] : List UInt8)), (76, vs eY p2), (77, .int .i64 (p2.length : Int)), (78, .int .i64 (0 : Int))] H (noU_all rfl) (fun fr => by kernel_rfl) ?_
            intro fr H
            refine at_nil ?_
            show AW cfg 3 g (right (left (right (right (right (right (right (bodyC cfg.P 3)))))))) fr h6 _
            refine aw_block (id := 2) (by kernel_rfl) ?_
            obtain ⟨o3, ho, hm⟩ := bind_some hm
            refine aw_mono (Q' := fun e fr' h' => (∃ (x31 : List UInt8) (x32 : Int) (x33 : Bool) (x34 : List (List UInt8)) (x35 : List UInt8), e = .exit 2 ∧ (x31, x32, x33, x34, x35) = o3 ∧ Has fr' 112 [(0, .str p0), (7, .ptr (some (bx1w1, 0))), (8, .int .i64 x13), (9, .str x35)] ∧ HH g h' [.obj bx1w1 (.cells none 2 [.chan (some bx1w1_0), .str x31, .int .i64 x32, .bool x33]), .obj bx1w1_0 (.chan 64 (lst eS x34))] F) ∨ False) ?_ ?_
            · refine aw_loop (by kernel_rfl) (fun (s : (List UInt8) × Int × Bool × (List (List UInt8)) × (List UInt8) × Int) fr' h' => ∃ (x25 : List UInt8) (x26 : Int) (x27 : Bool) (x28 : List (List UInt8)) (x29 : List UInt8) (x30 : Int), (x25, x26, x27, x28, x29, x30) = s ∧ Has fr' 112 [(0, .str p0), (7, .ptr (some (bx1w1, 0))), (8, .int .i64 x13), (9, .str x29), (76, vs eY p2), (77, .int .i64 (p2.length : Int)), (78, .int .i64 x30)] ∧ HH g h' [.obj bx1w1 (.cells none 2 [.chan (some bx1w1_0), .str x25, .int .i64 x26, .bool x27]), .obj bx1w1_0 (.chan 64 (lst eS x28))] F) ho ⟨x9, x10, x11, x12, ([] : List UInt8), (0 : Int), rfl, H.less _ (fun fr => by kernel_rfl), A⟩ ?_
              clear ho hm H A
              intro s q fr h7 hI hm
              obtain ⟨x25, x26, x27, x28, x29, x30, rfl, H, A⟩ := hI
              unfold M_boulterlaw08_FeedSame_L1 at hm
              refine aw_seq (by kernel_rfl) ?_
              refine aw_reg (id := 15) (n := 1) [(0, [])] (by kernel_rfl) (by kernel_rfl) ?_
              refine at_seg [(0, [])] [(0, .str p0), (7, .ptr (some (bx1w1, 0))), (8, .int .i64 x13), (9, .str x29), (76, vs eY p2), (77, .int .i64 (p2.length : Int)), (78, .int .i64 x30), (79, .bool (decide (x30 < (p2.length : Int))))] H (noU_all rfl) (fun fr => by kernel_rfl) ?_
              intro fr H
              refine at_nil ?_
              show AW cfg 3 g (right (left (left (right (left (right (right (right (right (right (bodyC cfg.P 3))))))))))) fr h7 _
              refine aw_seq (by kernel_rfl) ?_
              rcases iteB_some hm with ⟨hb, hm⟩ | ⟨hb, hm⟩
              · replace H := H.know 79 hb (by kernel_rfl)
                refine aw_true (x := .tmp 79) (by kernel_rfl) H (fun fr => by kernel_rfl) ?_
                refine aw_skip (by kernel_rfl) ?_
                show AW cfg 3 g (right (right (left (left (right (left (right (right (right (right (right (bodyC cfg.P 3)))))))))))) fr h7 _
                refine aw_seq (by kernel_rfl) ?_
                refine aw_block (id := 3) (by kernel_rfl) ?_
                refine aw_seq (by kernel_rfl) ?_
                refine aw_reg (id := 16) (n := 3) [(0, []), (1, []), (2, [])] (by kernel_rfl) (by kernel_rfl) ?_
                obtain ⟨x36, hx, hm⟩ := bind_some hm
                refine at_step (v := .vptr [.int .u8 (x36.toNat : Int)]) (h1 := h7) [(0, .str p0), (7, .ptr (some (bx1w1, 0))), (8, .int .i64 x13), (9, .str x29), (76, vs eY p2), (77, .int .i64 (p2.length : Int)), (78, .int .i64 x30), (80, .vptr [.int .u8 (x36.toNat : Int)])] H (fun fr => by kernel_rfl) (fun fr => .of (s_ixV (e := eY) (x := x36) encY (by decide) (by kernel_rfl) hx)) ?_
                intro fr t H
                refine at_step (v := .int .u8 (x36.toNat : Int)) (h1 := h7) [(0, .str p0), (7, .ptr (some (bx1w1, 0))), (8, .int .i64 x13), (9, .str x29), (76, vs eY p2), (77, .int .i64 (p2.length : Int)), (78, .int .i64 x30), (81, .int .u8 (x36.toNat : Int))] H (fun fr => by kernel_rfl) (fun fr => .of (s_lv (by kernel_rfl))) ?_
                intro fr t H
                refine at_seg [(2, [])] [(0, .str p0), (7, .ptr (some (bx1w1, 0))), (8, .int .i64 x13), (9, .str x29), (13, .int .u8 (x36.toNat : Int)), (76, vs eY p2), (77, .int .i64 (p2.length : Int)), (78, .int .i64 x30)] H (noU_all rfl) (fun fr => by kernel_rfl) ?_
                intro fr H
                refine at_nil ?_
                show AW cfg 3 g (right (left (left (right (right (left (left (right (left (right (right (right (right (right (bodyC cfg.P 3))))))))))))))) fr h7 _
                refine aw_reg (id := 17) (n := 8) [(0, []), (1, []), (2, []), (3, []), (4, []), (5, []), (6, []), (7, [])] (by kernel_rfl) (by kernel_rfl) ?_
                refine at_seg [(0, []), (1, []), (2, []), (3, []), (4, [])] [(0, .str p0), (7, .ptr (some (bx1w1, 0))), (8, .int .i64 x13), (76, vs eY p2), (77, .int .i64 (p2.length : Int)), (78, .int .i64 x30), (82, .str x29), (83, .ptr (some (bx1w1, 0))), (86, .int .i64 (Int.tmod (IntKind.i64.wrap (x36.toNat : Int)) (20 : Int)))] H (noU_all rfl) (fun fr => by kernel_rfl) ?_
                intro fr H
                have A1 := A.cut 2
                obtain ⟨⟨x37, x38, x39⟩, hx, hm⟩ := bind_some hm
                obtain ⟨v1, h8, hr, rfl, A1⟩ := ok_feed_Feed_Some_sPCHI (av := [.ptr (some (bx1w1, 0)), .int .i64 (Int.tmod (IntKind.i64.wrap (x36.toNat : Int)) (20 : Int))]) hx (by kernel_rfl) A1
                replace A : HH g h8 [.obj bx1w1 (.cells none 2 [.chan (some bx1w1_0), .str x38.now_, .int .i64 x38.size_, .bool x38.closed_]), .obj bx1w1_0 (.chan 64 (lst eS x39))] F := A.glue0 (n := 2) A1
                refine at_step (v := .str x37) (h1 := h8) [(0, .str p0), (7, .ptr (some (bx1w1, 0))), (8, .int .i64 x13), (76, vs eY p2), (77, .int .i64 (p2.length : Int)), (78, .int .i64 x30), (82, .str x29), (87, .str x37)] H (fun fr => by kernel_rfl) (fun fr => Steps.call (by kernel_rfl) hr) ?_
                intro fr t H
                obtain ⟨hb, hm⟩ := need_some hm
                refine at_step (v := .str (x29 ++ x37)) (h1 := h8) [(0, .str p0), (7, .ptr (some (bx1w1, 0))), (8, .int .i64 x13), (76, vs eY p2), (77, .int .i64 (p2.length : Int)), (78, .int .i64 x30), (88, .str (x29 ++ x37))] H (fun fr => by kernel_rfl) (fun fr => .of (s_cat (by kernel_rfl) hb)) ?_
                intro fr t H
                refine at_seg [(7, [])] [(0, .str p0), (7, .ptr (some (bx1w1, 0))), (8, .int .i64 x13), (9, .str (x29 ++ x37)), (76, vs eY p2), (77, .int .i64 (p2.length : Int)), (78, .int .i64 x30)] H (noU_all rfl) (fun fr => by kernel_rfl) ?_
                intro fr H
                refine at_nil ?_
                show AW cfg 3 g (right (right (right (left (left (right (left (right (right (right (right (right (bodyC cfg.P 3))))))))))))) fr h8 _
                refine aw_reg (id := 18) (n := 2) [(0, []), (1, [])] (by kernel_rfl) (by kernel_rfl) ?_
                refine at_seg [(0, []), (1, [])] [(0, .str p0), (7, .ptr (some (bx1w1, 0))), (8, .int .i64 x13), (9, .str (x29 ++ x37)), (76, vs eY p2), (77, .int .i64 (p2.length : Int)), (78, .int .i64 (IntKind.i64.wrap (x30 + (1 : Int))))] H (noU_all rfl) (fun fr => by kernel_rfl) ?_
                intro fr H
                refine at_nil ?_
                exact Exists.intro (x38.now_, x38.size_, x38.closed_, x39, x29 ++ x37, IntKind.i64.wrap (x30 + (1 : Int))) (And.intro (Option.some.inj hm).symm ⟨x38.now_, x38.size_, x38.closed_, x39, x29 ++ x37, IntKind.i64.wrap (x30 + (1 : Int)), rfl, H.less _ (fun fr => by kernel_rfl), A⟩)
              · replace H := H.know 79 hb (by kernel_rfl)
                refine aw_false (x := .tmp 79) (by kernel_rfl) H (fun fr => by kernel_rfl) ?_
                refine aw_exit (i := 2) (by kernel_rfl) ?_
                exact Exists.intro _ (And.intro (Option.some.inj hm).symm (fun e => Or.inl ⟨x25, x26, x27, x28, x29, rfl, e, H.less _ (fun fr => by kernel_rfl), A⟩))
            · clear ho
              clear A
              intro e fr h9 hQ
              rcases hQ with ⟨x31, x32, x33, x34, x35, rfl, rfl, H, A⟩ | hF
              · skip
                show AW cfg 3 g (right (right (right (right (right (right (bodyC cfg.P 3))))))) fr h9 _
                refine aw_seq (by kernel_rfl) ?_
                refine aw_draw (id := 19) (n := 23) (by kernel_rfl) [(0, []), (1, []), (2, []), (3, []), (4, []), (5, []), (6, []), (7, []), (8, []), (9, []), (10, []), (11, []), (12, []), (13, []), (14, []), (15, []), (16, []), (17, []), (18, []), (19, []), (20, []), (21, []), (22, [])] (by kernel_rfl) ?_
                refine at_seg [(0, []), (1, []), (2, [])] [(0, .str p0), (7, .ptr (some (bx1w1, 0))), (8, .int .i64 x13), (90, .str x35), (91, .ptr (some (bx1w1, 0))), (92, .int .i64 x13)] H (noU_all rfl) (fun fr => by kernel_rfl) ?_
                intro fr H
                have A1 := A.cut 2
                obtain ⟨⟨x40, x41, x42⟩, hx, hm⟩ := bind_some hm
                obtain ⟨v1, h10, hr, rfl, A1⟩ := ok_feed_Feed_Some_sPCHI (av := [.ptr (some (bx1w1, 0)), .int .i64 x13]) hx (by kernel_rfl) A1
                replace A : HH g h10 [.obj bx1w1 (.cells none 2 [.chan (some bx1w1_0), .str x41.now_, .int .i64 x41.size_, .bool x41.closed_]), .obj bx1w1_0 (.chan 64 (lst eS x42))] F := A.glue0 (n := 2) A1
                refine at_step (v := .str x40) (h1 := h10) [(0, .str p0), (7, .ptr (some (bx1w1, 0))), (8, .int .i64 x13), (90, .str x35), (93, .str x40)] H (fun fr => by kernel_rfl) (fun fr => Steps.call (by kernel_rfl) hr) ?_
                intro fr t H
                obtain ⟨hb, hm⟩ := need_some hm
                refine at_step (v := .str (x35 ++ x40)) (h1 := h10) [(0, .str p0), (7, .ptr (some (bx1w1, 0))), (8, .int .i64 x13), (94, .str (x35 ++ x40))] H (fun fr => by kernel_rfl) (fun fr => .of (s_cat (by kernel_rfl) hb)) ?_
                intro fr t H
                refine at_seg [(5, []), (6, [])] [(7, .ptr (some (bx1w1, 0))), (94, .str (x35 ++ x40)), (95, .str p0), (96, .int .i64 x13)] H (noU_all rfl) (fun fr => by kernel_rfl) ?_
                intro fr H
                obtain ⟨x43, hx, hm⟩ := bind_some hm
                refine at_step (v := .str x43) (h1 := h10) [(7, .ptr (some (bx1w1, 0))), (94, .str (x35 ++ x40)), (97, .str x43)] H (fun fr => by kernel_rfl) (fun fr => .of (s_subS (k := .i64) (k' := .i64) (lo := none) (hi := (some x13)) (by kernel_rfl) hx)) ?_
                intro fr t H
                refine at_seg [(8, []), (9, [])] [(7, .ptr (some (bx1w1, 0))), (99, .bool ((x35 ++ x40) == x43))] H (noU_all rfl) (fun fr => by kernel_rfl) ?_
                intro fr H
                obtain ⟨x44, ho, hm⟩ := bind_some hm
                refine at_cut [(10, []), (11, []), (12, []), (13, [])] (fun fr' h' => Has fr' 112 [(7, .ptr (some (bx1w1, 0))), (103, .bool x44)] ∧ HH g h' [.obj bx1w1 (.cells none 2 [.chan (some bx1w1_0), .str x41.now_, .int .i64 x41.size_, .bool x41.closed_]), .obj bx1w1_0 (.chan 64 (lst eS x42))] F) ?_ ?_
                · rcases iteB_some ho with ⟨hb, hm⟩ | ⟨hb, hm⟩
                  · replace H := H.know 99 hb (by kernel_rfl)
                    refine at_seg [(10, [])] [(7, .ptr (some (bx1w1, 0))), (99, .bool true), (100, .ptr (some (bx1w1, 0)))] H (noU_all rfl) (fun fr => by kernel_rfl) ?_
                    intro fr H
                    have A1 := A.cut 2
                    obtain ⟨x45, hx, hm⟩ := bind_some hm
                    obtain ⟨v1, h12, hr, rfl, A1⟩ := ok_feed_Feed_Len_sPCH (av := [.ptr (some (bx1w1, 0))]) hx (by kernel_rfl) A1
                    replace A : HH g h12 [.obj bx1w1 (.cells none 2 [.chan (some bx1w1_0), .str x41.now_, .int .i64 x41.size_, .bool x41.closed_]), .obj bx1w1_0 (.chan 64 (lst eS x42))] F := A.glue0 (n := 2) A1
                    refine at_step (v := .int .i64 x45) (h1 := h12) [(7, .ptr (some (bx1w1, 0))), (99, .bool true), (101, .int .i64 x45)] H (fun fr => by kernel_rfl) (fun fr => Steps.call (by kernel_rfl) hr) ?_
                    intro fr t H
                    refine at_seg [(12, []), (13, [])] [(7, .ptr (some (bx1w1, 0))), (103, .bool (x45 == (0 : Int)))] H (noU_all rfl) (fun fr => by kernel_rfl) ?_
                    intro fr H
                    have e1 := Option.some.inj hm
                    subst e1
                    exact at_nil ⟨H.less _ (fun fr => by kernel_rfl), A⟩
                  · replace H := H.know 99 hb (by kernel_rfl)
                    refine at_seg [(10, []), (11, []), (12, []), (13, [])] [(7, .ptr (some (bx1w1, 0))), (103, .bool false)] H (noU_all rfl) (fun fr => by kernel_rfl) ?_
                    intro fr H
                    have e1 := Option.some.inj hm
                    subst e1
                    exact at_nil ⟨H.less _ (fun fr => by kernel_rfl), A⟩
                · clear A
                  intro t fr h11 hK
                  obtain ⟨H, A⟩ := hK
                  refine at_seg [(14, [])] [(7, .ptr (some (bx1w1, 0))), (104, .bool x44)] H (noU_all rfl) (fun fr => by kernel_rfl) ?_
                  intro fr H
                  obtain ⟨x46, ho, hm⟩ := bind_some hm
                  refine at_cut [(15, []), (16, []), (17, []), (18, [])] (fun fr' h' => Has fr' 112 [(108, .bool x46)] ∧ HH g h' [.obj bx1w1 (.cells none 2 [.chan (some bx1w1_0), .str x41.now_, .int .i64 x41.size_, .bool x41.closed_]), .obj bx1w1_0 (.chan 64 (lst eS x42))] F) ?_ ?_
                  · rcases iteB_some ho with ⟨hb, hm⟩ | ⟨hb, hm⟩
                    · replace H := H.know 104 hb (by kernel_rfl)
                      refine at_seg [(15, [])] [(104, .bool true), (105, .ptr (some (bx1w1, 0)))] H (noU_all rfl) (fun fr => by kernel_rfl) ?_
                      intro fr H
                      have A1 := A.cut 2
                      obtain ⟨x47, hx, hm⟩ := bind_some hm
                      obtain ⟨v1, h14, hr, rfl, A1⟩ := ok_feed_Feed_Chunks_sPCH (av := [.ptr (some (bx1w1, 0))]) hx (by kernel_rfl) A1
                      replace A : HH g h14 [.obj bx1w1 (.cells none 2 [.chan (some bx1w1_0), .str x41.now_, .int .i64 x41.size_, .bool x41.closed_]), .obj bx1w1_0 (.chan 64 (lst eS x42))] F := A.glue0 (n := 2) A1
                      refine at_step (v := .int .i64 x47) (h1 := h14) [(104, .bool true), (106, .int .i64 x47)] H (fun fr => by kernel_rfl) (fun fr => Steps.call (by kernel_rfl) hr) ?_
                      intro fr t H
                      refine at_seg [(17, []), (18, [])] [(108, .bool (x47 == (0 : Int)))] H (noU_all rfl) (fun fr => by kernel_rfl) ?_
                      intro fr H
                      have e1 := Option.some.inj hm
                      subst e1
                      exact at_nil ⟨H.less _ (fun fr => by kernel_rfl), A⟩
                    · replace H := H.know 104 hb (by kernel_rfl)
                      refine at_seg [(15, []), (16, []), (17, []), (18, [])] [(108, .bool false)] H (noU_all rfl) (fun fr => by kernel_rfl) ?_
                      intro fr H
                      have e1 := Option.some.inj hm
                      subst e1
                      exact at_nil ⟨H.less _ (fun fr => by kernel_rfl), A⟩
                  · clear A
                    intro t fr h13 hK
                    obtain ⟨H, A⟩ := hK
                    refine at_seg [(19, [])] [(109, .bool x46)] H (noU_all rfl) (fun fr => by kernel_rfl) ?_
                    intro fr H
                    obtain ⟨x48, ho, hm⟩ := bind_some hm
                    refine at_cut [(20, []), (21, [])] (fun fr' h' => Has fr' 112 [(111, .bool x48)] ∧ HH g h' [.obj bx1w1 (.cells none 2 [.chan (some bx1w1_0), .str x41.now_, .int .i64 x41.size_, .bool x41.closed_]), .obj bx1w1_0 (.chan 64 (lst eS x42))] F) ?_ ?_
                    · rcases iteB_some ho with ⟨hb, hm⟩ | ⟨hb, hm⟩
                      · replace H := H.know 109 hb (by kernel_rfl)
                        obtain ⟨x49, hx, hm⟩ := bind_some hm
                        refine at_step (v := .bool x49) (h1 := h13) [(109, .bool true), (110, .bool x49)] H (fun fr => by kernel_rfl) (fun fr => Steps.call (by kernel_rfl) (ok_boulterlaw08_awake hx)) ?_
                        intro fr t H
                        refine at_seg [(21, [])] [(111, .bool x49)] H (noU_all rfl) (fun fr => by kernel_rfl) ?_
                        intro fr H
                        have e1 := Option.some.inj hm
                        subst e1
                        exact at_nil ⟨H.less _ (fun fr => by kernel_rfl), A⟩
                      · replace H := H.know 109 hb (by kernel_rfl)
                        refine at_seg [(20, []), (21, [])] [(111, .bool false)] H (noU_all rfl) (fun fr => by kernel_rfl) ?_
                        intro fr H
                        have e1 := Option.some.inj hm
                        subst e1
                        exact at_nil ⟨H.less _ (fun fr => by kernel_rfl), A⟩
                    · clear A
                      intro t fr h15 hK
                      obtain ⟨H, A⟩ := hK
                      refine at_seg [(22, [])] [(6, .bool x48)] H (noU_all rfl) (fun fr => by kernel_rfl) ?_
                      intro fr H
                      refine at_nil ?_
                      show AW cfg 3 g (right (right (right (right (right (right (right (bodyC cfg.P 3)))))))) fr h15 _
                      refine aw_ret (by kernel_rfl) ?_
                      have e1 := Option.some.inj hm
                      subst e1
                      refine ⟨.inl rfl, .bool x48, resH H (fun fr => by kernel_rfl), ?_⟩
                      replace A : HH g h15 [] F := (HH.dropF A 0)
                      exact ⟨rfl, A⟩
              · exact hF.elim
          · skip
            have e1 := Option.some.inj hm
            subst e1
            refine ⟨.inl rfl, .bool x18, resH H (fun fr => by kernel_rfl), ?_⟩
            replace A : HH g h6 [] F := (HH.dropF A 0)
            exact ⟨rfl, A⟩
          · exact hF.elim
/-! ### (*boulter/feed.Feed).Take -/
noncomputable def M_feed_Feed_Take_sPCHI (p0 : S_feed_Feed) (p1 : Int) : Option ((List UInt8) × Bool × S_feed_Feed × (List (List UInt8))) :=
 iteB ((decide (p1 < (0 : Int))) || (decide (p1 > p0.size_))) (some (([] : List UInt8), false, p0, p0.wait_)) ((M_feed_Feed_Some_sPCHI p0 p1).bind fun (x1, x2, x3) => some (x1, true, (⟨x3, x2.now_, x2.size_, x2.closed_⟩ : S_feed_Feed), x3))
theorem ok_feed_Feed_Take_sPCHI {g : Gd} {h : AHeap} {F : List Ck} {p0 : S_feed_Feed} {p1 : Int} {bp0 : Nat} {bp0_0 : Nat} {q0 : List UInt8} {q1 : Bool} {u0 : S_feed_Feed} {u1 : List (List UInt8)} {av : List AVal} (hm : M_feed_Feed_Take_sPCHI p0 p1 = some (q0, q1, u0, u1)) (hc : canL (cfg.still 15) av = [.ptr (some (bp0, 0)), .int .i64 p1]) (A : HH g h [.obj bp0 (.cells none 2 [.chan (some bp0_0), .str p0.now_, .int .i64 p0.size_, .bool p0.closed_]), .obj bp0_0 (.chan 64 (lst eS p0.wait_))] F) : ∃ v h', Runs cfg g h 15 av v h' ∧ v = .tuple [.str q0, .bool q1] ∧ HH g h' [.obj bp0 (.cells none 2 [.chan (some bp0_0), .str u0.now_, .int .i64 u0.size_, .bool u0.closed_]), .obj bp0_0 (.chan 64 (lst eS u1))] F := by
  refine runsQ1 (n := 19) (rs := [.tmp 4, .tmp 5]) (by kernel_rfl) hc (by kernel_rfl) ?_
  clear hc
  unfold M_feed_Feed_Take_sPCHI at hm
  refine start (n := 19) [(0, .ptr (some (bp0, 0))), (1, .int .i64 p1)] (by kernel_rfl) (by kernel_rfl) ?_
  intro fr H
  refine aw_seq (by kernel_rfl) ?_
  refine aw_reg (id := 0) (n := 2) [(0, []), (1, [])] (by kernel_rfl) (by kernel_rfl) ?_
  refine at_seg [(0, []), (1, [])] [(0, .ptr (some (bp0, 0))), (1, .int .i64 p1)] H (noU_all rfl) (fun fr => by kernel_rfl) ?_
  intro fr H
  refine at_nil ?_
  show AW cfg 15 g (right (bodyC cfg.P 15)) fr h _
  refine aw_seq (by kernel_rfl) ?_
  refine aw_seq (by kernel_rfl) ?_
  refine aw_reg (id := 1) (n := 10) [(0, []), (1, []), (2, []), (3, []), (4, []), (5, []), (6, []), (7, []), (8, []), (9, [])] (by kernel_rfl) (by kernel_rfl) ?_
  refine at_seg [(0, []), (1, []), (2, [])] [(0, .ptr (some (bp0, 0))), (1, .int .i64 p1), (8, .bool (decide (p1 < (0 : Int))))] H (noU_all rfl) (fun fr => by kernel_rfl) ?_
  intro fr H
  refine at_cut [(3, []), (4, []), (5, []), (6, []), (7, []), (8, []), (9, [])] (fun fr' h' => h = h' ∧ Has fr' 19 [(0, .ptr (some (bp0, 0))), (1, .int .i64 p1), (15, .bool ((decide (p1 < (0 : Int))) || (decide (p1 > p0.size_))))]) ?_ ?_
  · cases hb : (decide (p1 < (0 : Int)) : Bool) with
    | true =>
      replace H := H.know 8 hb (by kernel_rfl)
      refine at_seg [(3, []), (4, []), (5, []), (6, []), (7, []), (8, []), (9, [])] [(0, .ptr (some (bp0, 0))), (1, .int .i64 p1), (15, .bool true)] H (noU_all rfl) (fun fr => by kernel_rfl) ?_
      intro fr H
      exact at_nil ⟨rfl, by first | exact H.less _ (fun fr => by rfl) | exact H.less _ (fun fr => by rw [hb]; rfl)⟩
    | false =>
      replace H := H.know 8 hb (by kernel_rfl)
      refine at_seg [(3, []), (4, []), (5, []), (6, [])] [(0, .ptr (some (bp0, 0))), (1, .int .i64 p1), (8, .bool false), (9, .int .i64 p1), (12, .ptr (some (bp0, 2)))] H (noU_all rfl) (fun fr => by kernel_rfl) ?_
      intro fr H
      refine at_step (v := .int .i64 p0.size_) (h1 := h) [(0, .ptr (some (bp0, 0))), (1, .int .i64 p1), (8, .bool false), (9, .int .i64 p1), (13, .int .i64 p0.size_)] H (fun fr => by kernel_rfl) (fun fr => .of (s_ld (by kernel_rfl) (A.ld1 0 rfl (o := 2) rfl))) ?_
      intro fr t H
      refine at_seg [(8, []), (9, [])] [(0, .ptr (some (bp0, 0))), (1, .int .i64 p1), (15, .bool (decide (p1 > p0.size_)))] H (noU_all rfl) (fun fr => by kernel_rfl) ?_
      intro fr H
      exact at_nil ⟨rfl, by first | exact H.less _ (fun fr => by rfl) | exact H.less _ (fun fr => by rw [hb]; rfl)⟩
  · intro t fr h' hK
    obtain ⟨e, H⟩ := hK
    subst e
    refine at_nil ?_
    show AW cfg 15 g (right (left (right (bodyC cfg.P 15)))) fr h _
    rcases iteB_some hm with ⟨hb, hm⟩ | ⟨hb, hm⟩
    · replace H := H.know 15 hb (by kernel_rfl)
      refine aw_true (x := .tmp 15) (by kernel_rfl) H (fun fr => by kernel_rfl) ?_
      refine aw_seq (by kernel_rfl) ?_
      refine aw_reg (id := 2) (n := 2) [(0, []), (1, [])] (by kernel_rfl) (by kernel_rfl) ?_
      refine at_seg [(0, []), (1, [])] [(4, .str ([] : List UInt8)), (5, .bool false)] H (noU_all rfl) (fun fr => by kernel_rfl) ?_
      intro fr H
      refine at_nil ?_
      show AW cfg 15 g (right (left (right (left (right (bodyC cfg.P 15)))))) fr h _
      refine aw_ret (by kernel_rfl) ?_
      have e0 := Option.some.inj hm
      obtain ⟨y0, z0⟩ := Prod.mk.inj e0
      obtain ⟨y1, z1⟩ := Prod.mk.inj z0
      obtain ⟨y2, z2⟩ := Prod.mk.inj z1
      subst y0
      subst y1
      subst y2
      subst z2
      refine ⟨.inl rfl, .tuple [.str ([] : List UInt8), .bool false], resH H (fun fr => by kernel_rfl), ?_⟩
      exact ⟨rfl, A⟩
    · replace H := H.know 15 hb (by kernel_rfl)
      refine aw_false (x := .tmp 15) (by kernel_rfl) H (fun fr => by kernel_rfl) ?_
      refine aw_skip (by kernel_rfl) ?_
      show AW cfg 15 g (right (right (bodyC cfg.P 15))) fr h _
      refine aw_seq (by kernel_rfl) ?_
      refine aw_reg (id := 3) (n := 5) [(0, []), (1, []), (2, []), (3, []), (4, [])] (by kernel_rfl) (by kernel_rfl) ?_
      refine at_seg [(0, []), (1, [])] [(16, .ptr (some (bp0, 0))), (17, .int .i64 p1)] H (noU_all rfl) (fun fr => by kernel_rfl) ?_
      intro fr H
      have A1 := A.cut 2
      obtain ⟨⟨x1, x2, x3⟩, hx, hm⟩ := bind_some hm
      obtain ⟨v1, h1, hr, rfl, A1⟩ := ok_feed_Feed_Some_sPCHI (av := [.ptr (some (bp0, 0)), .int .i64 p1]) hx (by kernel_rfl) A1
      replace A : HH g h1 [.obj bp0 (.cells none 2 [.chan (some bp0_0), .str x2.now_, .int .i64 x2.size_, .bool x2.closed_]), .obj bp0_0 (.chan 64 (lst eS x3))] F := A.glue0 (n := 2) A1
      refine at_step (v := .str x1) (h1 := h1) [(18, .str x1)] H (fun fr => by kernel_rfl) (fun fr => Steps.call (by kernel_rfl) hr) ?_
      intro fr t H
      refine at_seg [(3, []), (4, [])] [(4, .str x1), (5, .bool true)] H (noU_all rfl) (fun fr => by kernel_rfl) ?_
      intro fr H
      refine at_nil ?_
      show AW cfg 15 g (right (right (right (bodyC cfg.P 15)))) fr h1 _
      refine aw_ret (by kernel_rfl) ?_
      have e0 := Option.some.inj hm
      obtain ⟨y0, z0⟩ := Prod.mk.inj e0
      obtain ⟨y1, z1⟩ := Prod.mk.inj z0
      obtain ⟨y2, z2⟩ := Prod.mk.inj z1
      subst y0
      subst y1
      subst y2
      subst z2
      refine ⟨.inl rfl, .tuple [.str x1, .bool true], resH H (fun fr => by kernel_rfl), ?_⟩
      exact ⟨rfl, A⟩
end Go.Av.L
