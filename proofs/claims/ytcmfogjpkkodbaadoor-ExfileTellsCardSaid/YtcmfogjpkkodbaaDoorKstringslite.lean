/-
  Models of functions of package stringslite, and that the abstract run tells them. Written by lift2.py.
-/
import Derived.Test.YtcmfogjpkkodbaaDoorKCfg
namespace Go.Av.L
open Go.Av
set_option linter.unusedVariables false
set_option linter.unusedSimpArgs false
/-! ### internal/stringslite.IndexByte -/
noncomputable def M_stringslite_IndexByte (p0 : List UInt8) (p1 : Int) : Option (Int) :=
 (X_IndexByte p0 p1).bind fun x1 => some x1
theorem ok_stringslite_IndexByte {g : Gd} {h : AHeap} {F : List Ck} {p0 : List UInt8} {p1 : Int} {q0 : Int} {av : List AVal} (hm : M_stringslite_IndexByte p0 p1 = some q0) (hc : canL (cfg.still 61) av = [.str p0, .int .u8 p1]) (A : HH g h [] F) : ∃ v h', Runs cfg g h 61 av v h' ∧ v = .int .i64 q0 ∧ HH g h' [] F := by
  refine runsQ1 (n := 8) (rs := [.tmp 4]) (by kernel_rfl) hc (by kernel_rfl) ?_
  clear hc
  unfold M_stringslite_IndexByte at hm
  refine start (n := 8) [(0, .str p0), (1, .int .u8 p1)] (by kernel_rfl) (by kernel_rfl) ?_
  intro fr H
  refine aw_seq (by kernel_rfl) ?_
  refine aw_reg (id := 0) (n := 1) [(0, [])] (by kernel_rfl) (by kernel_rfl) ?_
  refine at_seg [(0, [])] [(0, .str p0), (1, .int .u8 p1)] H (noU_all rfl) (fun fr => by kernel_rfl) ?_
  intro fr H
  refine at_nil ?_
  show AW cfg 61 g (right (bodyC cfg.P 61)) fr h _
  refine aw_seq (by kernel_rfl) ?_
  refine aw_reg (id := 1) (n := 4) [(0, []), (1, []), (2, []), (3, [])] (by kernel_rfl) (by kernel_rfl) ?_
  refine at_seg [(0, []), (1, [])] [(5, .str p0), (6, .int .u8 p1)] H (noU_all rfl) (fun fr => by kernel_rfl) ?_
  intro fr H
  obtain ⟨x1, hx, hm⟩ := bind_some hm
  refine at_step (v := .int .i64 x1) (h1 := h) [(7, .int .i64 x1)] H (fun fr => by kernel_rfl) (fun fr => Steps.call (by kernel_rfl) (runs3 (f := 73) (by kernel_rfl) rfl (by kernel_rfl) hx)) ?_
  intro fr t H
  refine at_seg [(3, [])] [(4, .int .i64 x1)] H (noU_all rfl) (fun fr => by kernel_rfl) ?_
  intro fr H
  refine at_nil ?_
  show AW cfg 61 g (right (right (bodyC cfg.P 61))) fr h _
  refine aw_ret (by kernel_rfl) ?_
  have e1 := Option.some.inj hm
  subst e1
  refine ⟨.inl rfl, .int .i64 x1, resH H (fun fr => by kernel_rfl), ?_⟩
  exact ⟨rfl, A⟩
/-! ### internal/stringslite.HasSuffix -/
noncomputable def M_stringslite_HasSuffix (p0 : List UInt8) (p1 : List UInt8) : Option (Bool) :=
 (iteB (decide ((p0.length : Int) ≥ (p1.length : Int))) ((subS p0 (some (IntKind.i64.wrap ((p0.length : Int) - (p1.length : Int)))) none).bind fun x2 => some (x2 == p1)) (some false) : Option (Bool)).bind fun x1 => some x1
theorem ok_stringslite_HasSuffix {g : Gd} {h : AHeap} {F : List Ck} {p0 : List UInt8} {p1 : List UInt8} {q0 : Bool} {av : List AVal} (hm : M_stringslite_HasSuffix p0 p1 = some q0) (hc : canL (cfg.still 62) av = [.str p0, .str p1]) (A : HH g h [] F) : ∃ v h', Runs cfg g h 62 av v h' ∧ v = .bool q0 ∧ HH g h' [] F := by
  refine runsQ1 (n := 21) (rs := [.tmp 4]) (by kernel_rfl) hc (by kernel_rfl) ?_
  clear hc
  unfold M_stringslite_HasSuffix at hm
  refine start (n := 21) [(0, .str p0), (1, .str p1)] (by kernel_rfl) (by kernel_rfl) ?_
  intro fr H
  refine aw_seq (by kernel_rfl) ?_
  refine aw_reg (id := 0) (n := 1) [(0, [])] (by kernel_rfl) (by kernel_rfl) ?_
  refine at_seg [(0, [])] [(0, .str p0), (1, .str p1)] H (noU_all rfl) (fun fr => by kernel_rfl) ?_
  intro fr H
  refine at_nil ?_
  show AW cfg 62 g (right (bodyC cfg.P 62)) fr h _
  refine aw_seq (by kernel_rfl) ?_
  refine aw_reg (id := 1) (n := 17) [(0, []), (1, []), (2, []), (3, []), (4, []), (5, []), (6, []), (7, []), (8, []), (9, []), (10, []), (11, []), (12, []), (13, []), (14, []), (15, []), (16, [])] (by kernel_rfl) (by kernel_rfl) ?_
  refine at_seg [(0, []), (1, []), (2, []), (3, []), (4, []), (5, [])] [(0, .str p0), (1, .str p1), (10, .bool (decide ((p0.length : Int) ≥ (p1.length : Int))))] H (noU_all rfl) (fun fr => by kernel_rfl) ?_
  intro fr H
  obtain ⟨x1, ho, hm⟩ := bind_some hm
  refine at_cut [(6, []), (7, []), (8, []), (9, []), (10, []), (11, []), (12, []), (13, []), (14, []), (15, [])] (fun fr' h' => Has fr' 21 [(20, .bool x1)] ∧ HH g h' [] F) ?_ ?_
  · rcases iteB_some ho with ⟨hb, hm⟩ | ⟨hb, hm⟩
    · replace H := H.know 10 hb (by kernel_rfl)
      refine at_seg [(6, []), (7, []), (8, []), (9, []), (10, []), (11, [])] [(1, .str p1), (10, .bool true), (11, .str p0), (16, .int .i64 (IntKind.i64.wrap ((p0.length : Int) - (p1.length : Int))))] H (noU_all rfl) (fun fr => by kernel_rfl) ?_
      intro fr H
      obtain ⟨x2, hx, hm⟩ := bind_some hm
      refine at_step (v := .str x2) (h1 := h) [(1, .str p1), (10, .bool true), (17, .str x2)] H (fun fr => by kernel_rfl) (fun fr => .of (s_subS (k := .i64) (k' := .i64) (lo := (some (IntKind.i64.wrap ((p0.length : Int) - (p1.length : Int))))) (hi := none) (by kernel_rfl) hx)) ?_
      intro fr t H
      refine at_seg [(13, []), (14, []), (15, [])] [(20, .bool (x2 == p1))] H (noU_all rfl) (fun fr => by kernel_rfl) ?_
      intro fr H
      have e1 := Option.some.inj hm
      subst e1
      exact at_nil ⟨H.less _ (fun fr => by kernel_rfl), A⟩
    · replace H := H.know 10 hb (by kernel_rfl)
      refine at_seg [(6, []), (7, []), (8, []), (9, []), (10, []), (11, []), (12, []), (13, []), (14, []), (15, [])] [(20, .bool false)] H (noU_all rfl) (fun fr => by kernel_rfl) ?_
      intro fr H
      have e1 := Option.some.inj hm
      subst e1
      exact at_nil ⟨H.less _ (fun fr => by kernel_rfl), A⟩
  · clear A
    intro t fr h1 hK
    obtain ⟨H, A⟩ := hK
    refine at_seg [(16, [])] [(4, .bool x1)] H (noU_all rfl) (fun fr => by kernel_rfl) ?_
    intro fr H
    refine at_nil ?_
    show AW cfg 62 g (right (right (bodyC cfg.P 62))) fr h1 _
    refine aw_ret (by kernel_rfl) ?_
    have e1 := Option.some.inj hm
    subst e1
    refine ⟨.inl rfl, .bool x1, resH H (fun fr => by kernel_rfl), ?_⟩
    exact ⟨rfl, A⟩
/-! ### internal/stringslite.TrimSuffix -/
noncomputable def M_stringslite_TrimSuffix (p0 : List UInt8) (p1 : List UInt8) : Option ((List UInt8)) :=
 (M_stringslite_HasSuffix p0 p1).bind fun x1 => iteB x1 ((subS p0 none (some (IntKind.i64.wrap ((p0.length : Int) - (p1.length : Int))))).bind fun x2 => some x2) (some p0)
theorem ok_stringslite_TrimSuffix {g : Gd} {h : AHeap} {F : List Ck} {p0 : List UInt8} {p1 : List UInt8} {q0 : List UInt8} {av : List AVal} (hm : M_stringslite_TrimSuffix p0 p1 = some q0) (hc : canL (cfg.still 49) av = [.str p0, .str p1]) (A : HH g h [] F) : ∃ v h', Runs cfg g h 49 av v h' ∧ v = .str q0 ∧ HH g h' [] F := by
  refine runsQ1 (n := 16) (rs := [.tmp 4]) (by kernel_rfl) hc (by kernel_rfl) ?_
  clear hc
  unfold M_stringslite_TrimSuffix at hm
  refine start (n := 16) [(0, .str p0), (1, .str p1)] (by kernel_rfl) (by kernel_rfl) ?_
  intro fr H
  refine aw_seq (by kernel_rfl) ?_
  refine aw_reg (id := 0) (n := 1) [(0, [])] (by kernel_rfl) (by kernel_rfl) ?_
  refine at_seg [(0, [])] [(0, .str p0), (1, .str p1)] H (noU_all rfl) (fun fr => by kernel_rfl) ?_
  intro fr H
  refine at_nil ?_
  show AW cfg 49 g (right (bodyC cfg.P 49)) fr h _
  refine aw_seq (by kernel_rfl) ?_
  refine aw_seq (by kernel_rfl) ?_
  refine aw_reg (id := 1) (n := 3) [(0, []), (1, []), (2, [])] (by kernel_rfl) (by kernel_rfl) ?_
  refine at_seg [(0, []), (1, [])] [(0, .str p0), (1, .str p1), (5, .str p0), (6, .str p1)] H (noU_all rfl) (fun fr => by kernel_rfl) ?_
  intro fr H
  have A1 := A.cut 0
  obtain ⟨x1, hx, hm⟩ := bind_some hm
  obtain ⟨v1, h1, hr, rfl, A1⟩ := ok_stringslite_HasSuffix (av := [.str p0, .str p1]) hx (by kernel_rfl) A1
  replace A : HH g h1 [] F := A.glue0 (n := 0) A1
  refine at_step (v := .bool x1) (h1 := h1) [(0, .str p0), (1, .str p1), (7, .bool x1)] H (fun fr => by kernel_rfl) (fun fr => Steps.call (by kernel_rfl) hr) ?_
  intro fr t H
  refine at_nil ?_
  show AW cfg 49 g (right (left (right (bodyC cfg.P 49)))) fr h1 _
  rcases iteB_some hm with ⟨hb, hm⟩ | ⟨hb, hm⟩
  · replace H := H.know 7 hb (by kernel_rfl)
    refine aw_true (x := .tmp 7) (by kernel_rfl) H (fun fr => by kernel_rfl) ?_
    refine aw_seq (by kernel_rfl) ?_
    refine aw_reg (id := 2) (n := 8) [(0, []), (1, []), (2, []), (3, []), (4, []), (5, []), (6, []), (7, [])] (by kernel_rfl) (by kernel_rfl) ?_
    refine at_seg [(0, []), (1, []), (2, []), (3, []), (4, []), (5, [])] [(8, .str p0), (13, .int .i64 (IntKind.i64.wrap ((p0.length : Int) - (p1.length : Int))))] H (noU_all rfl) (fun fr => by kernel_rfl) ?_
    intro fr H
    obtain ⟨x2, hx, hm⟩ := bind_some hm
    refine at_step (v := .str x2) (h1 := h1) [(14, .str x2)] H (fun fr => by kernel_rfl) (fun fr => .of (s_subS (k := .i64) (k' := .i64) (lo := none) (hi := (some (IntKind.i64.wrap ((p0.length : Int) - (p1.length : Int))))) (by kernel_rfl) hx)) ?_
    intro fr t H
    refine at_seg [(7, [])] [(4, .str x2)] H (noU_all rfl) (fun fr => by kernel_rfl) ?_
    intro fr H
    refine at_nil ?_
    show AW cfg 49 g (right (left (right (left (right (bodyC cfg.P 49)))))) fr h1 _
    refine aw_ret (by kernel_rfl) ?_
    have e1 := Option.some.inj hm
    subst e1
    refine ⟨.inl rfl, .str x2, resH H (fun fr => by kernel_rfl), ?_⟩
    exact ⟨rfl, A⟩
  · replace H := H.know 7 hb (by kernel_rfl)
    refine aw_false (x := .tmp 7) (by kernel_rfl) H (fun fr => by kernel_rfl) ?_
    refine aw_skip (by kernel_rfl) ?_
    show AW cfg 49 g (right (right (bodyC cfg.P 49))) fr h1 _
    refine aw_seq (by kernel_rfl) ?_
    refine aw_reg (id := 3) (n := 2) [(0, []), (1, [])] (by kernel_rfl) (by kernel_rfl) ?_
    refine at_seg [(0, []), (1, [])] [(4, .str p0)] H (noU_all rfl) (fun fr => by kernel_rfl) ?_
    intro fr H
    refine at_nil ?_
    show AW cfg 49 g (right (right (right (bodyC cfg.P 49)))) fr h1 _
    refine aw_ret (by kernel_rfl) ?_
    have e1 := Option.some.inj hm
    subst e1
    refine ⟨.inl rfl, .str p0, resH H (fun fr => by kernel_rfl), ?_⟩
    exact ⟨rfl, A⟩
/-! ### internal/stringslite.HasPrefix -/
noncomputable def M_stringslite_HasPrefix (p0 : List UInt8) (p1 : List UInt8) : Option (Bool) :=
 (iteB (decide ((p0.length : Int) ≥ (p1.length : Int))) ((subS p0 none (some (p1.length : Int))).bind fun x2 => some (x2 == p1)) (some false) : Option (Bool)).bind fun x1 => some x1
theorem ok_stringslite_HasPrefix {g : Gd} {h : AHeap} {F : List Ck} {p0 : List UInt8} {p1 : List UInt8} {q0 : Bool} {av : List AVal} (hm : M_stringslite_HasPrefix p0 p1 = some q0) (hc : canL (cfg.still 50) av = [.str p0, .str p1]) (A : HH g h [] F) : ∃ v h', Runs cfg g h 50 av v h' ∧ v = .bool q0 ∧ HH g h' [] F := by
  refine runsQ1 (n := 18) (rs := [.tmp 4]) (by kernel_rfl) hc (by kernel_rfl) ?_
  clear hc
  unfold M_stringslite_HasPrefix at hm
  refine start (n := 18) [(0, .str p0), (1, .str p1)] (by kernel_rfl) (by kernel_rfl) ?_
  intro fr H
  refine aw_seq (by kernel_rfl) ?_
  refine aw_reg (id := 0) (n := 1) [(0, [])] (by kernel_rfl) (by kernel_rfl) ?_
  refine at_seg [(0, [])] [(0, .str p0), (1, .str p1)] H (noU_all rfl) (fun fr => by kernel_rfl) ?_
  intro fr H
  refine at_nil ?_
  show AW cfg 50 g (right (bodyC cfg.P 50)) fr h _
  refine aw_seq (by kernel_rfl) ?_
  refine aw_reg (id := 1) (n := 14) [(0, []), (1, []), (2, []), (3, []), (4, []), (5, []), (6, []), (7, []), (8, []), (9, []), (10, []), (11, []), (12, []), (13, [])] (by kernel_rfl) (by kernel_rfl) ?_
  refine at_seg [(0, []), (1, []), (2, []), (3, []), (4, []), (5, [])] [(0, .str p0), (1, .str p1), (10, .bool (decide ((p0.length : Int) ≥ (p1.length : Int))))] H (noU_all rfl) (fun fr => by kernel_rfl) ?_
  intro fr H
  obtain ⟨x1, ho, hm⟩ := bind_some hm
  refine at_cut [(6, []), (7, []), (8, []), (9, []), (10, []), (11, []), (12, [])] (fun fr' h' => Has fr' 18 [(17, .bool x1)] ∧ HH g h' [] F) ?_ ?_
  · rcases iteB_some ho with ⟨hb, hm⟩ | ⟨hb, hm⟩
    · replace H := H.know 10 hb (by kernel_rfl)
      refine at_seg [(6, []), (7, []), (8, [])] [(1, .str p1), (10, .bool true), (11, .str p0), (13, .int .i64 (p1.length : Int))] H (noU_all rfl) (fun fr => by kernel_rfl) ?_
      intro fr H
      obtain ⟨x2, hx, hm⟩ := bind_some hm
      refine at_step (v := .str x2) (h1 := h) [(1, .str p1), (10, .bool true), (14, .str x2)] H (fun fr => by kernel_rfl) (fun fr => .of (s_subS (k := .i64) (k' := .i64) (lo := none) (hi := (some (p1.length : Int))) (by kernel_rfl) hx)) ?_
      intro fr t H
      refine at_seg [(10, []), (11, []), (12, [])] [(17, .bool (x2 == p1))] H (noU_all rfl) (fun fr => by kernel_rfl) ?_
      intro fr H
      have e1 := Option.some.inj hm
      subst e1
      exact at_nil ⟨H.less _ (fun fr => by kernel_rfl), A⟩
    · replace H := H.know 10 hb (by kernel_rfl)
      refine at_seg [(6, []), (7, []), (8, []), (9, []), (10, []), (11, []), (12, [])] [(17, .bool false)] H (noU_all rfl) (fun fr => by kernel_rfl) ?_
      intro fr H
      have e1 := Option.some.inj hm
      subst e1
      exact at_nil ⟨H.less _ (fun fr => by kernel_rfl), A⟩
  · clear A
    intro t fr h1 hK
    obtain ⟨H, A⟩ := hK
    refine at_seg [(13, [])] [(4, .bool x1)] H (noU_all rfl) (fun fr => by kernel_rfl) ?_
    intro fr H
    refine at_nil ?_
    show AW cfg 50 g (right (right (bodyC cfg.P 50))) fr h1 _
    refine aw_ret (by kernel_rfl) ?_
    have e1 := Option.some.inj hm
    subst e1
    refine ⟨.inl rfl, .bool x1, resH H (fun fr => by kernel_rfl), ?_⟩
    exact ⟨rfl, A⟩
/-! ### internal/stringslite.Index -/
noncomputable def M_stringslite_Index_s0 (p0 : List UInt8) : Option (Int) :=
 iteB (([0] : List UInt8) == p0) (some (0 : Int)) ((M_stringslite_IndexByte p0 (0 : Int)).bind fun x1 => some x1)
theorem ok_stringslite_Index_s0 {g : Gd} {h : AHeap} {F : List Ck} {p0 : List UInt8} {q0 : Int} {av : List AVal} (hm : M_stringslite_Index_s0 p0 = some q0) (hc : canL (cfg.still 75) av = [.str p0, .str ([0] : List UInt8)]) (A : HH g h [] F) : ∃ v h', Runs cfg g h 75 av v h' ∧ v = .int .i64 q0 ∧ HH g h' [] F := by
  refine runsQ1 (n := 143) (rs := [.tmp 4]) (by kernel_rfl) hc (by kernel_rfl) ?_
  clear hc
  unfold M_stringslite_Index_s0 at hm
  refine start (n := 143) [(0, .str p0), (1, .str ([0] : List UInt8))] (by kernel_rfl) (by kernel_rfl) ?_
  intro fr H
  refine aw_seq (by kernel_rfl) ?_
  refine aw_reg (id := 0) (n := 1) [(0, [])] (by kernel_rfl) (by kernel_rfl) ?_
  refine at_seg [(0, [])] [(0, .str p0), (1, .str ([0] : List UInt8))] H (noU_all rfl) (fun fr => by kernel_rfl) ?_
  intro fr H
  refine at_nil ?_
  show AW cfg 75 g (right (bodyC cfg.P 75)) fr h _
  refine aw_seq (by kernel_rfl) ?_
  refine aw_reg (id := 1) (n := 3) [(0, []), (1, []), (2, [])] (by kernel_rfl) (by kernel_rfl) ?_
  refine at_seg [(0, []), (1, []), (2, [])] [(0, .str p0), (1, .str ([0] : List UInt8)), (5, .int .i64 (1 : Int))] H (noU_all rfl) (fun fr => by kernel_rfl) ?_
  intro fr H
  refine at_nil ?_
  show AW cfg 75 g (right (right (bodyC cfg.P 75))) fr h _
  refine aw_seq (by kernel_rfl) ?_
  refine aw_block (id := 0) (by kernel_rfl) ?_
  refine aw_seq (by kernel_rfl) ?_
  refine aw_reg (id := 2) (n := 8) [(0, []), (1, []), (2, []), (3, []), (4, []), (5, []), (6, []), (7, [])] (by kernel_rfl) (by kernel_rfl) ?_
  refine at_seg [(0, []), (1, []), (2, []), (3, []), (4, []), (5, []), (6, []), (7, [])] [(0, .str p0), (1, .str ([0] : List UInt8)), (5, .int .i64 (1 : Int)), (16, .bool (([0] : List UInt8) == p0))] H (noU_all rfl) (fun fr => by kernel_rfl) ?_
  intro fr H
  refine at_nil ?_
  show AW cfg 75 g (right (left (left (right (right (bodyC cfg.P 75)))))) fr h _
  rcases iteB_some hm with ⟨hb, hm⟩ | ⟨hb, hm⟩
  · replace H := H.know 16 hb (by kernel_rfl)
    refine aw_true (x := .tmp 16) (by kernel_rfl) H (fun fr => by kernel_rfl) ?_
    refine aw_seq (by kernel_rfl) ?_
    refine aw_reg (id := 3) (n := 1) [(0, [])] (by kernel_rfl) (by kernel_rfl) ?_
    refine at_seg [(0, [])] [(4, .int .i64 (0 : Int))] H (noU_all rfl) (fun fr => by kernel_rfl) ?_
    intro fr H
    refine at_nil ?_
    show AW cfg 75 g (right (left (right (left (left (right (right (bodyC cfg.P 75)))))))) fr h _
    refine aw_ret (by kernel_rfl) ?_
    have e1 := Option.some.inj hm
    subst e1
    refine ⟨.inl rfl, .int .i64 (0 : Int), resH H (fun fr => by kernel_rfl), ?_⟩
    exact ⟨rfl, A⟩
  · replace H := H.know 16 hb (by kernel_rfl)
    refine aw_false (x := .tmp 16) (by kernel_rfl) H (fun fr => by kernel_rfl) ?_
    refine aw_seq (by kernel_rfl) ?_
    refine aw_reg (id := 4) (n := 3) [(0, []), (1, []), (2, [])] (by kernel_rfl) (by kernel_rfl) ?_
    refine at_seg [(0, []), (1, []), (2, [])] [(0, .str p0), (1, .str ([0] : List UInt8)), (5, .int .i64 (1 : Int)), (24, .bool true)] H (noU_all rfl) (fun fr => by kernel_rfl) ?_
    intro fr H
    refine at_nil ?_
    show AW cfg 75 g (right (right (right (left (left (right (right (bodyC cfg.P 75)))))))) fr h _
    refine aw_true (x := .tmp 24) (by kernel_rfl) H (fun fr => by kernel_rfl) ?_
    refine aw_seq (by kernel_rfl) ?_
    refine aw_reg (id := 5) (n := 5) [(0, []), (1, []), (2, []), (3, []), (4, [])] (by kernel_rfl) (by kernel_rfl) ?_
    refine at_seg [(0, []), (1, []), (2, [])] [(27, .str p0), (29, .int .u8 (0 : Int))] H (noU_all rfl) (fun fr => by kernel_rfl) ?_
    intro fr H
    have A1 := A.cut 0
    obtain ⟨x1, hx, hm⟩ := bind_some hm
    obtain ⟨v1, h1, hr, rfl, A1⟩ := ok_stringslite_IndexByte (av := [.str p0, .int .u8 (0 : Int)]) hx (by kernel_rfl) A1
    replace A : HH g h1 [] F := A.glue0 (n := 0) A1
    refine at_step (v := .int .i64 x1) (h1 := h1) [(30, .int .i64 x1)] H (fun fr => by kernel_rfl) (fun fr => Steps.call (by kernel_rfl) hr) ?_
    intro fr t H
    refine at_seg [(4, [])] [(4, .int .i64 x1)] H (noU_all rfl) (fun fr => by kernel_rfl) ?_
    intro fr H
    refine at_nil ?_
    show AW cfg 75 g (right (left (right (right (right (left (left (right (right (bodyC cfg.P 75)))))))))) fr h1 _
    refine aw_ret (by kernel_rfl) ?_
    have e1 := Option.some.inj hm
    subst e1
    refine ⟨.inl rfl, .int .i64 x1, resH H (fun fr => by kernel_rfl), ?_⟩
    exact ⟨rfl, A⟩
end Go.Av.L
