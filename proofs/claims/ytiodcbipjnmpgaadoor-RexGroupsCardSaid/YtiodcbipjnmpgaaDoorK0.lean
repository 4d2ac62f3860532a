/-
 Models of functions, and that the abstract run tells them. Written by lift2.py.
-/
import Derived.Test.YtiodcbipjnmpgaaDoorKCfg
namespace Go.Av.L
open Go.Av Go.Lib
set_option maxRecDepth 10000
set_option linter.unusedVariables false
set_option linter.unusedSimpArgs false
/-! ### (*boulter/rex.walk).ok -/
noncomputable def M_rex_walk_ok_sPO (p0 : S_rex_walk) : Option (Bool) :=
 some (decide (p0.wrong_ < (0 : Int)))
theorem ok_rex_walk_ok_sPO {g : Gd} {h : AHeap} {F : List Ck} {p0 : S_rex_walk} {bp0 : Nat} {rp0_3 : Option Nat} {q0 : Bool} {av : List AVal} (hm : M_rex_walk_ok_sPO p0 = some q0) (hc : canL (cfg.still 13) av = [.ptr (some (bp0, 0))]) (A : HH g h [.obj bp0 (.cells none 2 [.str p0.s_, .int .i64 p0.at_, .bool p0.extended_, rowV rp0_3 p0.t_.Nodes.length, .int .i64 p0.t_.Root, .int .i64 p0.groups_, .int .i64 p0.depth_, .int .i64 p0.wrong_, .bool p0.full_]), .lst rp0_3 45 (lst e_S_tree_Node p0.t_.Nodes)] F) : ∃ v h', Runs cfg g h 13 av v h' ∧ v = .bool q0 ∧ HH g h' [.obj bp0 (.cells none 2 [.str p0.s_, .int .i64 p0.at_, .bool p0.extended_, rowV rp0_3 p0.t_.Nodes.length, .int .i64 p0.t_.Root, .int .i64 p0.groups_, .int .i64 p0.depth_, .int .i64 p0.wrong_, .bool p0.full_]), .lst rp0_3 45 (lst e_S_tree_Node p0.t_.Nodes)] F := by
 refine runsQ1 (n := 8) (rs := [.tmp 2]) (by kernel_rfl) hc (by kernel_rfl) ?_
 clear hc
 unfold M_rex_walk_ok_sPO at hm
 refine start (n := 8) [(0, .ptr (some (bp0, 0)))] (by kernel_rfl) (by kernel_rfl) ?_
 intro fr H
 refine aw_seq (by kernel_rfl) ?_
 refine aw_reg (id := 0) (n := 1) [(0, [])] (by kernel_rfl) (by kernel_rfl) ?_
 refine at_seg [(0, [])] [(0, .ptr (some (bp0, 0)))] H (noU_all rfl) (fun fr => by kernel_rfl) ?_
 intro fr H
 refine at_nil ?_
 show AW cfg 13 g (right (bodyC cfg.P 13)) fr h _
 refine aw_seq (by kernel_rfl) ?_
 refine aw_reg (id := 1) (n := 6) [(0, []), (1, []), (2, []), (3, []), (4, []), (5, [])] (by kernel_rfl) (by kernel_rfl) ?_
 refine at_seg [(0, []), (1, []), (2, [])] [(5, .ptr (some (bp0, 7)))] H (noU_all rfl) (fun fr => by kernel_rfl) ?_
 intro fr H
 refine at_step (v := .int .i64 p0.wrong_) (h1 := h) [(6, .int .i64 p0.wrong_)] H (fun fr => by kernel_rfl) (fun fr => .of (s_ld (by kernel_rfl) (A.ld1 0 rfl (o := 7) rfl))) ?_
 intro fr t H
 refine at_seg [(4, []), (5, [])] [(2, .bool (decide (p0.wrong_ < (0 : Int))))] H (noU_all rfl) (fun fr => by kernel_rfl) ?_
 intro fr H
 refine at_nil ?_
 show AW cfg 13 g (right (right (bodyC cfg.P 13))) fr h _
 refine aw_ret (by kernel_rfl) ?_
 have e1 := Option.some.inj hm
 subst e1
 refine ⟨.inl rfl, .bool (decide (p0.wrong_ < (0 : Int))), resH H (fun fr => by kernel_rfl), ?_⟩
 exact ⟨rfl, A⟩
/-! ### internal/stringslite.HasPrefix -/
noncomputable def M_stringslite_HasPrefix (p0 : List UInt8) (p1 : List UInt8) : Option (Bool) :=
 (iteB (decide ((p0.length : Int) ≥ (p1.length : Int))) ((subS p0 none (some (p1.length : Int))).bind fun x2 => some (x2 == p1)) (some false) : Option (Bool)).bind fun x1 => some x1
theorem ok_stringslite_HasPrefix {g : Gd} {h : AHeap} {F : List Ck} {p0 : List UInt8} {p1 : List UInt8} {q0 : Bool} {av : List AVal} (hm : M_stringslite_HasPrefix p0 p1 = some q0) (hc : canL (cfg.still 53) av = [.str p0, .str p1]) (A : HH g h [] F) : ∃ v h', Runs cfg g h 53 av v h' ∧ v = .bool q0 ∧ HH g h' [] F := by
 refine runsQ1 (n := 18) (rs := [.tmp 4]) (by kernel_rfl) hc (by kernel_rfl) ?_
 clear hc
 unfold M_stringslite_HasPrefix at hm
 refine start (n := 18) [(0, .str p0), (1, .str p1)] (by kernel_rfl) (by kernel_rfl) ?_
 intro fr H
 refine aw_seq (by kernel_rfl) ?_
 refine aw_reg (id := 0) (n := 1) [(0, [])] (by kernel_rfl) (by kernel_rfl) ?_
 refine at_seg [(0, [])] [(0, .str p0), (1, .str p1)] H (noU_all rfl) (fun fr => by kernel_rfl) ?_
 intro fr H
 refine at_nil ?_
 show AW cfg 53 g (right (bodyC cfg.P 53)) fr h _
 refine aw_seq (by kernel_rfl) ?_
 refine aw_reg (id := 1) (n := 14) [(0, []), (1, []), (2, []), (3, []), (4, []), (5, []), (6, []), (7, []), (8, []), (9, []), (10, []), (11, []), (12, []), (13, [])] (by kernel_rfl) (by kernel_rfl) ?_
 refine at_seg [(0, []), (1, []), (2, []), (3, []), (4, []), (5, [])] [(0, .str p0), (1, .str p1), (10, .bool (decide ((p0.length : Int) ≥ (p1.length : Int))))] H (noU_all rfl) (fun fr => by kernel_rfl) ?_
 intro fr H
 obtain ⟨x1, ho, hm⟩ := bind_some hm
 refine at_cut [(6, []), (7, []), (8, []), (9, []), (10, []), (11, []), (12, [])] (fun fr' h' => Has fr' 18 [(17, .bool x1)] ∧ HH g h' [] F) ?_ ?_
 ·rcases iteB_some ho with ⟨hb, hm⟩ | ⟨hb, hm⟩
  ·replace H := H.know 10 hb (by kernel_rfl)
   refine at_seg [(6, []), (7, []), (8, [])] [(1, .str p1), (10, .bool true), (11, .str p0), (13, .int .i64 (p1.length : Int))] H (noU_all rfl) (fun fr => by kernel_rfl) ?_
   intro fr H
   obtain ⟨x2, hx, hm⟩ := bind_some hm
   refine at_step (v := .str x2) (h1 := h) [(1, .str p1), (10, .bool true), (14, .str x2)] H (fun fr => by kernel_rfl) (fun fr => .of (s_subS (k := .i64) (k' := .i64) (lo := none) (hi := (some (p1.length : Int))) (by kernel_rfl) hx)) ?_
   intro fr t H
   refine at_seg [(10, []), (11, []), (12, [])] [(17, .bool (x2 == p1))] H (noU_all rfl) (fun fr => by kernel_rfl) ?_
   intro fr H
   have e1 := Option.some.inj hm
   subst e1
   exact at_nil ⟨H.less _ (fun fr => by kernel_rfl), A⟩
  ·replace H := H.know 10 hb (by kernel_rfl)
   refine at_seg [(6, []), (7, []), (8, []), (9, []), (10, []), (11, []), (12, [])] [(17, .bool false)] H (noU_all rfl) (fun fr => by kernel_rfl) ?_
   intro fr H
   have e1 := Option.some.inj hm
   subst e1
   exact at_nil ⟨H.less _ (fun fr => by kernel_rfl), A⟩
 ·clear A
  intro t fr h1 hK
  obtain ⟨H, A⟩ := hK
  refine at_seg [(13, [])] [(4, .bool x1)] H (noU_all rfl) (fun fr => by kernel_rfl) ?_
  intro fr H
  refine at_nil ?_
  show AW cfg 53 g (right (right (bodyC cfg.P 53))) fr h1 _
  refine aw_ret (by kernel_rfl) ?_
  have e1 := Option.some.inj hm
  subst e1
  refine ⟨.inl rfl, .bool x1, resH H (fun fr => by kernel_rfl), ?_⟩
  exact ⟨rfl, A⟩
/-! ### strings.HasPrefix -/
noncomputable def M_strings_HasPrefix (p0 : List UInt8) (p1 : List UInt8) : Option (Bool) :=
 (M_stringslite_HasPrefix p0 p1).bind fun x1 => some x1
theorem ok_strings_HasPrefix {g : Gd} {h : AHeap} {F : List Ck} {p0 : List UInt8} {p1 : List UInt8} {q0 : Bool} {av : List AVal} (hm : M_strings_HasPrefix p0 p1 = some q0) (hc : canL (cfg.still 43) av = [.str p0, .str p1]) (A : HH g h [] F) : ∃ v h', Runs cfg g h 43 av v h' ∧ v = .bool q0 ∧ HH g h' [] F := by
 refine runsQ1 (n := 8) (rs := [.tmp 4]) (by kernel_rfl) hc (by kernel_rfl) ?_
 clear hc
 unfold M_strings_HasPrefix at hm
 refine start (n := 8) [(0, .str p0), (1, .str p1)] (by kernel_rfl) (by kernel_rfl) ?_
 intro fr H
 refine aw_seq (by kernel_rfl) ?_
 refine aw_reg (id := 0) (n := 1) [(0, [])] (by kernel_rfl) (by kernel_rfl) ?_
 refine at_seg [(0, [])] [(0, .str p0), (1, .str p1)] H (noU_all rfl) (fun fr => by kernel_rfl) ?_
 intro fr H
 refine at_nil ?_
 show AW cfg 43 g (right (bodyC cfg.P 43)) fr h _
 refine aw_seq (by kernel_rfl) ?_
 refine aw_reg (id := 1) (n := 4) [(0, []), (1, []), (2, []), (3, [])] (by kernel_rfl) (by kernel_rfl) ?_
 refine at_seg [(0, []), (1, [])] [(5, .str p0), (6, .str p1)] H (noU_all rfl) (fun fr => by kernel_rfl) ?_
 intro fr H
 have A1 := A.cut 0
 obtain ⟨x1, hx, hm⟩ := bind_some hm
 obtain ⟨v1, h1, hr, rfl, A1⟩ := ok_stringslite_HasPrefix (av := [.str p0, .str p1]) hx (by kernel_rfl) A1
 replace A : HH g h1 [] F := A.glue0 (n := 0) A1
 refine at_step (v := .bool x1) (h1 := h1) [(7, .bool x1)] H (fun fr => by kernel_rfl) (fun fr => Steps.call (by kernel_rfl) hr) ?_
 intro fr t H
 refine at_seg [(3, [])] [(4, .bool x1)] H (noU_all rfl) (fun fr => by kernel_rfl) ?_
 intro fr H
 refine at_nil ?_
 show AW cfg 43 g (right (right (bodyC cfg.P 43))) fr h1 _
 refine aw_ret (by kernel_rfl) ?_
 have e1 := Option.some.inj hm
 subst e1
 refine ⟨.inl rfl, .bool x1, resH H (fun fr => by kernel_rfl), ?_⟩
 exact ⟨rfl, A⟩
/-! ### (*boulter/rex.walk).sign -/
noncomputable def M_rex_walk_sign_sPOS (p0 : S_rex_walk) (p1 : List UInt8) : Option (Bool) :=
 (iteB (!p0.extended_) (need (decide (([92] : List UInt8).length + p1.length ≤ 9223372036854775807)) <| some (([92] : List UInt8) ++ p1)) (some p1) : Option (((List UInt8)))).bind fun x1 => (subS p0.s_ (some p0.at_) none).bind fun x2 => (M_strings_HasPrefix x2 x1).bind fun x3 => some x3
theorem ok_rex_walk_sign_sPOS {g : Gd} {h : AHeap} {F : List Ck} {p0 : S_rex_walk} {p1 : List UInt8} {bp0 : Nat} {rp0_3 : Option Nat} {q0 : Bool} {av : List AVal} (hm : M_rex_walk_sign_sPOS p0 p1 = some q0) (hc : canL (cfg.still 33) av = [.ptr (some (bp0, 0)), .str p1]) (A : HH g h [.obj bp0 (.cells none 2 [.str p0.s_, .int .i64 p0.at_, .bool p0.extended_, rowV rp0_3 p0.t_.Nodes.length, .int .i64 p0.t_.Root, .int .i64 p0.groups_, .int .i64 p0.depth_, .int .i64 p0.wrong_, .bool p0.full_]), .lst rp0_3 45 (lst e_S_tree_Node p0.t_.Nodes)] F) : ∃ v h', Runs cfg g h 33 av v h' ∧ v = .bool q0 ∧ HH g h' [.obj bp0 (.cells none 2 [.str p0.s_, .int .i64 p0.at_, .bool p0.extended_, rowV rp0_3 p0.t_.Nodes.length, .int .i64 p0.t_.Root, .int .i64 p0.groups_, .int .i64 p0.depth_, .int .i64 p0.wrong_, .bool p0.full_]), .lst rp0_3 45 (lst e_S_tree_Node p0.t_.Nodes)] F := by
 refine runsQ1 (n := 23) (rs := [.tmp 4]) (by kernel_rfl) hc (by kernel_rfl) ?_
 clear hc
 unfold M_rex_walk_sign_sPOS at hm
 refine start (n := 23) [(0, .ptr (some (bp0, 0))), (1, .str p1)] (by kernel_rfl) (by kernel_rfl) ?_
 intro fr H
 refine aw_seq (by kernel_rfl) ?_
 refine aw_reg (id := 0) (n := 1) [(0, [])] (by kernel_rfl) (by kernel_rfl) ?_
 refine at_seg [(0, [])] [(0, .ptr (some (bp0, 0))), (1, .str p1)] H (noU_all rfl) (fun fr => by kernel_rfl) ?_
 intro fr H
 refine at_nil ?_
 show AW cfg 33 g (right (bodyC cfg.P 33)) fr h _
 refine aw_seq (by kernel_rfl) ?_
 obtain ⟨o1, ho, hm⟩ := bind_some hm
 refine aw_mono (Q' := fun e fr' h' => (∃ (x1 : List UInt8), e = .normal ∧ x1 = o1 ∧ Has fr' 23 [(0, .ptr (some (bp0, 0))), (1, .str x1)] ∧ HH g h' [.obj bp0 (.cells none 2 [.str p0.s_, .int .i64 p0.at_, .bool p0.extended_, rowV rp0_3 p0.t_.Nodes.length, .int .i64 p0.t_.Root, .int .i64 p0.groups_, .int .i64 p0.depth_, .int .i64 p0.wrong_, .bool p0.full_]), .lst rp0_3 45 (lst e_S_tree_Node p0.t_.Nodes)] F) ∨ False) ?_ ?_
 ·replace hm := ho
  clear ho
  refine aw_seq (by kernel_rfl) ?_
  refine aw_reg (id := 1) (n := 5) [(0, []), (1, []), (2, []), (3, []), (4, [])] (by kernel_rfl) (by kernel_rfl) ?_
  refine at_seg [(0, []), (1, []), (2, [])] [(0, .ptr (some (bp0, 0))), (1, .str p1), (7, .ptr (some (bp0, 2)))] H (noU_all rfl) (fun fr => by kernel_rfl) ?_
  intro fr H
  refine at_step (v := .bool p0.extended_) (h1 := h) [(0, .ptr (some (bp0, 0))), (1, .str p1), (8, .bool p0.extended_)] H (fun fr => by kernel_rfl) (fun fr => .of (s_ld (by kernel_rfl) (A.ld1 0 rfl (o := 2) rfl))) ?_
  intro fr t H
  refine at_seg [(4, [])] [(0, .ptr (some (bp0, 0))), (1, .str p1), (9, .bool (!p0.extended_))] H (noU_all rfl) (fun fr => by kernel_rfl) ?_
  intro fr H
  refine at_nil ?_
  show AW cfg 33 g (right (left (right (bodyC cfg.P 33)))) fr h _
  rcases iteB_some hm with ⟨hb, hm⟩ | ⟨hb, hm⟩
  ·replace H := H.know 9 hb (by kernel_rfl)
   refine aw_true (x := .tmp 9) (by kernel_rfl) H (fun fr => by kernel_rfl) ?_
   refine aw_reg (id := 2) (n := 3) [(0, []), (1, []), (2, [])] (by kernel_rfl) (by kernel_rfl) ?_
   refine at_seg [(0, [])] [(0, .ptr (some (bp0, 0))), (10, .str p1)] H (noU_all rfl) (fun fr => by kernel_rfl) ?_
   intro fr H
   obtain ⟨hb, hm⟩ := need_some hm
   refine at_step (v := .str (([92] : List UInt8) ++ p1)) (h1 := h) [(0, .ptr (some (bp0, 0))), (11, .str (([92] : List UInt8) ++ p1))] H (fun fr => by kernel_rfl) (fun fr => .of (s_cat (by kernel_rfl) hb)) ?_
   intro fr t H
   refine at_seg [(2, [])] [(0, .ptr (some (bp0, 0))), (1, .str (([92] : List UInt8) ++ p1))] H (noU_all rfl) (fun fr => by kernel_rfl) ?_
   intro fr H
   refine at_nil ?_
   exact Or.inl ⟨([92] : List UInt8) ++ p1, rfl, Option.some.inj hm, H.less _ (fun fr => by kernel_rfl), A⟩
  ·replace H := H.know 9 hb (by kernel_rfl)
   refine aw_false (x := .tmp 9) (by kernel_rfl) H (fun fr => by kernel_rfl) ?_
   refine aw_skip (by kernel_rfl) ?_
   exact Or.inl ⟨p1, rfl, Option.some.inj hm, H.less _ (fun fr => by kernel_rfl), A⟩
 ·clear ho
  clear A
  intro e fr h1 hQ
  rcases hQ with ⟨x1, rfl, rfl, H, A⟩ | hF
  ·skip
   show AW cfg 33 g (right (right (bodyC cfg.P 33))) fr h1 _
   refine aw_seq (by kernel_rfl) ?_
   refine aw_draw (id := 3) (n := 12) (by kernel_rfl) [(0, []), (1, []), (2, []), (3, []), (4, []), (5, []), (6, []), (7, []), (8, []), (9, []), (10, []), (11, [])] (by kernel_rfl) ?_
   refine at_seg [(0, []), (1, []), (2, [])] [(0, .ptr (some (bp0, 0))), (1, .str x1), (14, .ptr (some (bp0, 0)))] H (noU_all rfl) (fun fr => by kernel_rfl) ?_
   intro fr H
   refine at_step (v := .str p0.s_) (h1 := h1) [(0, .ptr (some (bp0, 0))), (1, .str x1), (15, .str p0.s_)] H (fun fr => by kernel_rfl) (fun fr => .of (s_ld (by kernel_rfl) (A.ld1 0 rfl (o := 0) rfl))) ?_
   intro fr t H
   refine at_seg [(4, []), (5, []), (6, [])] [(1, .str x1), (15, .str p0.s_), (18, .ptr (some (bp0, 1)))] H (noU_all rfl) (fun fr => by kernel_rfl) ?_
   intro fr H
   refine at_step (v := .int .i64 p0.at_) (h1 := h1) [(1, .str x1), (15, .str p0.s_), (19, .int .i64 p0.at_)] H (fun fr => by kernel_rfl) (fun fr => .of (s_ld (by kernel_rfl) (A.ld1 0 rfl (o := 1) rfl))) ?_
   intro fr t H
   obtain ⟨x2, hx, hm⟩ := bind_some hm
   refine at_step (v := .str x2) (h1 := h1) [(1, .str x1), (20, .str x2)] H (fun fr => by kernel_rfl) (fun fr => .of (s_subS (k := .i64) (k' := .i64) (lo := (some p0.at_)) (hi := none) (by kernel_rfl) hx)) ?_
   intro fr t H
   refine at_seg [(9, [])] [(20, .str x2), (21, .str x1)] H (noU_all rfl) (fun fr => by kernel_rfl) ?_
   intro fr H
   have A1 := A.cut 0
   obtain ⟨x3, hx, hm⟩ := bind_some hm
   obtain ⟨v1, h2, hr, rfl, A1⟩ := ok_strings_HasPrefix (av := [.str x2, .str x1]) hx (by kernel_rfl) A1
   replace A : HH g h2 [.obj bp0 (.cells none 2 [.str p0.s_, .int .i64 p0.at_, .bool p0.extended_, rowV rp0_3 p0.t_.Nodes.length, .int .i64 p0.t_.Root, .int .i64 p0.groups_, .int .i64 p0.depth_, .int .i64 p0.wrong_, .bool p0.full_]), .lst rp0_3 45 (lst e_S_tree_Node p0.t_.Nodes)] F := A.glue0 (n := 0) A1
   refine at_step (v := .bool x3) (h1 := h2) [(22, .bool x3)] H (fun fr => by kernel_rfl) (fun fr => Steps.call (by kernel_rfl) hr) ?_
   intro fr t H
   refine at_seg [(11, [])] [(4, .bool x3)] H (noU_all rfl) (fun fr => by kernel_rfl) ?_
   intro fr H
   refine at_nil ?_
   show AW cfg 33 g (right (right (right (bodyC cfg.P 33)))) fr h2 _
   refine aw_ret (by kernel_rfl) ?_
   have e1 := Option.some.inj hm
   subst e1
   refine ⟨.inl rfl, .bool x3, resH H (fun fr => by kernel_rfl), ?_⟩
   exact ⟨rfl, A⟩
  ·exact hF.elim
/-! ### (*boulter/rex.walk).closes -/
noncomputable def M_rex_walk_closes_sPO (p0 : S_rex_walk) : Option (Bool) :=
 (iteB (p0.at_ == (p0.s_.length : Int)) (some true) ((M_rex_walk_sign_sPOS p0 ([124] : List UInt8)).bind fun x2 => some x2) : Option (Bool)).bind fun x1 => (iteB x1 (some true) ((M_rex_walk_sign_sPOS p0 ([41] : List UInt8)).bind fun x4 => some x4) : Option (Bool)).bind fun x3 => some x3
theorem ok_rex_walk_closes_sPO {g : Gd} {h : AHeap} {F : List Ck} {p0 : S_rex_walk} {bp0 : Nat} {rp0_3 : Option Nat} {q0 : Bool} {av : List AVal} (hm : M_rex_walk_closes_sPO p0 = some q0) (hc : canL (cfg.still 28) av = [.ptr (some (bp0, 0))]) (A : HH g h [.obj bp0 (.cells none 2 [.str p0.s_, .int .i64 p0.at_, .bool p0.extended_, rowV rp0_3 p0.t_.Nodes.length, .int .i64 p0.t_.Root, .int .i64 p0.groups_, .int .i64 p0.depth_, .int .i64 p0.wrong_, .bool p0.full_]), .lst rp0_3 45 (lst e_S_tree_Node p0.t_.Nodes)] F) : ∃ v h', Runs cfg g h 28 av v h' ∧ v = .bool q0 ∧ HH g h' [.obj bp0 (.cells none 2 [.str p0.s_, .int .i64 p0.at_, .bool p0.extended_, rowV rp0_3 p0.t_.Nodes.length, .int .i64 p0.t_.Root, .int .i64 p0.groups_, .int .i64 p0.depth_, .int .i64 p0.wrong_, .bool p0.full_]), .lst rp0_3 45 (lst e_S_tree_Node p0.t_.Nodes)] F := by
 refine runsQ1 (n := 21) (rs := [.tmp 2]) (by kernel_rfl) hc (by kernel_rfl) ?_
 clear hc
 unfold M_rex_walk_closes_sPO at hm
 refine start (n := 21) [(0, .ptr (some (bp0, 0)))] (by kernel_rfl) (by kernel_rfl) ?_
 intro fr H
 refine aw_seq (by kernel_rfl) ?_
 refine aw_reg (id := 0) (n := 1) [(0, [])] (by kernel_rfl) (by kernel_rfl) ?_
 refine at_seg [(0, [])] [(0, .ptr (some (bp0, 0)))] H (noU_all rfl) (fun fr => by kernel_rfl) ?_
 intro fr H
 refine at_nil ?_
 show AW cfg 28 g (right (bodyC cfg.P 28)) fr h _
 refine aw_seq (by kernel_rfl) ?_
 refine aw_draw (id := 1) (n := 19) (by kernel_rfl) [(0, []), (1, []), (2, []), (3, []), (4, []), (5, []), (6, []), (7, []), (8, []), (9, []), (10, []), (11, []), (12, []), (13, []), (14, []), (15, []), (16, []), (17, []), (18, [])] (by kernel_rfl) ?_
 refine at_seg [(0, []), (1, []), (2, [])] [(0, .ptr (some (bp0, 0))), (5, .ptr (some (bp0, 1)))] H (noU_all rfl) (fun fr => by kernel_rfl) ?_
 intro fr H
 refine at_step (v := .int .i64 p0.at_) (h1 := h) [(0, .ptr (some (bp0, 0))), (6, .int .i64 p0.at_)] H (fun fr => by kernel_rfl) (fun fr => .of (s_ld (by kernel_rfl) (A.ld1 0 rfl (o := 1) rfl))) ?_
 intro fr t H
 refine at_seg [(4, []), (5, []), (6, [])] [(0, .ptr (some (bp0, 0))), (6, .int .i64 p0.at_), (9, .ptr (some (bp0, 0)))] H (noU_all rfl) (fun fr => by kernel_rfl) ?_
 intro fr H
 refine at_step (v := .str p0.s_) (h1 := h) [(0, .ptr (some (bp0, 0))), (6, .int .i64 p0.at_), (10, .str p0.s_)] H (fun fr => by kernel_rfl) (fun fr => .of (s_ld (by kernel_rfl) (A.ld1 0 rfl (o := 0) rfl))) ?_
 intro fr t H
 refine at_seg [(8, []), (9, []), (10, [])] [(0, .ptr (some (bp0, 0))), (13, .bool (p0.at_ == (p0.s_.length : Int)))] H (noU_all rfl) (fun fr => by kernel_rfl) ?_
 intro fr H
 obtain ⟨x1, ho, hm⟩ := bind_some hm
 refine at_cut [(11, []), (12, []), (13, [])] (fun fr' h' => Has fr' 21 [(0, .ptr (some (bp0, 0))), (16, .bool x1)] ∧ HH g h' [.obj bp0 (.cells none 2 [.str p0.s_, .int .i64 p0.at_, .bool p0.extended_, rowV rp0_3 p0.t_.Nodes.length, .int .i64 p0.t_.Root, .int .i64 p0.groups_, .int .i64 p0.depth_, .int .i64 p0.wrong_, .bool p0.full_]), .lst rp0_3 45 (lst e_S_tree_Node p0.t_.Nodes)] F) ?_ ?_
 ·rcases iteB_some ho with ⟨hb, hm⟩ | ⟨hb, hm⟩
  ·replace H := H.know 13 hb (by kernel_rfl)
   refine at_seg [(11, []), (12, []), (13, [])] [(0, .ptr (some (bp0, 0))), (16, .bool true)] H (noU_all rfl) (fun fr => by kernel_rfl) ?_
   intro fr H
   have e1 := Option.some.inj hm
   subst e1
   exact at_nil ⟨H.less _ (fun fr => by kernel_rfl), A⟩
  ·replace H := H.know 13 hb (by kernel_rfl)
   refine at_seg [(11, [])] [(0, .ptr (some (bp0, 0))), (13, .bool false), (14, .ptr (some (bp0, 0)))] H (noU_all rfl) (fun fr => by kernel_rfl) ?_
   intro fr H
   have A1 := A.cut 2
   obtain ⟨x2, hx, hm⟩ := bind_some hm
   obtain ⟨v1, h2, hr, rfl, A1⟩ := ok_rex_walk_sign_sPOS (av := [.ptr (some (bp0, 0)), .str ([124] : List UInt8)]) hx (by kernel_rfl) A1
   replace A : HH g h2 [.obj bp0 (.cells none 2 [.str p0.s_, .int .i64 p0.at_, .bool p0.extended_, rowV rp0_3 p0.t_.Nodes.length, .int .i64 p0.t_.Root, .int .i64 p0.groups_, .int .i64 p0.depth_, .int .i64 p0.wrong_, .bool p0.full_]), .lst rp0_3 45 (lst e_S_tree_Node p0.t_.Nodes)] F := A.glue0 (n := 2) A1
   refine at_step (v := .bool x2) (h1 := h2) [(0, .ptr (some (bp0, 0))), (13, .bool false), (15, .bool x2)] H (fun fr => by kernel_rfl) (fun fr => Steps.call (by kernel_rfl) hr) ?_
   intro fr t H
   refine at_seg [(13, [])] [(0, .ptr (some (bp0, 0))), (16, .bool x2)] H (noU_all rfl) (fun fr => by kernel_rfl) ?_
   intro fr H
   have e1 := Option.some.inj hm
   subst e1
   exact at_nil ⟨H.less _ (fun fr => by kernel_rfl), A⟩
 ·clear A
  intro t fr h1 hK
  obtain ⟨H, A⟩ := hK
  refine at_seg [(14, [])] [(0, .ptr (some (bp0, 0))), (17, .bool x1)] H (noU_all rfl) (fun fr => by kernel_rfl) ?_
  intro fr H
  obtain ⟨x3, ho, hm⟩ := bind_some hm
  refine at_cut [(15, []), (16, []), (17, [])] (fun fr' h' => Has fr' 21 [(20, .bool x3)] ∧ HH g h' [.obj bp0 (.cells none 2 [.str p0.s_, .int .i64 p0.at_, .bool p0.extended_, rowV rp0_3 p0.t_.Nodes.length, .int .i64 p0.t_.Root, .int .i64 p0.groups_, .int .i64 p0.depth_, .int .i64 p0.wrong_, .bool p0.full_]), .lst rp0_3 45 (lst e_S_tree_Node p0.t_.Nodes)] F) ?_ ?_
  ·rcases iteB_some ho with ⟨hb, hm⟩ | ⟨hb, hm⟩
   ·replace H := H.know 17 hb (by kernel_rfl)
    refine at_seg [(15, []), (16, []), (17, [])] [(20, .bool true)] H (noU_all rfl) (fun fr => by kernel_rfl) ?_
    intro fr H
    have e1 := Option.some.inj hm
    subst e1
    exact at_nil ⟨H.less _ (fun fr => by kernel_rfl), A⟩
   ·replace H := H.know 17 hb (by kernel_rfl)
    refine at_seg [(15, [])] [(17, .bool false), (18, .ptr (some (bp0, 0)))] H (noU_all rfl) (fun fr => by kernel_rfl) ?_
    intro fr H
    have A1 := A.cut 2
    obtain ⟨x4, hx, hm⟩ := bind_some hm
    obtain ⟨v1, h4, hr, rfl, A1⟩ := ok_rex_walk_sign_sPOS (av := [.ptr (some (bp0, 0)), .str ([41] : List UInt8)]) hx (by kernel_rfl) A1
    replace A : HH g h4 [.obj bp0 (.cells none 2 [.str p0.s_, .int .i64 p0.at_, .bool p0.extended_, rowV rp0_3 p0.t_.Nodes.length, .int .i64 p0.t_.Root, .int .i64 p0.groups_, .int .i64 p0.depth_, .int .i64 p0.wrong_, .bool p0.full_]), .lst rp0_3 45 (lst e_S_tree_Node p0.t_.Nodes)] F := A.glue0 (n := 2) A1
    refine at_step (v := .bool x4) (h1 := h4) [(17, .bool false), (19, .bool x4)] H (fun fr => by kernel_rfl) (fun fr => Steps.call (by kernel_rfl) hr) ?_
    intro fr t H
    refine at_seg [(17, [])] [(20, .bool x4)] H (noU_all rfl) (fun fr => by kernel_rfl) ?_
    intro fr H
    have e1 := Option.some.inj hm
    subst e1
    exact at_nil ⟨H.less _ (fun fr => by kernel_rfl), A⟩
  ·clear A
   intro t fr h3 hK
   obtain ⟨H, A⟩ := hK
   refine at_seg [(18, [])] [(2, .bool x3)] H (noU_all rfl) (fun fr => by kernel_rfl) ?_
   intro fr H
   refine at_nil ?_
   show AW cfg 28 g (right (right (bodyC cfg.P 28))) fr h3 _
   refine aw_ret (by kernel_rfl) ?_
   have e1 := Option.some.inj hm
   subst e1
   refine ⟨.inl rfl, .bool x3, resH H (fun fr => by kernel_rfl), ?_⟩
   exact ⟨rfl, A⟩
/-! ### (*boulter/class.Set).add -/
noncomputable def M_class_Set_add (p0 : A4_uint64) (p1 : Int) : Option (A4_uint64) :=
 (ixV ([p0.w0, p0.w1, p0.w2, p0.w3] : List Int) (bShr .u8 p1 (6 : Int))).bind fun x1 => need (decide (0 ≤ (bAnd .u8 p1 (63 : Int)))) <| (ixV ([p0.w0, p0.w1, p0.w2, p0.w3] : List Int) (bShr .u8 p1 (6 : Int))).bind fun x2 => some (⟨(bif (bShr .u8 p1 (6 : Int)) == 0 then bOr .u64 x1 (bShl .u64 (1 : Int) (bAnd .u8 p1 (63 : Int))) else p0.w0), (bif ((bShr .u8 p1 (6 : Int)) - 1) == 0 then bOr .u64 x1 (bShl .u64 (1 : Int) (bAnd .u8 p1 (63 : Int))) else p0.w1), (bif (((bShr .u8 p1 (6 : Int)) - 1) - 1) == 0 then bOr .u64 x1 (bShl .u64 (1 : Int) (bAnd .u8 p1 (63 : Int))) else p0.w2), (bif ((((bShr .u8 p1 (6 : Int)) - 1) - 1) - 1) == 0 then bOr .u64 x1 (bShl .u64 (1 : Int) (bAnd .u8 p1 (63 : Int))) else p0.w3)⟩ : A4_uint64)
theorem ok_class_Set_add {g : Gd} {h : AHeap} {F : List Ck} {p0 : A4_uint64} {p1 : Int} {bp0 : Nat} {u0 : A4_uint64} {av : List AVal} (hm : M_class_Set_add p0 p1 = some u0) (hc : canL (cfg.still 55) av = [.ptr (some (bp0, 0)), .int .u8 p1]) (A : HH g h [.obj bp0 (.cells none 2 [.int .u64 p0.w0, .int .u64 p0.w1, .int .u64 p0.w2, .int .u64 p0.w3])] F) : ∃ v h', Runs cfg g h 55 av v h' ∧ v = .tuple [] ∧ HH g h' [.obj bp0 (.cells none 2 [.int .u64 u0.w0, .int .u64 u0.w1, .int .u64 u0.w2, .int .u64 u0.w3])] F := by
 refine runsQ1 (n := 16) (rs := []) (by kernel_rfl) hc (by kernel_rfl) ?_
 clear hc
 unfold M_class_Set_add at hm
 refine start (n := 16) [(0, .ptr (some (bp0, 0))), (1, .int .u8 p1)] (by kernel_rfl) (by kernel_rfl) ?_
 intro fr H
 refine aw_draw (id := 0) (n := 13) (by kernel_rfl) [(0, []), (1, []), (2, []), (3, []), (4, []), (5, []), (6, []), (7, []), (8, []), (9, []), (10, []), (11, []), (12, [])] (by kernel_rfl) ?_
 refine at_seg [(0, []), (1, []), (2, []), (3, [])] [(1, .int .u8 p1), (4, .ptr (some (bp0, 0))), (6, .int .u8 (bShr .u8 p1 (6 : Int))), (7, .ptr (some (bp0, 0)))] H (noU_all rfl) (fun fr => by kernel_rfl) ?_
 intro fr H
 obtain ⟨x1, hq1, hm⟩ := bind_some hm
 refine at_step (v := .ptr (some (bp0, 0 + (bShr .u8 p1 (6 : Int)).toNat * 1))) (h1 := h) [(1, .int .u8 p1), (4, .ptr (some (bp0, 0))), (6, .int .u8 (bShr .u8 p1 (6 : Int))), (8, .ptr (some (bp0, 0 + (bShr .u8 p1 (6 : Int)).toNat * 1)))] H (fun fr => by kernel_rfl) (fun fr => .of (s_ixA (by kernel_rfl) (ixA_of hq1 (bp0, 0) 1 rfl))) ?_
 intro fr t H
 refine at_step (v := .int .u64 x1) (h1 := h) [(1, .int .u8 p1), (4, .ptr (some (bp0, 0))), (6, .int .u8 (bShr .u8 p1 (6 : Int))), (9, .int .u64 x1)] H (fun fr => by kernel_rfl) (fun fr => .of (s_ld (by kernel_rfl) (HH.ldW A 0 rfl 0 (fun w : Int => .int .u64 w) [p0.w0, p0.w1, p0.w2, p0.w3] rfl hq1))) ?_
 intro fr t H
 refine at_seg [(6, []), (7, [])] [(4, .ptr (some (bp0, 0))), (6, .int .u8 (bShr .u8 p1 (6 : Int))), (9, .int .u64 x1), (11, .int .u8 (bAnd .u8 p1 (63 : Int)))] H (noU_all rfl) (fun fr => by kernel_rfl) ?_
 intro fr H
 obtain ⟨hb, hm⟩ := need_some hm
 refine at_step (v := .int .u64 (bShl .u64 (1 : Int) (bAnd .u8 p1 (63 : Int)))) (h1 := h) [(4, .ptr (some (bp0, 0))), (6, .int .u8 (bShr .u8 p1 (6 : Int))), (9, .int .u64 x1), (12, .int .u64 (bShl .u64 (1 : Int) (bAnd .u8 p1 (63 : Int))))] H (fun fr => by kernel_rfl) (fun fr => .of (s_shl (by kernel_rfl) hb)) ?_
 intro fr t H
 refine at_seg [(9, []), (10, [])] [(6, .int .u8 (bShr .u8 p1 (6 : Int))), (13, .int .u64 (bOr .u64 x1 (bShl .u64 (1 : Int) (bAnd .u8 p1 (63 : Int))))), (14, .ptr (some (bp0, 0)))] H (noU_all rfl) (fun fr => by kernel_rfl) ?_
 intro fr H
 obtain ⟨x2, hq2, hm⟩ := bind_some hm
 refine at_step (v := .ptr (some (bp0, 0 + (bShr .u8 p1 (6 : Int)).toNat * 1))) (h1 := h) [(13, .int .u64 (bOr .u64 x1 (bShl .u64 (1 : Int) (bAnd .u8 p1 (63 : Int))))), (15, .ptr (some (bp0, 0 + (bShr .u8 p1 (6 : Int)).toNat * 1)))] H (fun fr => by kernel_rfl) (fun fr => .of (s_ixA (by kernel_rfl) (ixA_of hq2 (bp0, 0) 1 rfl))) ?_
 intro fr t H
 obtain ⟨h1, hx, A1⟩ := HH.stW A 0 rfl 0 (fun w : Int => .int .u64 w) [p0.w0, p0.w1, p0.w2, p0.w3] (bOr .u64 x1 (bShl .u64 (1 : Int) (bAnd .u8 p1 (63 : Int)))) (ds := [.int .u64 (bif (bShr .u8 p1 (6 : Int)) == 0 then bOr .u64 x1 (bShl .u64 (1 : Int) (bAnd .u8 p1 (63 : Int))) else p0.w0), .int .u64 (bif ((bShr .u8 p1 (6 : Int)) - 1) == 0 then bOr .u64 x1 (bShl .u64 (1 : Int) (bAnd .u8 p1 (63 : Int))) else p0.w1), .int .u64 (bif (((bShr .u8 p1 (6 : Int)) - 1) - 1) == 0 then bOr .u64 x1 (bShl .u64 (1 : Int) (bAnd .u8 p1 (63 : Int))) else p0.w2), .int .u64 (bif ((((bShr .u8 p1 (6 : Int)) - 1) - 1) - 1) == 0 then bOr .u64 x1 (bShl .u64 (1 : Int) (bAnd .u8 p1 (63 : Int))) else p0.w3)]) rfl hq2 rfl rfl
 replace A : HH g h1 [.obj bp0 (.cells none 2 [.int .u64 (bif (bShr .u8 p1 (6 : Int)) == 0 then bOr .u64 x1 (bShl .u64 (1 : Int) (bAnd .u8 p1 (63 : Int))) else p0.w0), .int .u64 (bif ((bShr .u8 p1 (6 : Int)) - 1) == 0 then bOr .u64 x1 (bShl .u64 (1 : Int) (bAnd .u8 p1 (63 : Int))) else p0.w1), .int .u64 (bif (((bShr .u8 p1 (6 : Int)) - 1) - 1) == 0 then bOr .u64 x1 (bShl .u64 (1 : Int) (bAnd .u8 p1 (63 : Int))) else p0.w2), .int .u64 (bif ((((bShr .u8 p1 (6 : Int)) - 1) - 1) - 1) == 0 then bOr .u64 x1 (bShl .u64 (1 : Int) (bAnd .u8 p1 (63 : Int))) else p0.w3)])] F := A1
 refine at_step (v := .tuple []) (h1 := h1) [] H (fun fr => by kernel_rfl) (fun fr => .of (s_st (by kernel_rfl) rfl hx)) ?_
 intro fr t H
 refine at_nil ?_
 have e1 := Option.some.inj hm
 subst e1
 refine ⟨.inr rfl, .tuple [], resH H (fun fr => by kernel_rfl), ?_⟩
 exact ⟨rfl, A⟩
/-! ### boulter/class.Range -/
noncomputable def M_class_Range_L0 (p1 : Int) (s : Int × Int × Int × Int × Int) : Option ((Int × Int × Int × Int × Int) ⊕ ((Int × Int × Int × Int))) :=
 match s with
 | (x1, x2, x3, x4, x5) => iteB (decide (x5 ≤ (IntKind.i64.wrap p1))) ((M_class_Set_add (⟨x1, x2, x3, x4⟩ : A4_uint64) (IntKind.u8.wrap x5)).bind fun x10 => some (.inl (x10.w0, x10.w1, x10.w2, x10.w3, IntKind.i64.wrap (x5 + (1 : Int))))) (some (.inr (x1, x2, x3, x4)))
noncomputable def M_class_Range (p0 : Int) (p1 : Int) : Option (A4_uint64) :=
 (loop (M_class_Range_L0 p1) ((0 : Int), (0 : Int), (0 : Int), (0 : Int), IntKind.i64.wrap p0)).bind fun (x6, x7, x8, x9) => some (⟨x6, x7, x8, x9⟩ : A4_uint64)
theorem ok_class_Range {g : Gd} {h : AHeap} {F : List Ck} {p0 : Int} {p1 : Int} {q0 : A4_uint64} {av : List AVal} (hm : M_class_Range p0 p1 = some q0) (hc : canL (cfg.still 45) av = [.int .u8 p0, .int .u8 p1]) (A : HH g h [] F) : ∃ v h', Runs cfg g h 45 av v h' ∧ v = .agg [.int .u64 q0.w0, .int .u64 q0.w1, .int .u64 q0.w2, .int .u64 q0.w3] ∧ HH g h' [] F := by
 refine runsQ1 (n := 19) (rs := [.cell 4 43]) (by kernel_rfl) hc (by kernel_rfl) ?_
 clear hc
 unfold M_class_Range at hm
 refine start (n := 19) [(0, .int .u8 p0), (1, .int .u8 p1)] (by kernel_rfl) (by kernel_rfl) ?_
 intro fr H
 refine aw_seq (by kernel_rfl) ?_
 refine aw_reg (id := 0) (n := 1) [(0, [])] (by kernel_rfl) (by kernel_rfl) ?_
 obtain ⟨h1, e1⟩ : ∃ x, x = h.push (.cells none 2 [.int .u64 (0 : Int), .int .u64 (0 : Int), .int .u64 (0 : Int), .int .u64 (0 : Int)]) := ⟨_, rfl⟩
 replace A := (A.push _).to e1
 refine at_step (v := .ptr (some (h.size, 0))) (h1 := h1) [(0, .int .u8 p0), (1, .int .u8 p1), (4, .ptr (some (h.size, 0)))] H (fun fr => by kernel_rfl) (fun fr => .of (s_n' (by kernel_rfl) (congrArg some e1.symm))) ?_
 intro fr t H
 refine at_nil ?_
 show AW cfg 45 g (right (bodyC cfg.P 45)) fr h1 _
 refine aw_seq (by kernel_rfl) ?_
 refine aw_reg (id := 1) (n := 1) [(0, [])] (by kernel_rfl) (by kernel_rfl) ?_
 obtain ⟨h2, e2⟩ : ∃ x, x = h1.push (.cells none 2 [.int .u64 (0 : Int), .int .u64 (0 : Int), .int .u64 (0 : Int), .int .u64 (0 : Int)]) := ⟨_, rfl⟩
 replace A := (A.push _).to e2
 refine at_step (v := .ptr (some (h1.size, 0))) (h1 := h2) [(0, .int .u8 p0), (1, .int .u8 p1), (4, .ptr (some (h.size, 0))), (5, .ptr (some (h1.size, 0)))] H (fun fr => by kernel_rfl) (fun fr => .of (s_n' (by kernel_rfl) (congrArg some e2.symm))) ?_
 intro fr t H
 refine at_nil ?_
 show AW cfg 45 g (right (right (bodyC cfg.P 45))) fr h2 _
 refine aw_seq (by kernel_rfl) ?_
 refine aw_seq (by kernel_rfl) ?_
 refine aw_reg (id := 2) (n := 3) [(0, []), (1, []), (2, [])] (by kernel_rfl) (by kernel_rfl) ?_
 refine at_seg [(0, []), (1, []), (2, [])] [(1, .int .u8 p1), (4, .ptr (some (h.size, 0))), (5, .ptr (some (h1.size, 0))), (6, .int .i64 (IntKind.i64.wrap p0))] H (noU_all rfl) (fun fr => by kernel_rfl) ?_
 intro fr H
 refine at_nil ?_
 show AW cfg 45 g (right (left (right (right (bodyC cfg.P 45))))) fr h2 _
 refine aw_block (id := 0) (by kernel_rfl) ?_
 obtain ⟨o1, ho, hm⟩ := bind_some hm
 refine aw_mono (Q' := fun e fr' h' => (∃ (x6 : Int) (x7 : Int) (x8 : Int) (x9 : Int), e = .exit 0 ∧ (x6, x7, x8, x9) = o1 ∧ Has fr' 19 [(4, .ptr (some (h.size, 0))), (5, .ptr (some (h1.size, 0)))] ∧ HH g h' [.obj h1.size (.cells none 2 [.int .u64 x6, .int .u64 x7, .int .u64 x8, .int .u64 x9]), .obj h.size (.cells none 2 [.int .u64 (0 : Int), .int .u64 (0 : Int), .int .u64 (0 : Int), .int .u64 (0 : Int)])] F) ∨ False) ?_ ?_
 ·refine aw_loop (by kernel_rfl) (fun (s : Int × Int × Int × Int × Int) fr' h' => ∃ (x1 : Int) (x2 : Int) (x3 : Int) (x4 : Int) (x5 : Int), (x1, x2, x3, x4, x5) = s ∧ Has fr' 19 [(1, .int .u8 p1), (4, .ptr (some (h.size, 0))), (5, .ptr (some (h1.size, 0))), (6, .int .i64 x5)] ∧ HH g h' [.obj h1.size (.cells none 2 [.int .u64 x1, .int .u64 x2, .int .u64 x3, .int .u64 x4]), .obj h.size (.cells none 2 [.int .u64 (0 : Int), .int .u64 (0 : Int), .int .u64 (0 : Int), .int .u64 (0 : Int)])] F) ho ⟨(0 : Int), (0 : Int), (0 : Int), (0 : Int), IntKind.i64.wrap p0, rfl, H.less _ (fun fr => by kernel_rfl), A⟩ ?_
  clear ho hm H A
  intro s q fr h3 hI hm
  obtain ⟨x1, x2, x3, x4, x5, rfl, H, A⟩ := hI
  unfold M_class_Range_L0 at hm
  refine aw_seq (by kernel_rfl) ?_
  refine aw_seq (by kernel_rfl) ?_
  refine aw_reg (id := 3) (n := 4) [(0, []), (1, []), (2, []), (3, [])] (by kernel_rfl) (by kernel_rfl) ?_
  refine at_seg [(0, []), (1, []), (2, []), (3, [])] [(1, .int .u8 p1), (4, .ptr (some (h.size, 0))), (5, .ptr (some (h1.size, 0))), (6, .int .i64 x5), (12, .bool (decide (x5 ≤ (IntKind.i64.wrap p1))))] H (noU_all rfl) (fun fr => by kernel_rfl) ?_
  intro fr H
  refine at_nil ?_
  show AW cfg 45 g (right (left (left (left (right (left (right (right (bodyC cfg.P 45))))))))) fr h3 _
  rcases iteB_some hm with ⟨hb, hm⟩ | ⟨hb, hm⟩
  ·replace H := H.know 12 hb (by kernel_rfl)
   refine aw_true (x := .tmp 12) (by kernel_rfl) H (fun fr => by kernel_rfl) ?_
   refine aw_skip (by kernel_rfl) ?_
   show AW cfg 45 g (right (left (left (right (left (right (right (bodyC cfg.P 45)))))))) fr h3 _
   refine aw_seq (by kernel_rfl) ?_
   refine aw_block (id := 1) (by kernel_rfl) ?_
   refine aw_reg (id := 5) (n := 3) [(0, []), (1, []), (2, [])] (by kernel_rfl) (by kernel_rfl) ?_
   refine at_seg [(0, []), (1, [])] [(1, .int .u8 p1), (4, .ptr (some (h.size, 0))), (5, .ptr (some (h1.size, 0))), (6, .int .i64 x5), (16, .int .u8 (IntKind.u8.wrap x5))] H (noU_all rfl) (fun fr => by kernel_rfl) ?_
   intro fr H
   have A1 := A.cut 1
   obtain ⟨x10, hx, hm⟩ := bind_some hm
   obtain ⟨v1, h4, hr, rfl, A1⟩ := ok_class_Set_add (av := [.ptr (some (h1.size, 0)), .int .u8 (IntKind.u8.wrap x5)]) hx (by kernel_rfl) A1
   replace A : HH g h4 [.obj h1.size (.cells none 2 [.int .u64 x10.w0, .int .u64 x10.w1, .int .u64 x10.w2, .int .u64 x10.w3]), .obj h.size (.cells none 2 [.int .u64 (0 : Int), .int .u64 (0 : Int), .int .u64 (0 : Int), .int .u64 (0 : Int)])] F := A.glue0 (n := 1) A1
   refine at_step (v := .tuple []) (h1 := h4) [(1, .int .u8 p1), (4, .ptr (some (h.size, 0))), (5, .ptr (some (h1.size, 0))), (6, .int .i64 x5)] H (fun fr => by kernel_rfl) (fun fr => Steps.call (by kernel_rfl) hr) ?_
   intro fr t H
   refine at_nil ?_
   show AW cfg 45 g (right (right (left (left (right (left (right (right (bodyC cfg.P 45))))))))) fr h4 _
   refine aw_reg (id := 4) (n := 3) [(0, []), (1, []), (2, [])] (by kernel_rfl) (by kernel_rfl) ?_
   refine at_seg [(0, []), (1, []), (2, [])] [(1, .int .u8 p1), (4, .ptr (some (h.size, 0))), (5, .ptr (some (h1.size, 0))), (6, .int .i64 (IntKind.i64.wrap (x5 + (1 : Int))))] H (noU_all rfl) (fun fr => by kernel_rfl) ?_
   intro fr H
   refine at_nil ?_
   exact Exists.intro (x10.w0, x10.w1, x10.w2, x10.w3, IntKind.i64.wrap (x5 + (1 : Int))) (And.intro (Option.some.inj hm).symm ⟨x10.w0, x10.w1, x10.w2, x10.w3, IntKind.i64.wrap (x5 + (1 : Int)), rfl, H.less _ (fun fr => by kernel_rfl), A⟩)
  ·replace H := H.know 12 hb (by kernel_rfl)
   refine aw_false (x := .tmp 12) (by kernel_rfl) H (fun fr => by kernel_rfl) ?_
   refine aw_exit (i := 0) (by kernel_rfl) ?_
   exact Exists.intro _ (And.intro (Option.some.inj hm).symm (fun e => Or.inl ⟨x1, x2, x3, x4, rfl, e, H.less _ (fun fr => by kernel_rfl), A⟩))
 ·clear ho
  clear A
  intro e fr h5 hQ
  rcases hQ with ⟨x6, x7, x8, x9, rfl, rfl, H, A⟩ | hF
  ·skip
   show AW cfg 45 g (right (right (right (bodyC cfg.P 45)))) fr h5 _
   refine aw_seq (by kernel_rfl) ?_
   refine aw_reg (id := 6) (n := 2) [(0, []), (1, [])] (by kernel_rfl) (by kernel_rfl) ?_
   refine at_step (v := .agg [.int .u64 x6, .int .u64 x7, .int .u64 x8, .int .u64 x9]) (h1 := h5) [(4, .ptr (some (h.size, 0))), (18, .agg [.int .u64 x6, .int .u64 x7, .int .u64 x8, .int .u64 x9])] H (fun fr => by kernel_rfl) (fun fr => .of (s_ldA (by kernel_rfl) (A.ldA 0 rfl (o := 0) (n := 4) ⟨Nat.le_of_ble_eq_true rfl, rfl⟩))) ?_
   intro fr t H
   obtain ⟨h6, hx, A1⟩ := A.st 1 rfl (o := 0) (new := [.int .u64 x6, .int .u64 x7, .int .u64 x8, .int .u64 x9]) (ds := [.int .u64 x6, .int .u64 x7, .int .u64 x8, .int .u64 x9]) (Nat.le_of_ble_eq_true rfl) rfl rfl
   replace A : HH g h6 [.obj h1.size (.cells none 2 [.int .u64 x6, .int .u64 x7, .int .u64 x8, .int .u64 x9]), .obj h.size (.cells none 2 [.int .u64 x6, .int .u64 x7, .int .u64 x8, .int .u64 x9])] F := A1
   refine at_step (v := .tuple []) (h1 := h6) [(4, .ptr (some (h.size, 0)))] H (fun fr => by kernel_rfl) (fun fr => .of (s_stG (by kernel_rfl) (stG_st hx rfl))) ?_
   intro fr t H
   refine at_nil ?_
   show AW cfg 45 g (right (right (right (right (bodyC cfg.P 45))))) fr h6 _
   refine aw_ret (by kernel_rfl) ?_
   have e1 := Option.some.inj hm
   subst e1
   refine ⟨.inl rfl, .agg [.int .u64 x6, .int .u64 x7, .int .u64 x8, .int .u64 x9], resL_one (.cell (resT H (fun fr => by kernel_rfl)) (load_ldA (by kernel_rfl) (by kernel_rfl) (A.ldA 1 rfl (o := 0) (n := 4) ⟨Nat.le_of_ble_eq_true rfl, rfl⟩)) .nil), ?_⟩
   replace A : HH g h6 [] F := (HH.dropF A 0)
   exact ⟨rfl, A⟩
  ·exact hF.elim
/-! ### boulter/tree.bare -/
noncomputable def M_tree_bare (p0 : S_tree_Node) : Option (S_tree_Node × Bool) :=
 (iteB (p0.Kind == (0 : Int)) (some true) (iteB (p0.Kind == (6 : Int)) (some true) (some (p0.Kind == (7 : Int)))) : Option ((Bool))).bind fun x1 => iteB x1 (some ((⟨p0.Kind, (0 : Int), (0 : Int), (0 : Int), (0 : Int), (0 : Int), (⟨(0 : Int), (0 : Int), (0 : Int), (0 : Int)⟩ : A4_uint64)⟩ : S_tree_Node), true)) (iteB (p0.Kind == (1 : Int)) (some ((⟨(1 : Int), (0 : Int), (0 : Int), (0 : Int), (0 : Int), (0 : Int), p0.Set⟩ : S_tree_Node), true)) ((iteB (p0.Kind == (2 : Int)) (some true) (some (p0.Kind == (3 : Int))) : Option ((Bool))).bind fun x2 => iteB x2 (some ((⟨p0.Kind, p0.A, p0.B, (0 : Int), (0 : Int), (0 : Int), (⟨(0 : Int), (0 : Int), (0 : Int), (0 : Int)⟩ : A4_uint64)⟩ : S_tree_Node), true)) (iteB (p0.Kind == (4 : Int)) (some ((⟨(4 : Int), p0.A, (0 : Int), p0.Min, p0.Max, (0 : Int), (⟨(0 : Int), (0 : Int), (0 : Int), (0 : Int)⟩ : A4_uint64)⟩ : S_tree_Node), true)) (iteB (p0.Kind == (5 : Int)) (some ((⟨(5 : Int), p0.A, (0 : Int), (0 : Int), (0 : Int), p0.Group, (⟨(0 : Int), (0 : Int), (0 : Int), (0 : Int)⟩ : A4_uint64)⟩ : S_tree_Node), true)) (some ((⟨(0 : Int), (0 : Int), (0 : Int), (0 : Int), (0 : Int), (0 : Int), (⟨(0 : Int), (0 : Int), (0 : Int), (0 : Int)⟩ : A4_uint64)⟩ : S_tree_Node), false))))))
theorem ok_tree_bare {g : Gd} {h : AHeap} {F : List Ck} {p0 : S_tree_Node} {q0 : S_tree_Node} {q1 : Bool} {av : List AVal} (hm : M_tree_bare p0 = some (q0, q1)) (hc : canL (cfg.still 24) av = [.agg (e_S_tree_Node p0)]) (A : HH g h [] F) : ∃ v h', Runs cfg g h 24 av v h' ∧ v = .tuple [.agg (e_S_tree_Node q0), .bool q1] ∧ HH g h' [] F := by
 refine runsQ1 (n := 45) (rs := [.cell 2 45, .tmp 3]) (by kernel_rfl) hc (by kernel_rfl) ?_
 clear hc
 unfold M_tree_bare at hm
 refine start (n := 45) [(0, .agg (e_S_tree_Node p0))] (by kernel_rfl) (by kernel_rfl) ?_
 intro fr H
 refine aw_seq (by kernel_rfl) ?_
 refine aw_reg (id := 0) (n := 3) [(0, []), (1, []), (2, [])] (by kernel_rfl) (by kernel_rfl) ?_
 obtain ⟨h1, e1⟩ : ∃ x, x = h.push (.cells none 2 (e_S_tree_Node p0)) := ⟨_, rfl⟩
 replace A := (A.push _).to e1
 refine at_step (v := .ptr (some (h.size, 0))) (h1 := h1) [(1, .ptr (some (h.size, 0)))] H (fun fr => by kernel_rfl) (fun fr => .of (s_n' (by kernel_rfl) (congrArg some e1.symm))) ?_
 intro fr t H
 obtain ⟨h2, e2⟩ : ∃ x, x = h1.push (.cells none 2 [.int .i64 (0 : Int), .int .i64 (0 : Int), .int .i64 (0 : Int), .int .i64 (0 : Int), .int .i64 (0 : Int), .int .i64 (0 : Int), .int .u64 (0 : Int), .int .u64 (0 : Int), .int .u64 (0 : Int), .int .u64 (0 : Int)]) := ⟨_, rfl⟩
 replace A := (A.push _).to e2
 refine at_step (v := .ptr (some (h1.size, 0))) (h1 := h2) [(1, .ptr (some (h.size, 0))), (2, .ptr (some (h1.size, 0)))] H (fun fr => by kernel_rfl) (fun fr => .of (s_n' (by kernel_rfl) (congrArg some e2.symm))) ?_
 intro fr t H
 refine at_seg [(2, [])] [(1, .ptr (some (h.size, 0))), (2, .ptr (some (h1.size, 0)))] H (noU_all rfl) (fun fr => by kernel_rfl) ?_
 intro fr H
 refine at_nil ?_
 show AW cfg 24 g (right (bodyC cfg.P 24)) fr h2 _
 refine aw_seq (by kernel_rfl) ?_
 refine aw_seq (by kernel_rfl) ?_
 refine aw_reg (id := 1) (n := 2) [(0, []), (1, [])] (by kernel_rfl) (by kernel_rfl) ?_
 refine at_seg [(0, [])] [(1, .ptr (some (h.size, 0))), (2, .ptr (some (h1.size, 0))), (4, .ptr (some (h.size, 0)))] H (noU_all rfl) (fun fr => by kernel_rfl) ?_
 intro fr H
 refine at_step (v := .int .i64 p0.Kind) (h1 := h2) [(1, .ptr (some (h.size, 0))), (2, .ptr (some (h1.size, 0))), (5, .int .i64 p0.Kind)] H (fun fr => by kernel_rfl) (fun fr => .of (s_ld (by kernel_rfl) (A.ld1 1 rfl (o := 0) rfl))) ?_
 intro fr t H
 refine at_nil ?_
 show AW cfg 24 g (right (left (right (bodyC cfg.P 24)))) fr h2 _
 refine aw_block (id := 0) (by kernel_rfl) ?_
 refine aw_seq (by kernel_rfl) ?_
 obtain ⟨o1, ho, hm⟩ := bind_some hm
 refine aw_mono (Q' := fun e fr' h' => (∃ (x1 : Bool), e = .normal ∧ x1 = o1 ∧ Has fr' 45 [(1, .ptr (some (h.size, 0))), (2, .ptr (some (h1.size, 0))), (5, .int .i64 p0.Kind), (6, .bool x1)] ∧ HH g h' [.obj h1.size (.cells none 2 [.int .i64 (0 : Int), .int .i64 (0 : Int), .int .i64 (0 : Int), .int .i64 (0 : Int), .int .i64 (0 : Int), .int .i64 (0 : Int), .int .u64 (0 : Int), .int .u64 (0 : Int), .int .u64 (0 : Int), .int .u64 (0 : Int)]), .obj h.size (.cells none 2 (e_S_tree_Node p0))] F) ∨ False) ?_ ?_
 ·replace hm := ho
  clear ho
  refine aw_seq (by kernel_rfl) ?_
  refine aw_reg (id := 2) (n := 2) [(0, []), (1, [])] (by kernel_rfl) (by kernel_rfl) ?_
  refine at_seg [(0, []), (1, [])] [(1, .ptr (some (h.size, 0))), (2, .ptr (some (h1.size, 0))), (5, .int .i64 p0.Kind), (6, .bool (p0.Kind == (0 : Int)))] H (noU_all rfl) (fun fr => by kernel_rfl) ?_
  intro fr H
  refine at_nil ?_
  show AW cfg 24 g (right (left (left (right (left (right (bodyC cfg.P 24))))))) fr h2 _
  rcases iteB_some hm with ⟨hb, hm⟩ | ⟨hb, hm⟩
  ·replace H := H.know 6 hb (by kernel_rfl)
   refine aw_true (x := .tmp 6) (by kernel_rfl) H (fun fr => by kernel_rfl) ?_
   refine aw_skip (by kernel_rfl) ?_
   exact Or.inl ⟨true, rfl, Option.some.inj hm, H.less _ (fun fr => by kernel_rfl), A⟩
  ·replace H := H.know 6 hb (by kernel_rfl)
   refine aw_false (x := .tmp 6) (by kernel_rfl) H (fun fr => by kernel_rfl) ?_
   refine aw_seq (by kernel_rfl) ?_
   refine aw_reg (id := 3) (n := 2) [(0, []), (1, [])] (by kernel_rfl) (by kernel_rfl) ?_
   refine at_seg [(0, []), (1, [])] [(1, .ptr (some (h.size, 0))), (2, .ptr (some (h1.size, 0))), (5, .int .i64 p0.Kind), (6, .bool (p0.Kind == (6 : Int)))] H (noU_all rfl) (fun fr => by kernel_rfl) ?_
   intro fr H
   refine at_nil ?_
   show AW cfg 24 g (right (right (right (left (left (right (left (right (bodyC cfg.P 24))))))))) fr h2 _
   rcases iteB_some hm with ⟨hb, hm⟩ | ⟨hb, hm⟩
   ·replace H := H.know 6 hb (by kernel_rfl)
    refine aw_true (x := .tmp 6) (by kernel_rfl) H (fun fr => by kernel_rfl) ?_
    refine aw_skip (by kernel_rfl) ?_
    exact Or.inl ⟨true, rfl, Option.some.inj hm, H.less _ (fun fr => by kernel_rfl), A⟩
   ·replace H := H.know 6 hb (by kernel_rfl)
    refine aw_false (x := .tmp 6) (by kernel_rfl) H (fun fr => by kernel_rfl) ?_
    refine aw_reg (id := 4) (n := 2) [(0, []), (1, [])] (by kernel_rfl) (by kernel_rfl) ?_
    refine at_seg [(0, []), (1, [])] [(1, .ptr (some (h.size, 0))), (2, .ptr (some (h1.size, 0))), (5, .int .i64 p0.Kind), (6, .bool (p0.Kind == (7 : Int)))] H (noU_all rfl) (fun fr => by kernel_rfl) ?_
    intro fr H
    refine at_nil ?_
    exact Or.inl ⟨p0.Kind == (7 : Int), rfl, Option.some.inj hm, H.less _ (fun fr => by kernel_rfl), A⟩
 ·clear ho
  clear A
  intro e fr h3 hQ
  rcases hQ with ⟨x1, rfl, rfl, H, A⟩ | hF
  ·skip
   show AW cfg 24 g (right (left (right (left (right (bodyC cfg.P 24)))))) fr h3 _
   rcases iteB_some hm with ⟨hb, hm⟩ | ⟨hb, hm⟩
   ·replace H := H.know 6 hb (by kernel_rfl)
    refine aw_true (x := .tmp 6) (by kernel_rfl) H (fun fr => by kernel_rfl) ?_
    refine aw_seq (by kernel_rfl) ?_
    refine aw_reg (id := 5) (n := 5) [(0, []), (1, []), (2, []), (3, []), (4, [])] (by kernel_rfl) (by kernel_rfl) ?_
    refine at_seg [(0, [])] [(2, .ptr (some (h1.size, 0))), (10, .ptr (some (h.size, 0)))] H (noU_all rfl) (fun fr => by kernel_rfl) ?_
    intro fr H
    refine at_step (v := .int .i64 p0.Kind) (h1 := h3) [(2, .ptr (some (h1.size, 0))), (11, .int .i64 p0.Kind)] H (fun fr => by kernel_rfl) (fun fr => .of (s_ld (by kernel_rfl) (A.ld1 1 rfl (o := 0) rfl))) ?_
    intro fr t H
    refine at_seg [(2, [])] [(2, .ptr (some (h1.size, 0))), (12, .agg [.int .i64 p0.Kind, .int .i64 (0 : Int), .int .i64 (0 : Int), .int .i64 (0 : Int), .int .i64 (0 : Int), .int .i64 (0 : Int), .int .u64 (0 : Int), .int .u64 (0 : Int), .int .u64 (0 : Int), .int .u64 (0 : Int)])] H (noU_all rfl) (fun fr => by kernel_rfl) ?_
    intro fr H
    obtain ⟨h4, hx, A1⟩ := A.st 0 rfl (o := 0) (new := [.int .i64 p0.Kind, .int .i64 (0 : Int), .int .i64 (0 : Int), .int .i64 (0 : Int), .int .i64 (0 : Int), .int .i64 (0 : Int), .int .u64 (0 : Int), .int .u64 (0 : Int), .int .u64 (0 : Int), .int .u64 (0 : Int)]) (ds := [.int .i64 p0.Kind, .int .i64 (0 : Int), .int .i64 (0 : Int), .int .i64 (0 : Int), .int .i64 (0 : Int), .int .i64 (0 : Int), .int .u64 (0 : Int), .int .u64 (0 : Int), .int .u64 (0 : Int), .int .u64 (0 : Int)]) (Nat.le_of_ble_eq_true rfl) rfl rfl
    replace A : HH g h4 [.obj h1.size (.cells none 2 [.int .i64 p0.Kind, .int .i64 (0 : Int), .int .i64 (0 : Int), .int .i64 (0 : Int), .int .i64 (0 : Int), .int .i64 (0 : Int), .int .u64 (0 : Int), .int .u64 (0 : Int), .int .u64 (0 : Int), .int .u64 (0 : Int)]), .obj h.size (.cells none 2 (e_S_tree_Node p0))] F := A1
    refine at_step (v := .tuple []) (h1 := h4) [(2, .ptr (some (h1.size, 0)))] H (fun fr => by kernel_rfl) (fun fr => .of (s_stG (by kernel_rfl) (stG_st hx rfl))) ?_
    intro fr t H
    refine at_seg [(4, [])] [(2, .ptr (some (h1.size, 0))), (3, .bool true)] H (noU_all rfl) (fun fr => by kernel_rfl) ?_
    intro fr H
    refine at_nil ?_
    show AW cfg 24 g (right (left (right (left (right (left (right (bodyC cfg.P 24)))))))) fr h4 _
    refine aw_ret (by kernel_rfl) ?_
    have e0 := Option.some.inj hm
    obtain ⟨y0, z0⟩ := Prod.mk.inj e0
    subst y0
    subst z0
    refine ⟨.inl rfl, .tuple [.agg [.int .i64 p0.Kind, .int .i64 (0 : Int), .int .i64 (0 : Int), .int .i64 (0 : Int), .int .i64 (0 : Int), .int .i64 (0 : Int), .int .u64 (0 : Int), .int .u64 (0 : Int), .int .u64 (0 : Int), .int .u64 (0 : Int)], .bool true], resL_many (.cell (resT H (fun fr => by kernel_rfl)) (load_ldA (by kernel_rfl) (by kernel_rfl) (A.ldA 0 rfl (o := 0) (n := 10) ⟨Nat.le_of_ble_eq_true rfl, rfl⟩)) (.tmp (resT H (fun fr => by kernel_rfl)) .nil)), ?_⟩
    replace A : HH g h4 [] F := (HH.dropF A 0)
    exact ⟨rfl, A⟩
   ·replace H := H.know 6 hb (by kernel_rfl)
    refine aw_false (x := .tmp 6) (by kernel_rfl) H (fun fr => by kernel_rfl) ?_
    refine aw_seq (by kernel_rfl) ?_
    refine aw_reg (id := 6) (n := 2) [(0, []), (1, [])] (by kernel_rfl) (by kernel_rfl) ?_
    refine at_seg [(0, []), (1, [])] [(1, .ptr (some (h.size, 0))), (2, .ptr (some (h1.size, 0))), (5, .int .i64 p0.Kind), (13, .bool (p0.Kind == (1 : Int)))] H (noU_all rfl) (fun fr => by kernel_rfl) ?_
    intro fr H
    refine at_nil ?_
    show AW cfg 24 g (right (right (right (left (right (left (right (bodyC cfg.P 24)))))))) fr h3 _
    rcases iteB_some hm with ⟨hb, hm⟩ | ⟨hb, hm⟩
    ·replace H := H.know 13 hb (by kernel_rfl)
     refine aw_true (x := .tmp 13) (by kernel_rfl) H (fun fr => by kernel_rfl) ?_
     refine aw_seq (by kernel_rfl) ?_
     refine aw_reg (id := 7) (n := 5) [(0, []), (1, []), (2, []), (3, []), (4, [])] (by kernel_rfl) (by kernel_rfl) ?_
     refine at_seg [(0, [])] [(2, .ptr (some (h1.size, 0))), (15, .ptr (some (h.size, 6)))] H (noU_all rfl) (fun fr => by kernel_rfl) ?_
     intro fr H
     refine at_step (v := .agg [.int .u64 p0.Set.w0, .int .u64 p0.Set.w1, .int .u64 p0.Set.w2, .int .u64 p0.Set.w3]) (h1 := h3) [(2, .ptr (some (h1.size, 0))), (16, .agg [.int .u64 p0.Set.w0, .int .u64 p0.Set.w1, .int .u64 p0.Set.w2, .int .u64 p0.Set.w3])] H (fun fr => by kernel_rfl) (fun fr => .of (s_ldA (by kernel_rfl) (A.ldA 1 rfl (o := 6) (n := 4) ⟨Nat.le_of_ble_eq_true rfl, rfl⟩))) ?_
     intro fr t H
     refine at_seg [(2, [])] [(2, .ptr (some (h1.size, 0))), (17, .agg [.int .i64 (1 : Int), .int .i64 (0 : Int), .int .i64 (0 : Int), .int .i64 (0 : Int), .int .i64 (0 : Int), .int .i64 (0 : Int), .int .u64 p0.Set.w0, .int .u64 p0.Set.w1, .int .u64 p0.Set.w2, .int .u64 p0.Set.w3])] H (noU_all rfl) (fun fr => by kernel_rfl) ?_
     intro fr H
     obtain ⟨h5, hx, A1⟩ := A.st 0 rfl (o := 0) (new := [.int .i64 (1 : Int), .int .i64 (0 : Int), .int .i64 (0 : Int), .int .i64 (0 : Int), .int .i64 (0 : Int), .int .i64 (0 : Int), .int .u64 p0.Set.w0, .int .u64 p0.Set.w1, .int .u64 p0.Set.w2, .int .u64 p0.Set.w3]) (ds := [.int .i64 (1 : Int), .int .i64 (0 : Int), .int .i64 (0 : Int), .int .i64 (0 : Int), .int .i64 (0 : Int), .int .i64 (0 : Int), .int .u64 p0.Set.w0, .int .u64 p0.Set.w1, .int .u64 p0.Set.w2, .int .u64 p0.Set.w3]) (Nat.le_of_ble_eq_true rfl) rfl rfl
     replace A : HH g h5 [.obj h1.size (.cells none 2 [.int .i64 (1 : Int), .int .i64 (0 : Int), .int .i64 (0 : Int), .int .i64 (0 : Int), .int .i64 (0 : Int), .int .i64 (0 : Int), .int .u64 p0.Set.w0, .int .u64 p0.Set.w1, .int .u64 p0.Set.w2, .int .u64 p0.Set.w3]), .obj h.size (.cells none 2 (e_S_tree_Node p0))] F := A1
     refine at_step (v := .tuple []) (h1 := h5) [(2, .ptr (some (h1.size, 0)))] H (fun fr => by kernel_rfl) (fun fr => .of (s_stG (by kernel_rfl) (stG_st hx rfl))) ?_
     intro fr t H
     refine at_seg [(4, [])] [(2, .ptr (some (h1.size, 0))), (3, .bool true)] H (noU_all rfl) (fun fr => by kernel_rfl) ?_
     intro fr H
     refine at_nil ?_
     show AW cfg 24 g (right (left (right (right (right (left (right (left (right (bodyC cfg.P 24)))))))))) fr h5 _
     refine aw_ret (by kernel_rfl) ?_
     have e0 := Option.some.inj hm
     obtain ⟨y0, z0⟩ := Prod.mk.inj e0
     subst y0
     subst z0
     refine ⟨.inl rfl, .tuple [.agg [.int .i64 (1 : Int), .int .i64 (0 : Int), .int .i64 (0 : Int), .int .i64 (0 : Int), .int .i64 (0 : Int), .int .i64 (0 : Int), .int .u64 p0.Set.w0, .int .u64 p0.Set.w1, .int .u64 p0.Set.w2, .int .u64 p0.Set.w3], .bool true], resL_many (.cell (resT H (fun fr => by kernel_rfl)) (load_ldA (by kernel_rfl) (by kernel_rfl) (A.ldA 0 rfl (o := 0) (n := 10) ⟨Nat.le_of_ble_eq_true rfl, rfl⟩)) (.tmp (resT H (fun fr => by kernel_rfl)) .nil)), ?_⟩
     replace A : HH g h5 [] F := (HH.dropF A 0)
     exact ⟨rfl, A⟩
    ·replace H := H.know 13 hb (by kernel_rfl)
     refine aw_false (x := .tmp 13) (by kernel_rfl) H (fun fr => by kernel_rfl) ?_
     refine aw_seq (by kernel_rfl) ?_
     obtain ⟨o2, ho, hm⟩ := bind_some hm
     refine aw_mono (Q' := fun e fr' h' => (∃ (x2 : Bool), e = .normal ∧ x2 = o2 ∧ Has fr' 45 [(1, .ptr (some (h.size, 0))), (2, .ptr (some (h1.size, 0))), (5, .int .i64 p0.Kind), (18, .bool x2)] ∧ HH g h' [.obj h1.size (.cells none 2 [.int .i64 (0 : Int), .int .i64 (0 : Int), .int .i64 (0 : Int), .int .i64 (0 : Int), .int .i64 (0 : Int), .int .i64 (0 : Int), .int .u64 (0 : Int), .int .u64 (0 : Int), .int .u64 (0 : Int), .int .u64 (0 : Int)]), .obj h.size (.cells none 2 (e_S_tree_Node p0))] F) ∨ False) ?_ ?_
     ·replace hm := ho
      clear ho
      refine aw_seq (by kernel_rfl) ?_
      refine aw_reg (id := 8) (n := 2) [(0, []), (1, [])] (by kernel_rfl) (by kernel_rfl) ?_
      refine at_seg [(0, []), (1, [])] [(1, .ptr (some (h.size, 0))), (2, .ptr (some (h1.size, 0))), (5, .int .i64 p0.Kind), (18, .bool (p0.Kind == (2 : Int)))] H (noU_all rfl) (fun fr => by kernel_rfl) ?_
      intro fr H
      refine at_nil ?_
      show AW cfg 24 g (right (left (right (right (right (right (left (right (left (right (bodyC cfg.P 24))))))))))) fr h3 _
      rcases iteB_some hm with ⟨hb, hm⟩ | ⟨hb, hm⟩
      ·replace H := H.know 18 hb (by kernel_rfl)
       refine aw_true (x := .tmp 18) (by kernel_rfl) H (fun fr => by kernel_rfl) ?_
       refine aw_skip (by kernel_rfl) ?_
       exact Or.inl ⟨true, rfl, Option.some.inj hm, H.less _ (fun fr => by kernel_rfl), A⟩
      ·replace H := H.know 18 hb (by kernel_rfl)
       refine aw_false (x := .tmp 18) (by kernel_rfl) H (fun fr => by kernel_rfl) ?_
       refine aw_reg (id := 9) (n := 2) [(0, []), (1, [])] (by kernel_rfl) (by kernel_rfl) ?_
       refine at_seg [(0, []), (1, [])] [(1, .ptr (some (h.size, 0))), (2, .ptr (some (h1.size, 0))), (5, .int .i64 p0.Kind), (18, .bool (p0.Kind == (3 : Int)))] H (noU_all rfl) (fun fr => by kernel_rfl) ?_
       intro fr H
       refine at_nil ?_
       exact Or.inl ⟨p0.Kind == (3 : Int), rfl, Option.some.inj hm, H.less _ (fun fr => by kernel_rfl), A⟩
     ·clear ho
      clear A
      intro e fr h6 hQ
      rcases hQ with ⟨x2, rfl, rfl, H, A⟩ | hF
      ·skip
       show AW cfg 24 g (right (right (right (right (right (left (right (left (right (bodyC cfg.P 24)))))))))) fr h6 _
       rcases iteB_some hm with ⟨hb, hm⟩ | ⟨hb, hm⟩
       ·replace H := H.know 18 hb (by kernel_rfl)
        refine aw_true (x := .tmp 18) (by kernel_rfl) H (fun fr => by kernel_rfl) ?_
        refine aw_seq (by kernel_rfl) ?_
        refine aw_reg (id := 10) (n := 9) [(0, []), (1, []), (2, []), (3, []), (4, []), (5, []), (6, []), (7, []), (8, [])] (by kernel_rfl) (by kernel_rfl) ?_
        refine at_seg [(0, [])] [(1, .ptr (some (h.size, 0))), (2, .ptr (some (h1.size, 0))), (21, .ptr (some (h.size, 0)))] H (noU_all rfl) (fun fr => by kernel_rfl) ?_
        intro fr H
        refine at_step (v := .int .i64 p0.Kind) (h1 := h6) [(1, .ptr (some (h.size, 0))), (2, .ptr (some (h1.size, 0))), (22, .int .i64 p0.Kind)] H (fun fr => by kernel_rfl) (fun fr => .of (s_ld (by kernel_rfl) (A.ld1 1 rfl (o := 0) rfl))) ?_
        intro fr t H
        refine at_seg [(2, [])] [(1, .ptr (some (h.size, 0))), (2, .ptr (some (h1.size, 0))), (22, .int .i64 p0.Kind), (23, .ptr (some (h.size, 1)))] H (noU_all rfl) (fun fr => by kernel_rfl) ?_
        intro fr H
        refine at_step (v := .int .i64 p0.A) (h1 := h6) [(1, .ptr (some (h.size, 0))), (2, .ptr (some (h1.size, 0))), (22, .int .i64 p0.Kind), (24, .int .i64 p0.A)] H (fun fr => by kernel_rfl) (fun fr => .of (s_ld (by kernel_rfl) (A.ld1 1 rfl (o := 1) rfl))) ?_
        intro fr t H
        refine at_seg [(4, [])] [(2, .ptr (some (h1.size, 0))), (22, .int .i64 p0.Kind), (24, .int .i64 p0.A), (25, .ptr (some (h.size, 2)))] H (noU_all rfl) (fun fr => by kernel_rfl) ?_
        intro fr H
        refine at_step (v := .int .i64 p0.B) (h1 := h6) [(2, .ptr (some (h1.size, 0))), (22, .int .i64 p0.Kind), (24, .int .i64 p0.A), (26, .int .i64 p0.B)] H (fun fr => by kernel_rfl) (fun fr => .of (s_ld (by kernel_rfl) (A.ld1 1 rfl (o := 2) rfl))) ?_
        intro fr t H
        refine at_seg [(6, [])] [(2, .ptr (some (h1.size, 0))), (27, .agg [.int .i64 p0.Kind, .int .i64 p0.A, .int .i64 p0.B, .int .i64 (0 : Int), .int .i64 (0 : Int), .int .i64 (0 : Int), .int .u64 (0 : Int), .int .u64 (0 : Int), .int .u64 (0 : Int), .int .u64 (0 : Int)])] H (noU_all rfl) (fun fr => by kernel_rfl) ?_
        intro fr H
        obtain ⟨h7, hx, A1⟩ := A.st 0 rfl (o := 0) (new := [.int .i64 p0.Kind, .int .i64 p0.A, .int .i64 p0.B, .int .i64 (0 : Int), .int .i64 (0 : Int), .int .i64 (0 : Int), .int .u64 (0 : Int), .int .u64 (0 : Int), .int .u64 (0 : Int), .int .u64 (0 : Int)]) (ds := [.int .i64 p0.Kind, .int .i64 p0.A, .int .i64 p0.B, .int .i64 (0 : Int), .int .i64 (0 : Int), .int .i64 (0 : Int), .int .u64 (0 : Int), .int .u64 (0 : Int), .int .u64 (0 : Int), .int .u64 (0 : Int)]) (Nat.le_of_ble_eq_true rfl) rfl rfl
        replace A : HH g h7 [.obj h1.size (.cells none 2 [.int .i64 p0.Kind, .int .i64 p0.A, .int .i64 p0.B, .int .i64 (0 : Int), .int .i64 (0 : Int), .int .i64 (0 : Int), .int .u64 (0 : Int), .int .u64 (0 : Int), .int .u64 (0 : Int), .int .u64 (0 : Int)]), .obj h.size (.cells none 2 (e_S_tree_Node p0))] F := A1
        refine at_step (v := .tuple []) (h1 := h7) [(2, .ptr (some (h1.size, 0)))] H (fun fr => by kernel_rfl) (fun fr => .of (s_stG (by kernel_rfl) (stG_st hx rfl))) ?_
        intro fr t H
        refine at_seg [(8, [])] [(2, .ptr (some (h1.size, 0))), (3, .bool true)] H (noU_all rfl) (fun fr => by kernel_rfl) ?_
        intro fr H
        refine at_nil ?_
        show AW cfg 24 g (right (left (right (right (right (right (right (left (right (left (right (bodyC cfg.P 24)))))))))))) fr h7 _
        refine aw_ret (by kernel_rfl) ?_
        have e0 := Option.some.inj hm
        obtain ⟨y0, z0⟩ := Prod.mk.inj e0
        subst y0
        subst z0
        refine ⟨.inl rfl, .tuple [.agg [.int .i64 p0.Kind, .int .i64 p0.A, .int .i64 p0.B, .int .i64 (0 : Int), .int .i64 (0 : Int), .int .i64 (0 : Int), .int .u64 (0 : Int), .int .u64 (0 : Int), .int .u64 (0 : Int), .int .u64 (0 : Int)], .bool true], resL_many (.cell (resT H (fun fr => by kernel_rfl)) (load_ldA (by kernel_rfl) (by kernel_rfl) (A.ldA 0 rfl (o := 0) (n := 10) ⟨Nat.le_of_ble_eq_true rfl, rfl⟩)) (.tmp (resT H (fun fr => by kernel_rfl)) .nil)), ?_⟩
        replace A : HH g h7 [] F := (HH.dropF A 0)
        exact ⟨rfl, A⟩
       ·replace H := H.know 18 hb (by kernel_rfl)
        refine aw_false (x := .tmp 18) (by kernel_rfl) H (fun fr => by kernel_rfl) ?_
        refine aw_seq (by kernel_rfl) ?_
        refine aw_reg (id := 11) (n := 2) [(0, []), (1, [])] (by kernel_rfl) (by kernel_rfl) ?_
        refine at_seg [(0, []), (1, [])] [(1, .ptr (some (h.size, 0))), (2, .ptr (some (h1.size, 0))), (5, .int .i64 p0.Kind), (28, .bool (p0.Kind == (4 : Int)))] H (noU_all rfl) (fun fr => by kernel_rfl) ?_
        intro fr H
        refine at_nil ?_
        show AW cfg 24 g (right (right (right (right (right (right (right (left (right (left (right (bodyC cfg.P 24)))))))))))) fr h6 _
        rcases iteB_some hm with ⟨hb, hm⟩ | ⟨hb, hm⟩
        ·replace H := H.know 28 hb (by kernel_rfl)
         refine aw_true (x := .tmp 28) (by kernel_rfl) H (fun fr => by kernel_rfl) ?_
         refine aw_seq (by kernel_rfl) ?_
         refine aw_reg (id := 12) (n := 9) [(0, []), (1, []), (2, []), (3, []), (4, []), (5, []), (6, []), (7, []), (8, [])] (by kernel_rfl) (by kernel_rfl) ?_
         refine at_seg [(0, [])] [(1, .ptr (some (h.size, 0))), (2, .ptr (some (h1.size, 0))), (30, .ptr (some (h.size, 1)))] H (noU_all rfl) (fun fr => by kernel_rfl) ?_
         intro fr H
         refine at_step (v := .int .i64 p0.A) (h1 := h6) [(1, .ptr (some (h.size, 0))), (2, .ptr (some (h1.size, 0))), (31, .int .i64 p0.A)] H (fun fr => by kernel_rfl) (fun fr => .of (s_ld (by kernel_rfl) (A.ld1 1 rfl (o := 1) rfl))) ?_
         intro fr t H
         refine at_seg [(2, [])] [(1, .ptr (some (h.size, 0))), (2, .ptr (some (h1.size, 0))), (31, .int .i64 p0.A), (32, .ptr (some (h.size, 3)))] H (noU_all rfl) (fun fr => by kernel_rfl) ?_
         intro fr H
         refine at_step (v := .int .i64 p0.Min) (h1 := h6) [(1, .ptr (some (h.size, 0))), (2, .ptr (some (h1.size, 0))), (31, .int .i64 p0.A), (33, .int .i64 p0.Min)] H (fun fr => by kernel_rfl) (fun fr => .of (s_ld (by kernel_rfl) (A.ld1 1 rfl (o := 3) rfl))) ?_
         intro fr t H
         refine at_seg [(4, [])] [(2, .ptr (some (h1.size, 0))), (31, .int .i64 p0.A), (33, .int .i64 p0.Min), (34, .ptr (some (h.size, 4)))] H (noU_all rfl) (fun fr => by kernel_rfl) ?_
         intro fr H
         refine at_step (v := .int .i64 p0.Max) (h1 := h6) [(2, .ptr (some (h1.size, 0))), (31, .int .i64 p0.A), (33, .int .i64 p0.Min), (35, .int .i64 p0.Max)] H (fun fr => by kernel_rfl) (fun fr => .of (s_ld (by kernel_rfl) (A.ld1 1 rfl (o := 4) rfl))) ?_
         intro fr t H
         refine at_seg [(6, [])] [(2, .ptr (some (h1.size, 0))), (36, .agg [.int .i64 (4 : Int), .int .i64 p0.A, .int .i64 (0 : Int), .int .i64 p0.Min, .int .i64 p0.Max, .int .i64 (0 : Int), .int .u64 (0 : Int), .int .u64 (0 : Int), .int .u64 (0 : Int), .int .u64 (0 : Int)])] H (noU_all rfl) (fun fr => by kernel_rfl) ?_
         intro fr H
         obtain ⟨h8, hx, A1⟩ := A.st 0 rfl (o := 0) (new := [.int .i64 (4 : Int), .int .i64 p0.A, .int .i64 (0 : Int), .int .i64 p0.Min, .int .i64 p0.Max, .int .i64 (0 : Int), .int .u64 (0 : Int), .int .u64 (0 : Int), .int .u64 (0 : Int), .int .u64 (0 : Int)]) (ds := [.int .i64 (4 : Int), .int .i64 p0.A, .int .i64 (0 : Int), .int .i64 p0.Min, .int .i64 p0.Max, .int .i64 (0 : Int), .int .u64 (0 : Int), .int .u64 (0 : Int), .int .u64 (0 : Int), .int .u64 (0 : Int)]) (Nat.le_of_ble_eq_true rfl) rfl rfl
         replace A : HH g h8 [.obj h1.size (.cells none 2 [.int .i64 (4 : Int), .int .i64 p0.A, .int .i64 (0 : Int), .int .i64 p0.Min, .int .i64 p0.Max, .int .i64 (0 : Int), .int .u64 (0 : Int), .int .u64 (0 : Int), .int .u64 (0 : Int), .int .u64 (0 : Int)]), .obj h.size (.cells none 2 (e_S_tree_Node p0))] F := A1
         refine at_step (v := .tuple []) (h1 := h8) [(2, .ptr (some (h1.size, 0)))] H (fun fr => by kernel_rfl) (fun fr => .of (s_stG (by kernel_rfl) (stG_st hx rfl))) ?_
         intro fr t H
         refine at_seg [(8, [])] [(2, .ptr (some (h1.size, 0))), (3, .bool true)] H (noU_all rfl) (fun fr => by kernel_rfl) ?_
         intro fr H
         refine at_nil ?_
         show AW cfg 24 g (right (left (right (right (right (right (right (right (right (left (right (left (right (bodyC cfg.P 24)))))))))))))) fr h8 _
         refine aw_ret (by kernel_rfl) ?_
         have e0 := Option.some.inj hm
         obtain ⟨y0, z0⟩ := Prod.mk.inj e0
         subst y0
         subst z0
         refine ⟨.inl rfl, .tuple [.agg [.int .i64 (4 : Int), .int .i64 p0.A, .int .i64 (0 : Int), .int .i64 p0.Min, .int .i64 p0.Max, .int .i64 (0 : Int), .int .u64 (0 : Int), .int .u64 (0 : Int), .int .u64 (0 : Int), .int .u64 (0 : Int)], .bool true], resL_many (.cell (resT H (fun fr => by kernel_rfl)) (load_ldA (by kernel_rfl) (by kernel_rfl) (A.ldA 0 rfl (o := 0) (n := 10) ⟨Nat.le_of_ble_eq_true rfl, rfl⟩)) (.tmp (resT H (fun fr => by kernel_rfl)) .nil)), ?_⟩
         replace A : HH g h8 [] F := (HH.dropF A 0)
         exact ⟨rfl, A⟩
        ·replace H := H.know 28 hb (by kernel_rfl)
         refine aw_false (x := .tmp 28) (by kernel_rfl) H (fun fr => by kernel_rfl) ?_
         refine aw_seq (by kernel_rfl) ?_
         refine aw_reg (id := 13) (n := 2) [(0, []), (1, [])] (by kernel_rfl) (by kernel_rfl) ?_
         refine at_seg [(0, []), (1, [])] [(1, .ptr (some (h.size, 0))), (2, .ptr (some (h1.size, 0))), (37, .bool (p0.Kind == (5 : Int)))] H (noU_all rfl) (fun fr => by kernel_rfl) ?_
         intro fr H
         refine at_nil ?_
         show AW cfg 24 g (right (right (right (right (right (right (right (right (right (left (right (left (right (bodyC cfg.P 24)))))))))))))) fr h6 _
         rcases iteB_some hm with ⟨hb, hm⟩ | ⟨hb, hm⟩
         ·replace H := H.know 37 hb (by kernel_rfl)
          refine aw_true (x := .tmp 37) (by kernel_rfl) H (fun fr => by kernel_rfl) ?_
          refine aw_seq (by kernel_rfl) ?_
          refine aw_reg (id := 14) (n := 7) [(0, []), (1, []), (2, []), (3, []), (4, []), (5, []), (6, [])] (by kernel_rfl) (by kernel_rfl) ?_
          refine at_seg [(0, [])] [(1, .ptr (some (h.size, 0))), (2, .ptr (some (h1.size, 0))), (39, .ptr (some (h.size, 1)))] H (noU_all rfl) (fun fr => by kernel_rfl) ?_
          intro fr H
          refine at_step (v := .int .i64 p0.A) (h1 := h6) [(1, .ptr (some (h.size, 0))), (2, .ptr (some (h1.size, 0))), (40, .int .i64 p0.A)] H (fun fr => by kernel_rfl) (fun fr => .of (s_ld (by kernel_rfl) (A.ld1 1 rfl (o := 1) rfl))) ?_
          intro fr t H
          refine at_seg [(2, [])] [(2, .ptr (some (h1.size, 0))), (40, .int .i64 p0.A), (41, .ptr (some (h.size, 5)))] H (noU_all rfl) (fun fr => by kernel_rfl) ?_
          intro fr H
          refine at_step (v := .int .i64 p0.Group) (h1 := h6) [(2, .ptr (some (h1.size, 0))), (40, .int .i64 p0.A), (42, .int .i64 p0.Group)] H (fun fr => by kernel_rfl) (fun fr => .of (s_ld (by kernel_rfl) (A.ld1 1 rfl (o := 5) rfl))) ?_
          intro fr t H
          refine at_seg [(4, [])] [(2, .ptr (some (h1.size, 0))), (43, .agg [.int .i64 (5 : Int), .int .i64 p0.A, .int .i64 (0 : Int), .int .i64 (0 : Int), .int .i64 (0 : Int), .int .i64 p0.Group, .int .u64 (0 : Int), .int .u64 (0 : Int), .int .u64 (0 : Int), .int .u64 (0 : Int)])] H (noU_all rfl) (fun fr => by kernel_rfl) ?_
          intro fr H
          obtain ⟨h9, hx, A1⟩ := A.st 0 rfl (o := 0) (new := [.int .i64 (5 : Int), .int .i64 p0.A, .int .i64 (0 : Int), .int .i64 (0 : Int), .int .i64 (0 : Int), .int .i64 p0.Group, .int .u64 (0 : Int), .int .u64 (0 : Int), .int .u64 (0 : Int), .int .u64 (0 : Int)]) (ds := [.int .i64 (5 : Int), .int .i64 p0.A, .int .i64 (0 : Int), .int .i64 (0 : Int), .int .i64 (0 : Int), .int .i64 p0.Group, .int .u64 (0 : Int), .int .u64 (0 : Int), .int .u64 (0 : Int), .int .u64 (0 : Int)]) (Nat.le_of_ble_eq_true rfl) rfl rfl
          replace A : HH g h9 [.obj h1.size (.cells none 2 [.int .i64 (5 : Int), .int .i64 p0.A, .int .i64 (0 : Int), .int .i64 (0 : Int), .int .i64 (0 : Int), .int .i64 p0.Group, .int .u64 (0 : Int), .int .u64 (0 : Int), .int .u64 (0 : Int), .int .u64 (0 : Int)]), .obj h.size (.cells none 2 (e_S_tree_Node p0))] F := A1
          refine at_step (v := .tuple []) (h1 := h9) [(2, .ptr (some (h1.size, 0)))] H (fun fr => by kernel_rfl) (fun fr => .of (s_stG (by kernel_rfl) (stG_st hx rfl))) ?_
          intro fr t H
          refine at_seg [(6, [])] [(2, .ptr (some (h1.size, 0))), (3, .bool true)] H (noU_all rfl) (fun fr => by kernel_rfl) ?_
          intro fr H
          refine at_nil ?_
          show AW cfg 24 g (right (left (right (right (right (right (right (right (right (right (right (left (right (left (right (bodyC cfg.P 24)))))))))))))))) fr h9 _
          refine aw_ret (by kernel_rfl) ?_
          have e0 := Option.some.inj hm
          obtain ⟨y0, z0⟩ := Prod.mk.inj e0
          subst y0
          subst z0
          refine ⟨.inl rfl, .tuple [.agg [.int .i64 (5 : Int), .int .i64 p0.A, .int .i64 (0 : Int), .int .i64 (0 : Int), .int .i64 (0 : Int), .int .i64 p0.Group, .int .u64 (0 : Int), .int .u64 (0 : Int), .int .u64 (0 : Int), .int .u64 (0 : Int)], .bool true], resL_many (.cell (resT H (fun fr => by kernel_rfl)) (load_ldA (by kernel_rfl) (by kernel_rfl) (A.ldA 0 rfl (o := 0) (n := 10) ⟨Nat.le_of_ble_eq_true rfl, rfl⟩)) (.tmp (resT H (fun fr => by kernel_rfl)) .nil)), ?_⟩
          replace A : HH g h9 [] F := (HH.dropF A 0)
          exact ⟨rfl, A⟩
         ·replace H := H.know 37 hb (by kernel_rfl)
          refine aw_false (x := .tmp 37) (by kernel_rfl) H (fun fr => by kernel_rfl) ?_
          refine aw_skip (by kernel_rfl) ?_
          show AW cfg 24 g (right (right (bodyC cfg.P 24))) fr h6 _
          refine aw_seq (by kernel_rfl) ?_
          refine aw_reg (id := 15) (n := 3) [(0, []), (1, []), (2, [])] (by kernel_rfl) (by kernel_rfl) ?_
          refine at_seg [(0, [])] [(2, .ptr (some (h1.size, 0))), (44, .agg [.int .i64 (0 : Int), .int .i64 (0 : Int), .int .i64 (0 : Int), .int .i64 (0 : Int), .int .i64 (0 : Int), .int .i64 (0 : Int), .int .u64 (0 : Int), .int .u64 (0 : Int), .int .u64 (0 : Int), .int .u64 (0 : Int)])] H (noU_all rfl) (fun fr => by kernel_rfl) ?_
          intro fr H
          obtain ⟨h10, hx, A1⟩ := A.st 0 rfl (o := 0) (new := [.int .i64 (0 : Int), .int .i64 (0 : Int), .int .i64 (0 : Int), .int .i64 (0 : Int), .int .i64 (0 : Int), .int .i64 (0 : Int), .int .u64 (0 : Int), .int .u64 (0 : Int), .int .u64 (0 : Int), .int .u64 (0 : Int)]) (ds := [.int .i64 (0 : Int), .int .i64 (0 : Int), .int .i64 (0 : Int), .int .i64 (0 : Int), .int .i64 (0 : Int), .int .i64 (0 : Int), .int .u64 (0 : Int), .int .u64 (0 : Int), .int .u64 (0 : Int), .int .u64 (0 : Int)]) (Nat.le_of_ble_eq_true rfl) rfl rfl
          replace A : HH g h10 [.obj h1.size (.cells none 2 [.int .i64 (0 : Int), .int .i64 (0 : Int), .int .i64 (0 : Int), .int .i64 (0 : Int), .int .i64 (0 : Int), .int .i64 (0 : Int), .int .u64 (0 : Int), .int .u64 (0 : Int), .int .u64 (0 : Int), .int .u64 (0 : Int)]), .obj h.size (.cells none 2 (e_S_tree_Node p0))] F := A1
          refine at_step (v := .tuple []) (h1 := h10) [(2, .ptr (some (h1.size, 0)))] H (fun fr => by kernel_rfl) (fun fr => .of (s_stG (by kernel_rfl) (stG_st hx rfl))) ?_
          intro fr t H
          refine at_seg [(2, [])] [(2, .ptr (some (h1.size, 0))), (3, .bool false)] H (noU_all rfl) (fun fr => by kernel_rfl) ?_
          intro fr H
          refine at_nil ?_
          show AW cfg 24 g (right (right (right (bodyC cfg.P 24)))) fr h10 _
          refine aw_ret (by kernel_rfl) ?_
          have e0 := Option.some.inj hm
          obtain ⟨y0, z0⟩ := Prod.mk.inj e0
          subst y0
          subst z0
          refine ⟨.inl rfl, .tuple [.agg [.int .i64 (0 : Int), .int .i64 (0 : Int), .int .i64 (0 : Int), .int .i64 (0 : Int), .int .i64 (0 : Int), .int .i64 (0 : Int), .int .u64 (0 : Int), .int .u64 (0 : Int), .int .u64 (0 : Int), .int .u64 (0 : Int)], .bool false], resL_many (.cell (resT H (fun fr => by kernel_rfl)) (load_ldA (by kernel_rfl) (by kernel_rfl) (A.ldA 0 rfl (o := 0) (n := 10) ⟨Nat.le_of_ble_eq_true rfl, rfl⟩)) (.tmp (resT H (fun fr => by kernel_rfl)) .nil)), ?_⟩
          replace A : HH g h10 [] F := (HH.dropF A 0)
          exact ⟨rfl, A⟩
      ·exact hF.elim
  ·exact hF.elim
/-! ### boulter/tree.may$1 -/
noncomputable def M_tree_may_1_sIP (p0 : Int) (p1 : Int) : Option (Bool) :=
 some ((decide (p0 ≥ (0 : Int))) && (decide (p0 < p1)))
theorem ok_tree_may_1_sIP {g : Gd} {h : AHeap} {F : List Ck} {p0 : Int} {p1 : Int} {bp1 : Nat} {q0 : Bool} {av : List AVal} (hm : M_tree_may_1_sIP p0 p1 = some q0) (hc : canL (cfg.still 25) av = [.int .i64 p0, .ptr (some (bp1, 0))]) (A : HH g h [.obj bp1 (.cells none 2 [.int .i64 p1])] F) : ∃ v h', Runs cfg g h 25 av v h' ∧ v = .bool q0 ∧ HH g h' [.obj bp1 (.cells none 2 [.int .i64 p1])] F := by
 refine runsQ1 (n := 11) (rs := [.tmp 3]) (by kernel_rfl) hc (by kernel_rfl) ?_
 clear hc
 unfold M_tree_may_1_sIP at hm
 refine start (n := 11) [(0, .int .i64 p0), (1, .ptr (some (bp1, 0)))] (by kernel_rfl) (by kernel_rfl) ?_
 intro fr H
 refine aw_seq (by kernel_rfl) ?_
 refine aw_reg (id := 0) (n := 1) [(0, [])] (by kernel_rfl) (by kernel_rfl) ?_
 refine at_seg [(0, [])] [(0, .int .i64 p0), (1, .ptr (some (bp1, 0)))] H (noU_all rfl) (fun fr => by kernel_rfl) ?_
 intro fr H
 refine at_nil ?_
 show AW cfg 25 g (right (bodyC cfg.P 25)) fr h _
 refine aw_seq (by kernel_rfl) ?_
 refine aw_reg (id := 1) (n := 8) [(0, []), (1, []), (2, []), (3, []), (4, []), (5, []), (6, []), (7, [])] (by kernel_rfl) (by kernel_rfl) ?_
 refine at_seg [(0, []), (1, []), (2, [])] [(0, .int .i64 p0), (1, .ptr (some (bp1, 0))), (6, .bool (decide (p0 ≥ (0 : Int))))] H (noU_all rfl) (fun fr => by kernel_rfl) ?_
 intro fr H
 refine at_cut [(3, []), (4, []), (5, []), (6, [])] (fun fr' h' => h = h' ∧ Has fr' 11 [(10, .bool ((decide (p0 ≥ (0 : Int))) && (decide (p0 < p1))))]) ?_ ?_
 ·cases hb : (decide (p0 ≥ (0 : Int)) : Bool) with
  | true =>
   replace H := H.know 6 hb (by kernel_rfl)
   refine at_seg [(3, [])] [(1, .ptr (some (bp1, 0))), (6, .bool true), (7, .int .i64 p0)] H (noU_all rfl) (fun fr => by kernel_rfl) ?_
   intro fr H
   refine at_step (v := .int .i64 p1) (h1 := h) [(6, .bool true), (7, .int .i64 p0), (8, .int .i64 p1)] H (fun fr => by kernel_rfl) (fun fr => .of (s_ld (by kernel_rfl) (A.ld1 0 rfl (o := 0) rfl))) ?_
   intro fr t H
   refine at_seg [(5, []), (6, [])] [(10, .bool (decide (p0 < p1)))] H (noU_all rfl) (fun fr => by kernel_rfl) ?_
   intro fr H
   exact at_nil ⟨rfl, by first | exact H.less _ (fun fr => by rfl) | exact H.less _ (fun fr => by rw [hb]; rfl)⟩
  | false =>
   replace H := H.know 6 hb (by kernel_rfl)
   refine at_seg [(3, []), (4, []), (5, []), (6, [])] [(10, .bool false)] H (noU_all rfl) (fun fr => by kernel_rfl) ?_
   intro fr H
   exact at_nil ⟨rfl, by first | exact H.less _ (fun fr => by rfl) | exact H.less _ (fun fr => by rw [hb]; rfl)⟩
 ·intro t fr h' hK
  obtain ⟨e, H⟩ := hK
  subst e
  refine at_seg [(7, [])] [(3, .bool ((decide (p0 ≥ (0 : Int))) && (decide (p0 < p1))))] H (noU_all rfl) (fun fr => by kernel_rfl) ?_
  intro fr H
  refine at_nil ?_
  show AW cfg 25 g (right (right (bodyC cfg.P 25))) fr h _
  refine aw_ret (by kernel_rfl) ?_
  have e1 := Option.some.inj hm
  subst e1
  refine ⟨.inl rfl, .bool ((decide (p0 ≥ (0 : Int))) && (decide (p0 < p1))), resH H (fun fr => by kernel_rfl), ?_⟩
  exact ⟨rfl, A⟩
/-! ### (*boulter/rex.walk).next -/
noncomputable def M_rex_walk_next_sPOS (p0 : S_rex_walk) (p1 : List UInt8) : Option (Bool × S_rex_walk) :=
 (M_rex_walk_sign_sPOS p0 p1).bind fun x1 => iteB (!x1) (some (false, p0)) ((iteB (!p0.extended_) (some (IntKind.i64.wrap ((IntKind.i64.wrap (p0.at_ + (p1.length : Int))) + (1 : Int)))) (some (IntKind.i64.wrap (p0.at_ + (p1.length : Int)))) : Option ((Int))).bind fun x2 => some (true, (⟨p0.s_, x2, p0.extended_, p0.t_, p0.groups_, p0.depth_, p0.wrong_, p0.full_⟩ : S_rex_walk)))
theorem ok_rex_walk_next_sPOS {g : Gd} {h : AHeap} {F : List Ck} {p0 : S_rex_walk} {p1 : List UInt8} {bp0 : Nat} {rp0_3 : Option Nat} {q0 : Bool} {u0 : S_rex_walk} {av : List AVal} (hm : M_rex_walk_next_sPOS p0 p1 = some (q0, u0)) (hc : canL (cfg.still 21) av = [.ptr (some (bp0, 0)), .str p1]) (A : HH g h [.obj bp0 (.cells none 2 [.str p0.s_, .int .i64 p0.at_, .bool p0.extended_, rowV rp0_3 p0.t_.Nodes.length, .int .i64 p0.t_.Root, .int .i64 p0.groups_, .int .i64 p0.depth_, .int .i64 p0.wrong_, .bool p0.full_]), .lst rp0_3 45 (lst e_S_tree_Node p0.t_.Nodes)] F) : ∃ v h', Runs cfg g h 21 av v h' ∧ v = .bool q0 ∧ HH g h' [.obj bp0 (.cells none 2 [.str u0.s_, .int .i64 u0.at_, .bool u0.extended_, rowV rp0_3 p0.t_.Nodes.length, .int .i64 u0.t_.Root, .int .i64 u0.groups_, .int .i64 u0.depth_, .int .i64 u0.wrong_, .bool u0.full_]), .lst rp0_3 45 (lst e_S_tree_Node p0.t_.Nodes)] F := by
 refine runsQ1 (n := 30) (rs := [.tmp 4]) (by kernel_rfl) hc (by kernel_rfl) ?_
 clear hc
 unfold M_rex_walk_next_sPOS at hm
 refine start (n := 30) [(0, .ptr (some (bp0, 0))), (1, .str p1)] (by kernel_rfl) (by kernel_rfl) ?_
 intro fr H
 refine aw_seq (by kernel_rfl) ?_
 refine aw_reg (id := 0) (n := 1) [(0, [])] (by kernel_rfl) (by kernel_rfl) ?_
 refine at_seg [(0, [])] [(0, .ptr (some (bp0, 0))), (1, .str p1)] H (noU_all rfl) (fun fr => by kernel_rfl) ?_
 intro fr H
 refine at_nil ?_
 show AW cfg 21 g (right (bodyC cfg.P 21)) fr h _
 refine aw_seq (by kernel_rfl) ?_
 refine aw_seq (by kernel_rfl) ?_
 refine aw_reg (id := 1) (n := 4) [(0, []), (1, []), (2, []), (3, [])] (by kernel_rfl) (by kernel_rfl) ?_
 refine at_seg [(0, []), (1, [])] [(0, .ptr (some (bp0, 0))), (1, .str p1), (5, .ptr (some (bp0, 0))), (6, .str p1)] H (noU_all rfl) (fun fr => by kernel_rfl) ?_
 intro fr H
 have A1 := A.cut 2
 obtain ⟨x1, hx, hm⟩ := bind_some hm
 obtain ⟨v1, h1, hr, rfl, A1⟩ := ok_rex_walk_sign_sPOS (av := [.ptr (some (bp0, 0)), .str p1]) hx (by kernel_rfl) A1
 replace A : HH g h1 [.obj bp0 (.cells none 2 [.str p0.s_, .int .i64 p0.at_, .bool p0.extended_, rowV rp0_3 p0.t_.Nodes.length, .int .i64 p0.t_.Root, .int .i64 p0.groups_, .int .i64 p0.depth_, .int .i64 p0.wrong_, .bool p0.full_]), .lst rp0_3 45 (lst e_S_tree_Node p0.t_.Nodes)] F := A.glue0 (n := 2) A1
 refine at_step (v := .bool x1) (h1 := h1) [(0, .ptr (some (bp0, 0))), (1, .str p1), (7, .bool x1)] H (fun fr => by kernel_rfl) (fun fr => Steps.call (by kernel_rfl) hr) ?_
 intro fr t H
 refine at_seg [(3, [])] [(0, .ptr (some (bp0, 0))), (1, .str p1), (8, .bool (!x1))] H (noU_all rfl) (fun fr => by kernel_rfl) ?_
 intro fr H
 refine at_nil ?_
 show AW cfg 21 g (right (left (right (bodyC cfg.P 21)))) fr h1 _
 rcases iteB_some hm with ⟨hb, hm⟩ | ⟨hb, hm⟩
 ·replace H := H.know 8 hb (by kernel_rfl)
  refine aw_true (x := .tmp 8) (by kernel_rfl) H (fun fr => by kernel_rfl) ?_
  refine aw_seq (by kernel_rfl) ?_
  refine aw_reg (id := 2) (n := 1) [(0, [])] (by kernel_rfl) (by kernel_rfl) ?_
  refine at_seg [(0, [])] [(4, .bool false)] H (noU_all rfl) (fun fr => by kernel_rfl) ?_
  intro fr H
  refine at_nil ?_
  show AW cfg 21 g (right (left (right (left (right (bodyC cfg.P 21)))))) fr h1 _
  refine aw_ret (by kernel_rfl) ?_
  have e0 := Option.some.inj hm
  obtain ⟨y0, z0⟩ := Prod.mk.inj e0
  subst y0
  subst z0
  refine ⟨.inl rfl, .bool false, resH H (fun fr => by kernel_rfl), ?_⟩
  exact ⟨rfl, A⟩
 ·replace H := H.know 8 hb (by kernel_rfl)
  refine aw_false (x := .tmp 8) (by kernel_rfl) H (fun fr => by kernel_rfl) ?_
  refine aw_skip (by kernel_rfl) ?_
  show AW cfg 21 g (right (right (bodyC cfg.P 21))) fr h1 _
  refine aw_seq (by kernel_rfl) ?_
  refine aw_reg (id := 3) (n := 10) [(0, []), (1, []), (2, []), (3, []), (4, []), (5, []), (6, []), (7, []), (8, []), (9, [])] (by kernel_rfl) (by kernel_rfl) ?_
  refine at_seg [(0, []), (1, []), (2, [])] [(0, .ptr (some (bp0, 0))), (1, .str p1), (9, .ptr (some (bp0, 0))), (11, .ptr (some (bp0, 1)))] H (noU_all rfl) (fun fr => by kernel_rfl) ?_
  intro fr H
  refine at_step (v := .int .i64 p0.at_) (h1 := h1) [(0, .ptr (some (bp0, 0))), (1, .str p1), (9, .ptr (some (bp0, 0))), (12, .int .i64 p0.at_)] H (fun fr => by kernel_rfl) (fun fr => .of (s_ld (by kernel_rfl) (A.ld1 0 rfl (o := 1) rfl))) ?_
  intro fr t H
  refine at_seg [(4, []), (5, []), (6, []), (7, []), (8, [])] [(0, .ptr (some (bp0, 0))), (15, .int .i64 (IntKind.i64.wrap (p0.at_ + (p1.length : Int)))), (17, .ptr (some (bp0, 1)))] H (noU_all rfl) (fun fr => by kernel_rfl) ?_
  intro fr H
  obtain ⟨h2, hx, A1⟩ := A.st 0 rfl (o := 1) (new := [.int .i64 (IntKind.i64.wrap (p0.at_ + (p1.length : Int)))]) (ds := [.str p0.s_, .int .i64 (IntKind.i64.wrap (p0.at_ + (p1.length : Int))), .bool p0.extended_, rowV rp0_3 p0.t_.Nodes.length, .int .i64 p0.t_.Root, .int .i64 p0.groups_, .int .i64 p0.depth_, .int .i64 p0.wrong_, .bool p0.full_]) (Nat.le_of_ble_eq_true rfl) rfl rfl
  replace A : HH g h2 [.obj bp0 (.cells none 2 [.str p0.s_, .int .i64 (IntKind.i64.wrap (p0.at_ + (p1.length : Int))), .bool p0.extended_, rowV rp0_3 p0.t_.Nodes.length, .int .i64 p0.t_.Root, .int .i64 p0.groups_, .int .i64 p0.depth_, .int .i64 p0.wrong_, .bool p0.full_]), .lst rp0_3 45 (lst e_S_tree_Node p0.t_.Nodes)] F := A1
  refine at_step (v := .tuple []) (h1 := h2) [(0, .ptr (some (bp0, 0)))] H (fun fr => by kernel_rfl) (fun fr => .of (s_st (by kernel_rfl) rfl hx)) ?_
  intro fr t H
  refine at_nil ?_
  show AW cfg 21 g (right (right (right (bodyC cfg.P 21)))) fr h2 _
  refine aw_seq (by kernel_rfl) ?_
  obtain ⟨o1, ho, hm⟩ := bind_some hm
  refine aw_mono (Q' := fun e fr' h' => (∃ (x2 : Int), e = .normal ∧ x2 = o1 ∧ Has fr' 30 [] ∧ HH g h' [.obj bp0 (.cells none 2 [.str p0.s_, .int .i64 x2, .bool p0.extended_, rowV rp0_3 p0.t_.Nodes.length, .int .i64 p0.t_.Root, .int .i64 p0.groups_, .int .i64 p0.depth_, .int .i64 p0.wrong_, .bool p0.full_]), .lst rp0_3 45 (lst e_S_tree_Node p0.t_.Nodes)] F) ∨ False) ?_ ?_
  ·replace hm := ho
   clear ho
   refine aw_seq (by kernel_rfl) ?_
   refine aw_reg (id := 4) (n := 5) [(0, []), (1, []), (2, []), (3, []), (4, [])] (by kernel_rfl) (by kernel_rfl) ?_
   refine at_seg [(0, []), (1, []), (2, [])] [(0, .ptr (some (bp0, 0))), (20, .ptr (some (bp0, 2)))] H (noU_all rfl) (fun fr => by kernel_rfl) ?_
   intro fr H
   refine at_step (v := .bool p0.extended_) (h1 := h2) [(0, .ptr (some (bp0, 0))), (21, .bool p0.extended_)] H (fun fr => by kernel_rfl) (fun fr => .of (s_ld (by kernel_rfl) (A.ld1 0 rfl (o := 2) rfl))) ?_
   intro fr t H
   refine at_seg [(4, [])] [(0, .ptr (some (bp0, 0))), (22, .bool (!p0.extended_))] H (noU_all rfl) (fun fr => by kernel_rfl) ?_
   intro fr H
   refine at_nil ?_
   show AW cfg 21 g (right (left (right (right (right (bodyC cfg.P 21)))))) fr h2 _
   rcases iteB_some hm with ⟨hb, hm⟩ | ⟨hb, hm⟩
   ·replace H := H.know 22 hb (by kernel_rfl)
    refine aw_true (x := .tmp 22) (by kernel_rfl) H (fun fr => by kernel_rfl) ?_
    refine aw_reg (id := 5) (n := 8) [(0, []), (1, []), (2, []), (3, []), (4, []), (5, []), (6, []), (7, [])] (by kernel_rfl) (by kernel_rfl) ?_
    refine at_seg [(0, []), (1, []), (2, [])] [(23, .ptr (some (bp0, 0))), (25, .ptr (some (bp0, 1)))] H (noU_all rfl) (fun fr => by kernel_rfl) ?_
    intro fr H
    refine at_step (v := .int .i64 (IntKind.i64.wrap (p0.at_ + (p1.length : Int)))) (h1 := h2) [(23, .ptr (some (bp0, 0))), (26, .int .i64 (IntKind.i64.wrap (p0.at_ + (p1.length : Int))))] H (fun fr => by kernel_rfl) (fun fr => .of (s_ld (by kernel_rfl) (A.ld1 0 rfl (o := 1) rfl))) ?_
    intro fr t H
    refine at_seg [(4, []), (5, []), (6, [])] [(27, .int .i64 (IntKind.i64.wrap ((IntKind.i64.wrap (p0.at_ + (p1.length : Int))) + (1 : Int)))), (29, .ptr (some (bp0, 1)))] H (noU_all rfl) (fun fr => by kernel_rfl) ?_
    intro fr H
    obtain ⟨h3, hx, A1⟩ := A.st 0 rfl (o := 1) (new := [.int .i64 (IntKind.i64.wrap ((IntKind.i64.wrap (p0.at_ + (p1.length : Int))) + (1 : Int)))]) (ds := [.str p0.s_, .int .i64 (IntKind.i64.wrap ((IntKind.i64.wrap (p0.at_ + (p1.length : Int))) + (1 : Int))), .bool p0.extended_, rowV rp0_3 p0.t_.Nodes.length, .int .i64 p0.t_.Root, .int .i64 p0.groups_, .int .i64 p0.depth_, .int .i64 p0.wrong_, .bool p0.full_]) (Nat.le_of_ble_eq_true rfl) rfl rfl
    replace A : HH g h3 [.obj bp0 (.cells none 2 [.str p0.s_, .int .i64 (IntKind.i64.wrap ((IntKind.i64.wrap (p0.at_ + (p1.length : Int))) + (1 : Int))), .bool p0.extended_, rowV rp0_3 p0.t_.Nodes.length, .int .i64 p0.t_.Root, .int .i64 p0.groups_, .int .i64 p0.depth_, .int .i64 p0.wrong_, .bool p0.full_]), .lst rp0_3 45 (lst e_S_tree_Node p0.t_.Nodes)] F := A1
    refine at_step (v := .tuple []) (h1 := h3) [] H (fun fr => by kernel_rfl) (fun fr => .of (s_st (by kernel_rfl) rfl hx)) ?_
    intro fr t H
    refine at_nil ?_
    exact Or.inl ⟨IntKind.i64.wrap ((IntKind.i64.wrap (p0.at_ + (p1.length : Int))) + (1 : Int)), rfl, Option.some.inj hm, H.less _ (fun fr => by kernel_rfl), A⟩
   ·replace H := H.know 22 hb (by kernel_rfl)
    refine aw_false (x := .tmp 22) (by kernel_rfl) H (fun fr => by kernel_rfl) ?_
    refine aw_skip (by kernel_rfl) ?_
    exact Or.inl ⟨IntKind.i64.wrap (p0.at_ + (p1.length : Int)), rfl, Option.some.inj hm, H.less _ (fun fr => by kernel_rfl), A⟩
  ·clear ho
   clear A
   intro e fr h4 hQ
   rcases hQ with ⟨x2, rfl, rfl, H, A⟩ | hF
   ·skip
    show AW cfg 21 g (right (right (right (right (bodyC cfg.P 21))))) fr h4 _
    refine aw_seq (by kernel_rfl) ?_
    refine aw_reg (id := 6) (n := 1) [(0, [])] (by kernel_rfl) (by kernel_rfl) ?_
    refine at_seg [(0, [])] [(4, .bool true)] H (noU_all rfl) (fun fr => by kernel_rfl) ?_
    intro fr H
    refine at_nil ?_
    show AW cfg 21 g (right (right (right (right (right (bodyC cfg.P 21)))))) fr h4 _
    refine aw_ret (by kernel_rfl) ?_
    have e0 := Option.some.inj hm
    obtain ⟨y0, z0⟩ := Prod.mk.inj e0
    subst y0
    subst z0
    refine ⟨.inl rfl, .bool true, resH H (fun fr => by kernel_rfl), ?_⟩
    exact ⟨rfl, A⟩
   ·exact hF.elim
/-! ### (*boulter/rex.walk).back -/
noncomputable def M_rex_walk_back_sPO (p0 : S_rex_walk) : Option (Bool) :=
 (M_rex_walk_closes_sPO (⟨p0.s_, IntKind.i64.wrap (p0.at_ + (1 : Int)), p0.extended_, p0.t_, p0.groups_, p0.depth_, p0.wrong_, p0.full_⟩ : S_rex_walk)).bind fun x1 => some x1
theorem ok_rex_walk_back_sPO {g : Gd} {h : AHeap} {F : List Ck} {p0 : S_rex_walk} {bp0 : Nat} {rp0_3 : Option Nat} {q0 : Bool} {av : List AVal} (hm : M_rex_walk_back_sPO p0 = some q0) (hc : canL (cfg.still 49) av = [.ptr (some (bp0, 0))]) (A : HH g h [.obj bp0 (.cells none 2 [.str p0.s_, .int .i64 p0.at_, .bool p0.extended_, rowV rp0_3 p0.t_.Nodes.length, .int .i64 p0.t_.Root, .int .i64 p0.groups_, .int .i64 p0.depth_, .int .i64 p0.wrong_, .bool p0.full_]), .lst rp0_3 45 (lst e_S_tree_Node p0.t_.Nodes)] F) : ∃ v h', Runs cfg g h 49 av v h' ∧ v = .bool q0 ∧ HH g h' [.obj bp0 (.cells none 2 [.str p0.s_, .int .i64 p0.at_, .bool p0.extended_, rowV rp0_3 p0.t_.Nodes.length, .int .i64 p0.t_.Root, .int .i64 p0.groups_, .int .i64 p0.depth_, .int .i64 p0.wrong_, .bool p0.full_]), .lst rp0_3 45 (lst e_S_tree_Node p0.t_.Nodes)] F := by
 refine runsQ1 (n := 12) (rs := [.tmp 2]) (by kernel_rfl) hc (by kernel_rfl) ?_
 clear hc
 unfold M_rex_walk_back_sPO at hm
 refine start (n := 12) [(0, .ptr (some (bp0, 0)))] (by kernel_rfl) (by kernel_rfl) ?_
 intro fr H
 refine aw_seq (by kernel_rfl) ?_
 refine aw_reg (id := 0) (n := 1) [(0, [])] (by kernel_rfl) (by kernel_rfl) ?_
 refine at_seg [(0, [])] [(0, .ptr (some (bp0, 0)))] H (noU_all rfl) (fun fr => by kernel_rfl) ?_
 intro fr H
 refine at_nil ?_
 show AW cfg 49 g (right (bodyC cfg.P 49)) fr h _
 refine aw_seq (by kernel_rfl) ?_
 refine aw_reg (id := 1) (n := 5) [(0, []), (1, []), (2, []), (3, []), (4, [])] (by kernel_rfl) (by kernel_rfl) ?_
 refine at_seg [(0, []), (1, [])] [(5, .ptr (some (bp0, 0)))] H (noU_all rfl) (fun fr => by kernel_rfl) ?_
 intro fr H
 refine at_step (v := .agg [.str p0.s_, .int .i64 p0.at_, .bool p0.extended_, rowV rp0_3 p0.t_.Nodes.length, .int .i64 p0.t_.Root, .int .i64 p0.groups_, .int .i64 p0.depth_, .int .i64 p0.wrong_, .bool p0.full_]) (h1 := h) [(6, .agg [.str p0.s_, .int .i64 p0.at_, .bool p0.extended_, rowV rp0_3 p0.t_.Nodes.length, .int .i64 p0.t_.Root, .int .i64 p0.groups_, .int .i64 p0.depth_, .int .i64 p0.wrong_, .bool p0.full_])] H (fun fr => by kernel_rfl) (fun fr => .of (s_ldA (by kernel_rfl) (A.ldA 0 rfl (o := 0) (n := 9) ⟨Nat.le_of_ble_eq_true rfl, rfl⟩))) ?_
 intro fr t H
 obtain ⟨h1, e1⟩ : ∃ x, x = h.push (.cells none 2 [.str ([] : List UInt8), .int .i64 (0 : Int), .bool false, .slice none 0, .int .i64 (0 : Int), .int .i64 (0 : Int), .int .i64 (0 : Int), .int .i64 (0 : Int), .bool false]) := ⟨_, rfl⟩
 replace A := (A.push _).to e1
 refine at_step (v := .ptr (some (h.size, 0))) (h1 := h1) [(3, .ptr (some (h.size, 0))), (6, .agg [.str p0.s_, .int .i64 p0.at_, .bool p0.extended_, rowV rp0_3 p0.t_.Nodes.length, .int .i64 p0.t_.Root, .int .i64 p0.groups_, .int .i64 p0.depth_, .int .i64 p0.wrong_, .bool p0.full_])] H (fun fr => by kernel_rfl) (fun fr => .of (s_n' (by kernel_rfl) (congrArg some e1.symm))) ?_
 intro fr t H
 obtain ⟨h2, hx, A1⟩ := A.st 0 rfl (o := 0) (new := [.str p0.s_, .int .i64 p0.at_, .bool p0.extended_, rowV rp0_3 p0.t_.Nodes.length, .int .i64 p0.t_.Root, .int .i64 p0.groups_, .int .i64 p0.depth_, .int .i64 p0.wrong_, .bool p0.full_]) (ds := [.str p0.s_, .int .i64 p0.at_, .bool p0.extended_, rowV rp0_3 p0.t_.Nodes.length, .int .i64 p0.t_.Root, .int .i64 p0.groups_, .int .i64 p0.depth_, .int .i64 p0.wrong_, .bool p0.full_]) (Nat.le_of_ble_eq_true rfl) rfl rfl
 replace A : HH g h2 [.obj h.size (.cells none 2 [.str p0.s_, .int .i64 p0.at_, .bool p0.extended_, rowV rp0_3 p0.t_.Nodes.length, .int .i64 p0.t_.Root, .int .i64 p0.groups_, .int .i64 p0.depth_, .int .i64 p0.wrong_, .bool p0.full_]), .obj bp0 (.cells none 2 [.str p0.s_, .int .i64 p0.at_, .bool p0.extended_, rowV rp0_3 p0.t_.Nodes.length, .int .i64 p0.t_.Root, .int .i64 p0.groups_, .int .i64 p0.depth_, .int .i64 p0.wrong_, .bool p0.full_]), .lst rp0_3 45 (lst e_S_tree_Node p0.t_.Nodes)] F := A1
 refine at_step (v := .tuple []) (h1 := h2) [(3, .ptr (some (h.size, 0)))] H (fun fr => by kernel_rfl) (fun fr => .of (s_stG (by kernel_rfl) (stG_st hx rfl))) ?_
 intro fr t H
 refine at_nil ?_
 show AW cfg 49 g (right (right (bodyC cfg.P 49))) fr h2 _
 refine aw_seq (by kernel_rfl) ?_
 refine aw_reg (id := 2) (n := 5) [(0, []), (1, []), (2, []), (3, []), (4, [])] (by kernel_rfl) (by kernel_rfl) ?_
 refine at_seg [(0, [])] [(3, .ptr (some (h.size, 0))), (7, .ptr (some (h.size, 1)))] H (noU_all rfl) (fun fr => by kernel_rfl) ?_
 intro fr H
 refine at_step (v := .int .i64 p0.at_) (h1 := h2) [(3, .ptr (some (h.size, 0))), (8, .int .i64 p0.at_)] H (fun fr => by kernel_rfl) (fun fr => .of (s_ld (by kernel_rfl) (A.ld1 0 rfl (o := 1) rfl))) ?_
 intro fr t H
 refine at_seg [(2, []), (3, [])] [(3, .ptr (some (h.size, 0))), (9, .int .i64 (IntKind.i64.wrap (p0.at_ + (1 : Int)))), (10, .ptr (some (h.size, 1)))] H (noU_all rfl) (fun fr => by kernel_rfl) ?_
 intro fr H
 obtain ⟨h3, hx, A1⟩ := A.st 0 rfl (o := 1) (new := [.int .i64 (IntKind.i64.wrap (p0.at_ + (1 : Int)))]) (ds := [.str p0.s_, .int .i64 (IntKind.i64.wrap (p0.at_ + (1 : Int))), .bool p0.extended_, rowV rp0_3 p0.t_.Nodes.length, .int .i64 p0.t_.Root, .int .i64 p0.groups_, .int .i64 p0.depth_, .int .i64 p0.wrong_, .bool p0.full_]) (Nat.le_of_ble_eq_true rfl) rfl rfl
 replace A : HH g h3 [.obj h.size (.cells none 2 [.str p0.s_, .int .i64 (IntKind.i64.wrap (p0.at_ + (1 : Int))), .bool p0.extended_, rowV rp0_3 p0.t_.Nodes.length, .int .i64 p0.t_.Root, .int .i64 p0.groups_, .int .i64 p0.depth_, .int .i64 p0.wrong_, .bool p0.full_]), .obj bp0 (.cells none 2 [.str p0.s_, .int .i64 p0.at_, .bool p0.extended_, rowV rp0_3 p0.t_.Nodes.length, .int .i64 p0.t_.Root, .int .i64 p0.groups_, .int .i64 p0.depth_, .int .i64 p0.wrong_, .bool p0.full_]), .lst rp0_3 45 (lst e_S_tree_Node p0.t_.Nodes)] F := A1
 refine at_step (v := .tuple []) (h1 := h3) [(3, .ptr (some (h.size, 0)))] H (fun fr => by kernel_rfl) (fun fr => .of (s_st (by kernel_rfl) rfl hx)) ?_
 intro fr t H
 refine at_nil ?_
 show AW cfg 49 g (right (right (right (bodyC cfg.P 49)))) fr h3 _
 refine aw_seq (by kernel_rfl) ?_
 refine aw_reg (id := 3) (n := 2) [(0, []), (1, [])] (by kernel_rfl) (by kernel_rfl) ?_
 replace A : HH g h3 [.obj h.size (.cells none 2 [.str p0.s_, .int .i64 (IntKind.i64.wrap (p0.at_ + (1 : Int))), .bool p0.extended_, rowV rp0_3 p0.t_.Nodes.length, .int .i64 p0.t_.Root, .int .i64 p0.groups_, .int .i64 p0.depth_, .int .i64 p0.wrong_, .bool p0.full_]), .lst rp0_3 45 (lst e_S_tree_Node p0.t_.Nodes), .obj bp0 (.cells none 2 [.str p0.s_, .int .i64 p0.at_, .bool p0.extended_, rowV rp0_3 p0.t_.Nodes.length, .int .i64 p0.t_.Root, .int .i64 p0.groups_, .int .i64 p0.depth_, .int .i64 p0.wrong_, .bool p0.full_])] F := ((A.front 2 rfl).front 1 rfl)
 have A1 := A.cut 2
 obtain ⟨x1, hx, hm⟩ := bind_some hm
 obtain ⟨v1, h4, hr, rfl, A1⟩ := ok_rex_walk_closes_sPO (av := [.ptr (some (h.size, 0))]) hx (by kernel_rfl) A1
 replace A : HH g h4 [.obj h.size (.cells none 2 [.str p0.s_, .int .i64 (IntKind.i64.wrap (p0.at_ + (1 : Int))), .bool p0.extended_, rowV rp0_3 p0.t_.Nodes.length, .int .i64 p0.t_.Root, .int .i64 p0.groups_, .int .i64 p0.depth_, .int .i64 p0.wrong_, .bool p0.full_]), .lst rp0_3 45 (lst e_S_tree_Node p0.t_.Nodes), .obj bp0 (.cells none 2 [.str p0.s_, .int .i64 p0.at_, .bool p0.extended_, rowV rp0_3 p0.t_.Nodes.length, .int .i64 p0.t_.Root, .int .i64 p0.groups_, .int .i64 p0.depth_, .int .i64 p0.wrong_, .bool p0.full_])] F := A.glue0 (n := 2) A1
 refine at_step (v := .bool x1) (h1 := h4) [(11, .bool x1)] H (fun fr => by kernel_rfl) (fun fr => Steps.call (by kernel_rfl) hr) ?_
 intro fr t H
 refine at_seg [(1, [])] [(2, .bool x1)] H (noU_all rfl) (fun fr => by kernel_rfl) ?_
 intro fr H
 refine at_nil ?_
 show AW cfg 49 g (right (right (right (right (bodyC cfg.P 49))))) fr h4 _
 refine aw_ret (by kernel_rfl) ?_
 have e1 := Option.some.inj hm
 subst e1
 refine ⟨.inl rfl, .bool x1, resH H (fun fr => by kernel_rfl), ?_⟩
 replace A : HH g h4 [.obj bp0 (.cells none 2 [.str p0.s_, .int .i64 p0.at_, .bool p0.extended_, rowV rp0_3 p0.t_.Nodes.length, .int .i64 p0.t_.Root, .int .i64 p0.groups_, .int .i64 p0.depth_, .int .i64 p0.wrong_, .bool p0.full_]), .lst rp0_3 45 (lst e_S_tree_Node p0.t_.Nodes)] F := (HH.dropF ((A.front 1 rfl).front 2 rfl) 2)
 exact ⟨rfl, A⟩
/-! ### (*boulter/rex.walk).fail -/
noncomputable def M_rex_walk_fail_sPOI (p0 : S_rex_walk) (p1 : Int) : Option (S_rex_walk) :=
 iteB (decide (p0.wrong_ < (0 : Int))) (some (⟨p0.s_, p0.at_, p0.extended_, p0.t_, p0.groups_, p0.depth_, p1, p0.full_⟩ : S_rex_walk)) (some p0)
theorem ok_rex_walk_fail_sPOI {g : Gd} {h : AHeap} {F : List Ck} {p0 : S_rex_walk} {p1 : Int} {bp0 : Nat} {rp0_3 : Option Nat} {u0 : S_rex_walk} {av : List AVal} (hm : M_rex_walk_fail_sPOI p0 p1 = some u0) (hc : canL (cfg.still 14) av = [.ptr (some (bp0, 0)), .int .i64 p1]) (A : HH g h [.obj bp0 (.cells none 2 [.str p0.s_, .int .i64 p0.at_, .bool p0.extended_, rowV rp0_3 p0.t_.Nodes.length, .int .i64 p0.t_.Root, .int .i64 p0.groups_, .int .i64 p0.depth_, .int .i64 p0.wrong_, .bool p0.full_]), .lst rp0_3 45 (lst e_S_tree_Node p0.t_.Nodes)] F) : ∃ v h', Runs cfg g h 14 av v h' ∧ v = .tuple [] ∧ HH g h' [.obj bp0 (.cells none 2 [.str u0.s_, .int .i64 u0.at_, .bool u0.extended_, rowV rp0_3 p0.t_.Nodes.length, .int .i64 u0.t_.Root, .int .i64 u0.groups_, .int .i64 u0.depth_, .int .i64 u0.wrong_, .bool u0.full_]), .lst rp0_3 45 (lst e_S_tree_Node p0.t_.Nodes)] F := by
 refine runsQ1 (n := 13) (rs := []) (by kernel_rfl) hc (by kernel_rfl) ?_
 clear hc
 unfold M_rex_walk_fail_sPOI at hm
 refine start (n := 13) [(0, .ptr (some (bp0, 0))), (1, .int .i64 p1)] (by kernel_rfl) (by kernel_rfl) ?_
 intro fr H
 refine aw_seq (by kernel_rfl) ?_
 refine aw_reg (id := 0) (n := 5) [(0, []), (1, []), (2, []), (3, []), (4, [])] (by kernel_rfl) (by kernel_rfl) ?_
 refine at_seg [(0, []), (1, []), (2, [])] [(0, .ptr (some (bp0, 0))), (1, .int .i64 p1), (6, .ptr (some (bp0, 7)))] H (noU_all rfl) (fun fr => by kernel_rfl) ?_
 intro fr H
 refine at_step (v := .int .i64 p0.wrong_) (h1 := h) [(0, .ptr (some (bp0, 0))), (1, .int .i64 p1), (7, .int .i64 p0.wrong_)] H (fun fr => by kernel_rfl) (fun fr => .of (s_ld (by kernel_rfl) (A.ld1 0 rfl (o := 7) rfl))) ?_
 intro fr t H
 refine at_seg [(4, [])] [(0, .ptr (some (bp0, 0))), (1, .int .i64 p1), (8, .bool (decide (p0.wrong_ < (0 : Int))))] H (noU_all rfl) (fun fr => by kernel_rfl) ?_
 intro fr H
 refine at_nil ?_
 show AW cfg 14 g (right (bodyC cfg.P 14)) fr h _
 rcases iteB_some hm with ⟨hb, hm⟩ | ⟨hb, hm⟩
 ·replace H := H.know 8 hb (by kernel_rfl)
  refine aw_true (x := .tmp 8) (by kernel_rfl) H (fun fr => by kernel_rfl) ?_
  refine aw_reg (id := 1) (n := 5) [(0, []), (1, []), (2, []), (3, []), (4, [])] (by kernel_rfl) (by kernel_rfl) ?_
  refine at_seg [(0, []), (1, []), (2, []), (3, [])] [(10, .int .i64 p1), (12, .ptr (some (bp0, 7)))] H (noU_all rfl) (fun fr => by kernel_rfl) ?_
  intro fr H
  obtain ⟨h1, hx, A1⟩ := A.st 0 rfl (o := 7) (new := [.int .i64 p1]) (ds := [.str p0.s_, .int .i64 p0.at_, .bool p0.extended_, rowV rp0_3 p0.t_.Nodes.length, .int .i64 p0.t_.Root, .int .i64 p0.groups_, .int .i64 p0.depth_, .int .i64 p1, .bool p0.full_]) (Nat.le_of_ble_eq_true rfl) rfl rfl
  replace A : HH g h1 [.obj bp0 (.cells none 2 [.str p0.s_, .int .i64 p0.at_, .bool p0.extended_, rowV rp0_3 p0.t_.Nodes.length, .int .i64 p0.t_.Root, .int .i64 p0.groups_, .int .i64 p0.depth_, .int .i64 p1, .bool p0.full_]), .lst rp0_3 45 (lst e_S_tree_Node p0.t_.Nodes)] F := A1
  refine at_step (v := .tuple []) (h1 := h1) [] H (fun fr => by kernel_rfl) (fun fr => .of (s_st (by kernel_rfl) rfl hx)) ?_
  intro fr t H
  refine at_nil ?_
  have e1 := Option.some.inj hm
  subst e1
  refine ⟨.inr rfl, .tuple [], resH H (fun fr => by kernel_rfl), ?_⟩
  exact ⟨rfl, A⟩
 ·replace H := H.know 8 hb (by kernel_rfl)
  refine aw_false (x := .tmp 8) (by kernel_rfl) H (fun fr => by kernel_rfl) ?_
  refine aw_skip (by kernel_rfl) ?_
  have e1 := Option.some.inj hm
  subst e1
  refine ⟨.inr rfl, .tuple [], resH H (fun fr => by kernel_rfl), ?_⟩
  exact ⟨rfl, A⟩
/-! ### boulter/boulterlaw19.awake -/
def M_boulterlaw19_awake : Option Bool := some true
theorem ok_boulterlaw19_awake {g : Gd} {h : AHeap} {q0 : Bool} (hm : M_boulterlaw19_awake = some q0) : Runs cfg g h 7 [] (.bool q0) h := by
 have e1 := Option.some.inj hm
 subst e1
 exact runs4E (by kernel_rfl) rfl rfl (closedF 1000 (by kernel_rfl))
end Go.Av.L
