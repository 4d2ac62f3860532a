/-
 Models of functions, and that the abstract run tells them. Written by lift2.py.
-/
import Derived.Test.YtkdlmohhklimjaaGreatDoorKCfg
import Derived.Test.YtkdlmohhklimjaaGreatDoorK0
namespace Go.Av.L
open Go.Av Go.Lib
set_option maxRecDepth 10000
set_option linter.unusedVariables false
set_option linter.unusedSimpArgs false
/-! ### (*boulter/option.reading).pattern -/
noncomputable def M_option_reading_pattern_sPOOOSe0_1II (p0 : S_option_reading) (p1 : List UInt8) (p3 : Int) (p4 : Int) : Option (S_option_flaw × (List S_pattern_Rule)) :=
 (M_glob_Parse p1).bind fun (x1, x2, x3) => iteB (x3 != (0 : Int)) (some ((⟨(11 : Int), p4⟩ : S_option_flaw), p0.c_.Excludes)) (iteB ((IntKind.i64.wrap ((p0.c_.Includes.length : Int) + (p0.c_.Excludes.length : Int))) == (256 : Int)) (some ((⟨(8 : Int), p3⟩ : S_option_flaw), p0.c_.Excludes)) (need (okN 24 (p0.c_.Excludes.length + ([(⟨p1, p0.flags_.Anchored, p0.flags_.Fold, p0.flags_.Slash⟩ : S_pattern_Rule)] : List S_pattern_Rule).length)) <| (M_option_none).bind fun x4 => some (x4, (p0.c_.Excludes ++ ([(⟨p1, p0.flags_.Anchored, p0.flags_.Fold, p0.flags_.Slash⟩ : S_pattern_Rule)] : List S_pattern_Rule)))))
theorem ok_option_reading_pattern_sPOOOSe0_1II {g : Gd} {h : AHeap} {F : List Ck} {p0 : S_option_reading} {p1 : List UInt8} {p3 : Int} {p4 : Int} {bp0 : Nat} {rp0_0 : Option Nat} {rp0_1 : Option Nat} {rp0_2 : Option Nat} {bp0_20 : Nat} {q0 : S_option_flaw} {u2 : List S_pattern_Rule} {av : List AVal} (hm : M_option_reading_pattern_sPOOOSe0_1II p0 p1 p3 p4 = some (q0, u2)) (hc : canL (cfg.still 62) av = [.ptr (some (bp0, 0)), .str p1, .ptr (some (bp0, 1)), .int .i64 p3, .int .i64 p4]) (A : HH g h [.obj bp0 (.cells none 2 [rowV rp0_0 p0.c_.Includes.length, rowV rp0_1 p0.c_.Excludes.length, rowV rp0_2 p0.c_.Exprs.length, .bool p0.c_.Vcs, .bool p0.c_.Backups, .int .i64 p0.c_.Caches, .bool p0.c_.Dated, .int .i64 p0.c_.Newer.Sec, .int .i64 p0.c_.Newer.Nsec, .int .i64 p0.c_.Nth, .int .i64 p0.c_.Strip, .int .i64 p0.c_.Name, .int .i64 p0.c_.Head, .int .i64 p0.c_.States, .str p0.flags_.Text, .bool p0.flags_.Anchored, .bool p0.flags_.Fold, .bool p0.flags_.Slash, .str p0.rest_, .int .i64 p0.at_, .map (some bp0_20)]), .lst rp0_0 87 (lst e_S_pattern_Rule p0.c_.Includes), .lst rp0_1 87 (lst e_S_pattern_Rule p0.c_.Excludes), .lst rp0_2 24 (lst e_S_rewrite_Expr p0.c_.Exprs), .obj bp0_20 (.map 2 (encM (fun k : List UInt8 => .str k) (fun v : Bool => .bool v) p0.seen_))] F) : ∃ v h', Runs cfg g h 62 av v h' ∧ ∃ (r'2 : Option Nat), v = .agg [.int .i64 q0.e_, .int .i64 q0.at_] ∧ HH g h' [.obj bp0 (.cells none 2 [rowV rp0_0 p0.c_.Includes.length, rowV r'2 u2.length, rowV rp0_2 p0.c_.Exprs.length, .bool p0.c_.Vcs, .bool p0.c_.Backups, .int .i64 p0.c_.Caches, .bool p0.c_.Dated, .int .i64 p0.c_.Newer.Sec, .int .i64 p0.c_.Newer.Nsec, .int .i64 p0.c_.Nth, .int .i64 p0.c_.Strip, .int .i64 p0.c_.Name, .int .i64 p0.c_.Head, .int .i64 p0.c_.States, .str p0.flags_.Text, .bool p0.flags_.Anchored, .bool p0.flags_.Fold, .bool p0.flags_.Slash, .str p0.rest_, .int .i64 p0.at_, .map (some bp0_20)]), .lst rp0_0 87 (lst e_S_pattern_Rule p0.c_.Includes), .lst r'2 87 (lst e_S_pattern_Rule u2), .lst rp0_2 24 (lst e_S_rewrite_Expr p0.c_.Exprs), .obj bp0_20 (.map 2 (encM (fun k : List UInt8 => .str k) (fun v : Bool => .bool v) p0.seen_))] F := by
 refine runsQ1 (n := 56) (rs := [.cell 10 96]) (by kernel_rfl) hc (by kernel_rfl) ?_
 clear hc
 unfold M_option_reading_pattern_sPOOOSe0_1II at hm
 refine start (n := 56) [(0, .ptr (some (bp0, 0))), (1, .str p1), (2, .ptr (some (bp0, 1))), (3, .int .i64 p3), (4, .int .i64 p4)] (by kernel_rfl) (by kernel_rfl) ?_
 intro fr H
 refine aw_seq (by kernel_rfl) ?_
 refine aw_reg (id := 0) (n := 1) [(0, [])] (by kernel_rfl) (by kernel_rfl) ?_
 obtain ⟨h1, e1⟩ : ∃ x, x = h.push (.cells none 2 [.int .i64 (0 : Int), .int .i64 (0 : Int)]) := ⟨_, rfl⟩
 replace A := (A.push _).to e1
 refine at_step (v := .ptr (some (h.size, 0))) (h1 := h1) [(0, .ptr (some (bp0, 0))), (1, .str p1), (2, .ptr (some (bp0, 1))), (3, .int .i64 p3), (4, .int .i64 p4), (10, .ptr (some (h.size, 0)))] H (fun fr => by kernel_rfl) (fun fr => .of (s_n' (by kernel_rfl) (congrArg some e1.symm))) ?_
 intro fr t H
 refine at_nil ?_
 show AW cfg 62 g (right (bodyC cfg.P 62)) fr h1 _
 refine aw_seq (by kernel_rfl) ?_
 refine aw_seq (by kernel_rfl) ?_
 refine aw_reg (id := 1) (n := 9) [(0, []), (1, []), (2, []), (3, []), (4, []), (5, []), (6, []), (7, []), (8, [])] (by kernel_rfl) (by kernel_rfl) ?_
 refine at_seg [(0, [])] [(0, .ptr (some (bp0, 0))), (1, .str p1), (2, .ptr (some (bp0, 1))), (3, .int .i64 p3), (4, .int .i64 p4), (10, .ptr (some (h.size, 0))), (16, .str p1)] H (noU_all rfl) (fun fr => by kernel_rfl) ?_
 intro fr H
 have A1 := A.cut 0
 obtain ⟨⟨x1, x2, x3⟩, hx, hm⟩ := bind_some hm
 obtain ⟨v1, h2, hr, rqw1, rfl, A1⟩ := ok_glob_Parse (av := [.str p1]) hx (by kernel_rfl) A1
 replace A : HH g h2 [.lst rqw1 256 (lst e_S_glob_Token x1), .obj h.size (.cells none 2 [.int .i64 (0 : Int), .int .i64 (0 : Int)]), .obj bp0 (.cells none 2 [rowV rp0_0 p0.c_.Includes.length, rowV rp0_1 p0.c_.Excludes.length, rowV rp0_2 p0.c_.Exprs.length, .bool p0.c_.Vcs, .bool p0.c_.Backups, .int .i64 p0.c_.Caches, .bool p0.c_.Dated, .int .i64 p0.c_.Newer.Sec, .int .i64 p0.c_.Newer.Nsec, .int .i64 p0.c_.Nth, .int .i64 p0.c_.Strip, .int .i64 p0.c_.Name, .int .i64 p0.c_.Head, .int .i64 p0.c_.States, .str p0.flags_.Text, .bool p0.flags_.Anchored, .bool p0.flags_.Fold, .bool p0.flags_.Slash, .str p0.rest_, .int .i64 p0.at_, .map (some bp0_20)]), .lst rp0_0 87 (lst e_S_pattern_Rule p0.c_.Includes), .lst rp0_1 87 (lst e_S_pattern_Rule p0.c_.Excludes), .lst rp0_2 24 (lst e_S_rewrite_Expr p0.c_.Exprs), .obj bp0_20 (.map 2 (encM (fun k : List UInt8 => .str k) (fun v : Bool => .bool v) p0.seen_))] F := A.glue0 (n := 0) A1
 refine at_step (v := .tuple [rowV rqw1 x1.length, .int .i64 x2, .int .i64 x3]) (h1 := h2) [(0, .ptr (some (bp0, 0))), (1, .str p1), (2, .ptr (some (bp0, 1))), (3, .int .i64 p3), (4, .int .i64 p4), (10, .ptr (some (h.size, 0))), (17, .tuple [rowV rqw1 x1.length, .int .i64 x2, .int .i64 x3])] H (fun fr => by kernel_rfl) (fun fr => Steps.call (by kernel_rfl) hr) ?_
 intro fr t H
 refine at_seg [(2, []), (3, []), (4, []), (5, []), (6, []), (7, []), (8, [])] [(0, .ptr (some (bp0, 0))), (1, .str p1), (2, .ptr (some (bp0, 1))), (3, .int .i64 p3), (4, .int .i64 p4), (10, .ptr (some (h.size, 0))), (13, .int .i64 x3)] H (noU_all rfl) (fun fr => by kernel_rfl) ?_
 intro fr H
 refine at_nil ?_
 show AW cfg 62 g (right (left (right (bodyC cfg.P 62)))) fr h2 _
 refine aw_seq (by kernel_rfl) ?_
 refine aw_reg (id := 2) (n := 2) [(0, []), (1, [])] (by kernel_rfl) (by kernel_rfl) ?_
 refine at_seg [(0, []), (1, [])] [(0, .ptr (some (bp0, 0))), (1, .str p1), (2, .ptr (some (bp0, 1))), (3, .int .i64 p3), (4, .int .i64 p4), (10, .ptr (some (h.size, 0))), (22, .bool (x3 != (0 : Int)))] H (noU_all rfl) (fun fr => by kernel_rfl) ?_
 intro fr H
 refine at_nil ?_
 show AW cfg 62 g (right (right (left (right (bodyC cfg.P 62))))) fr h2 _
 rcases iteB_some hm with ⟨hb, hm⟩ | ⟨hb, hm⟩
 ·replace H := H.know 22 hb (by kernel_rfl)
  refine aw_true (x := .tmp 22) (by kernel_rfl) H (fun fr => by kernel_rfl) ?_
  refine aw_seq (by kernel_rfl) ?_
  refine aw_reg (id := 3) (n := 3) [(0, []), (1, []), (2, [])] (by kernel_rfl) (by kernel_rfl) ?_
  refine at_seg [(0, []), (1, [])] [(10, .ptr (some (h.size, 0))), (24, .agg [.int .i64 (11 : Int), .int .i64 p4])] H (noU_all rfl) (fun fr => by kernel_rfl) ?_
  intro fr H
  obtain ⟨h3, hx, A1⟩ := A.st 1 rfl (o := 0) (new := [.int .i64 (11 : Int), .int .i64 p4]) (ds := [.int .i64 (11 : Int), .int .i64 p4]) (Nat.le_of_ble_eq_true rfl) rfl rfl
  replace A : HH g h3 [.lst rqw1 256 (lst e_S_glob_Token x1), .obj h.size (.cells none 2 [.int .i64 (11 : Int), .int .i64 p4]), .obj bp0 (.cells none 2 [rowV rp0_0 p0.c_.Includes.length, rowV rp0_1 p0.c_.Excludes.length, rowV rp0_2 p0.c_.Exprs.length, .bool p0.c_.Vcs, .bool p0.c_.Backups, .int .i64 p0.c_.Caches, .bool p0.c_.Dated, .int .i64 p0.c_.Newer.Sec, .int .i64 p0.c_.Newer.Nsec, .int .i64 p0.c_.Nth, .int .i64 p0.c_.Strip, .int .i64 p0.c_.Name, .int .i64 p0.c_.Head, .int .i64 p0.c_.States, .str p0.flags_.Text, .bool p0.flags_.Anchored, .bool p0.flags_.Fold, .bool p0.flags_.Slash, .str p0.rest_, .int .i64 p0.at_, .map (some bp0_20)]), .lst rp0_0 87 (lst e_S_pattern_Rule p0.c_.Includes), .lst rp0_1 87 (lst e_S_pattern_Rule p0.c_.Excludes), .lst rp0_2 24 (lst e_S_rewrite_Expr p0.c_.Exprs), .obj bp0_20 (.map 2 (encM (fun k : List UInt8 => .str k) (fun v : Bool => .bool v) p0.seen_))] F := A1
  refine at_step (v := .tuple []) (h1 := h3) [(10, .ptr (some (h.size, 0)))] H (fun fr => by kernel_rfl) (fun fr => .of (s_stG (by kernel_rfl) (stG_st hx rfl))) ?_
  intro fr t H
  refine at_nil ?_
  show AW cfg 62 g (right (left (right (right (left (right (bodyC cfg.P 62))))))) fr h3 _
  refine aw_ret (by kernel_rfl) ?_
  have e0 := Option.some.inj hm
  obtain ⟨y0, z0⟩ := Prod.mk.inj e0
  subst y0
  subst z0
  refine ⟨.inl rfl, .agg [.int .i64 (11 : Int), .int .i64 p4], resL_one (.cell (resT H (fun fr => by kernel_rfl)) (load_ldA (by kernel_rfl) (by kernel_rfl) (A.ldA 1 rfl (o := 0) (n := 2) ⟨Nat.le_of_ble_eq_true rfl, rfl⟩)) .nil), ?_⟩
  replace A : HH g h3 [.obj bp0 (.cells none 2 [rowV rp0_0 p0.c_.Includes.length, rowV rp0_1 p0.c_.Excludes.length, rowV rp0_2 p0.c_.Exprs.length, .bool p0.c_.Vcs, .bool p0.c_.Backups, .int .i64 p0.c_.Caches, .bool p0.c_.Dated, .int .i64 p0.c_.Newer.Sec, .int .i64 p0.c_.Newer.Nsec, .int .i64 p0.c_.Nth, .int .i64 p0.c_.Strip, .int .i64 p0.c_.Name, .int .i64 p0.c_.Head, .int .i64 p0.c_.States, .str p0.flags_.Text, .bool p0.flags_.Anchored, .bool p0.flags_.Fold, .bool p0.flags_.Slash, .str p0.rest_, .int .i64 p0.at_, .map (some bp0_20)]), .lst rp0_0 87 (lst e_S_pattern_Rule p0.c_.Includes), .lst rp0_1 87 (lst e_S_pattern_Rule p0.c_.Excludes), .lst rp0_2 24 (lst e_S_rewrite_Expr p0.c_.Exprs), .obj bp0_20 (.map 2 (encM (fun k : List UInt8 => .str k) (fun v : Bool => .bool v) p0.seen_))] F := (HH.dropF (((((A.front 6 rfl).front 6 rfl).front 6 rfl).front 6 rfl).front 6 rfl) 5)
  exact ⟨rp0_1, rfl, A⟩
 ·replace H := H.know 22 hb (by kernel_rfl)
  refine aw_false (x := .tmp 22) (by kernel_rfl) H (fun fr => by kernel_rfl) ?_
  refine aw_skip (by kernel_rfl) ?_
  show AW cfg 62 g (right (right (bodyC cfg.P 62))) fr h2 _
  refine aw_seq (by kernel_rfl) ?_
  refine aw_seq (by kernel_rfl) ?_
  refine aw_draw (id := 4) (n := 14) (by kernel_rfl) [(0, []), (1, []), (2, []), (3, []), (4, []), (5, []), (6, []), (7, []), (8, []), (9, []), (10, []), (11, []), (12, []), (13, [])] (by kernel_rfl) ?_
  refine at_seg [(0, []), (1, []), (2, []), (3, [])] [(0, .ptr (some (bp0, 0))), (1, .str p1), (2, .ptr (some (bp0, 1))), (3, .int .i64 p3), (10, .ptr (some (h.size, 0))), (28, .ptr (some (bp0, 0)))] H (noU_all rfl) (fun fr => by kernel_rfl) ?_
  intro fr H
  refine at_step (v := rowV rp0_0 p0.c_.Includes.length) (h1 := h2) [(0, .ptr (some (bp0, 0))), (1, .str p1), (2, .ptr (some (bp0, 1))), (3, .int .i64 p3), (10, .ptr (some (h.size, 0))), (29, rowV rp0_0 p0.c_.Includes.length)] H (fun fr => by kernel_rfl) (fun fr => .of (s_ld (by kernel_rfl) (A.ld1 2 rfl (o := 0) rfl))) ?_
  intro fr t H
  refine at_seg [(5, []), (6, []), (7, []), (8, []), (9, [])] [(0, .ptr (some (bp0, 0))), (1, .str p1), (2, .ptr (some (bp0, 1))), (3, .int .i64 p3), (10, .ptr (some (h.size, 0))), (30, .int .i64 (p0.c_.Includes.length : Int)), (34, .ptr (some (bp0, 1)))] H (noU_all rfl) (fun fr => by kernel_rfl) ?_
  intro fr H
  refine at_step (v := rowV rp0_1 p0.c_.Excludes.length) (h1 := h2) [(0, .ptr (some (bp0, 0))), (1, .str p1), (2, .ptr (some (bp0, 1))), (3, .int .i64 p3), (10, .ptr (some (h.size, 0))), (30, .int .i64 (p0.c_.Includes.length : Int)), (35, rowV rp0_1 p0.c_.Excludes.length)] H (fun fr => by kernel_rfl) (fun fr => .of (s_ld (by kernel_rfl) (A.ld1 2 rfl (o := 1) rfl))) ?_
  intro fr t H
  refine at_seg [(11, []), (12, []), (13, [])] [(0, .ptr (some (bp0, 0))), (1, .str p1), (2, .ptr (some (bp0, 1))), (3, .int .i64 p3), (10, .ptr (some (h.size, 0))), (38, .bool ((IntKind.i64.wrap ((p0.c_.Includes.length : Int) + (p0.c_.Excludes.length : Int))) == (256 : Int)))] H (noU_all rfl) (fun fr => by kernel_rfl) ?_
  intro fr H
  refine at_nil ?_
  show AW cfg 62 g (right (left (right (right (bodyC cfg.P 62))))) fr h2 _
  rcases iteB_some hm with ⟨hb, hm⟩ | ⟨hb, hm⟩
  ·replace H := H.know 38 hb (by kernel_rfl)
   refine aw_true (x := .tmp 38) (by kernel_rfl) H (fun fr => by kernel_rfl) ?_
   refine aw_seq (by kernel_rfl) ?_
   refine aw_reg (id := 5) (n := 3) [(0, []), (1, []), (2, [])] (by kernel_rfl) (by kernel_rfl) ?_
   refine at_seg [(0, []), (1, [])] [(10, .ptr (some (h.size, 0))), (40, .agg [.int .i64 (8 : Int), .int .i64 p3])] H (noU_all rfl) (fun fr => by kernel_rfl) ?_
   intro fr H
   obtain ⟨h4, hx, A1⟩ := A.st 1 rfl (o := 0) (new := [.int .i64 (8 : Int), .int .i64 p3]) (ds := [.int .i64 (8 : Int), .int .i64 p3]) (Nat.le_of_ble_eq_true rfl) rfl rfl
   replace A : HH g h4 [.lst rqw1 256 (lst e_S_glob_Token x1), .obj h.size (.cells none 2 [.int .i64 (8 : Int), .int .i64 p3]), .obj bp0 (.cells none 2 [rowV rp0_0 p0.c_.Includes.length, rowV rp0_1 p0.c_.Excludes.length, rowV rp0_2 p0.c_.Exprs.length, .bool p0.c_.Vcs, .bool p0.c_.Backups, .int .i64 p0.c_.Caches, .bool p0.c_.Dated, .int .i64 p0.c_.Newer.Sec, .int .i64 p0.c_.Newer.Nsec, .int .i64 p0.c_.Nth, .int .i64 p0.c_.Strip, .int .i64 p0.c_.Name, .int .i64 p0.c_.Head, .int .i64 p0.c_.States, .str p0.flags_.Text, .bool p0.flags_.Anchored, .bool p0.flags_.Fold, .bool p0.flags_.Slash, .str p0.rest_, .int .i64 p0.at_, .map (some bp0_20)]), .lst rp0_0 87 (lst e_S_pattern_Rule p0.c_.Includes), .lst rp0_1 87 (lst e_S_pattern_Rule p0.c_.Excludes), .lst rp0_2 24 (lst e_S_rewrite_Expr p0.c_.Exprs), .obj bp0_20 (.map 2 (encM (fun k : List UInt8 => .str k) (fun v : Bool => .bool v) p0.seen_))] F := A1
   refine at_step (v := .tuple []) (h1 := h4) [(10, .ptr (some (h.size, 0)))] H (fun fr => by kernel_rfl) (fun fr => .of (s_stG (by kernel_rfl) (stG_st hx rfl))) ?_
   intro fr t H
   refine at_nil ?_
   show AW cfg 62 g (right (left (right (left (right (right (bodyC cfg.P 62))))))) fr h4 _
   refine aw_ret (by kernel_rfl) ?_
   have e0 := Option.some.inj hm
   obtain ⟨y0, z0⟩ := Prod.mk.inj e0
   subst y0
   subst z0
   refine ⟨.inl rfl, .agg [.int .i64 (8 : Int), .int .i64 p3], resL_one (.cell (resT H (fun fr => by kernel_rfl)) (load_ldA (by kernel_rfl) (by kernel_rfl) (A.ldA 1 rfl (o := 0) (n := 2) ⟨Nat.le_of_ble_eq_true rfl, rfl⟩)) .nil), ?_⟩
   replace A : HH g h4 [.obj bp0 (.cells none 2 [rowV rp0_0 p0.c_.Includes.length, rowV rp0_1 p0.c_.Excludes.length, rowV rp0_2 p0.c_.Exprs.length, .bool p0.c_.Vcs, .bool p0.c_.Backups, .int .i64 p0.c_.Caches, .bool p0.c_.Dated, .int .i64 p0.c_.Newer.Sec, .int .i64 p0.c_.Newer.Nsec, .int .i64 p0.c_.Nth, .int .i64 p0.c_.Strip, .int .i64 p0.c_.Name, .int .i64 p0.c_.Head, .int .i64 p0.c_.States, .str p0.flags_.Text, .bool p0.flags_.Anchored, .bool p0.flags_.Fold, .bool p0.flags_.Slash, .str p0.rest_, .int .i64 p0.at_, .map (some bp0_20)]), .lst rp0_0 87 (lst e_S_pattern_Rule p0.c_.Includes), .lst rp0_1 87 (lst e_S_pattern_Rule p0.c_.Excludes), .lst rp0_2 24 (lst e_S_rewrite_Expr p0.c_.Exprs), .obj bp0_20 (.map 2 (encM (fun k : List UInt8 => .str k) (fun v : Bool => .bool v) p0.seen_))] F := (HH.dropF (((((A.front 6 rfl).front 6 rfl).front 6 rfl).front 6 rfl).front 6 rfl) 5)
   exact ⟨rp0_1, rfl, A⟩
  ·replace H := H.know 38 hb (by kernel_rfl)
   refine aw_false (x := .tmp 38) (by kernel_rfl) H (fun fr => by kernel_rfl) ?_
   refine aw_skip (by kernel_rfl) ?_
   show AW cfg 62 g (right (right (right (bodyC cfg.P 62)))) fr h2 _
   refine aw_seq (by kernel_rfl) ?_
   refine aw_reg (id := 6) (n := 6) [(0, []), (1, []), (2, []), (3, []), (4, []), (5, [])] (by kernel_rfl) (by kernel_rfl) ?_
   refine at_seg [(0, []), (1, []), (2, [])] [(1, .str p1), (2, .ptr (some (bp0, 1))), (10, .ptr (some (h.size, 0))), (43, .ptr (some (bp0, 14)))] H (noU_all rfl) (fun fr => by kernel_rfl) ?_
   intro fr H
   refine at_step (v := .agg (e_S_pattern_Rule p0.flags_)) (h1 := h2) [(1, .str p1), (2, .ptr (some (bp0, 1))), (10, .ptr (some (h.size, 0))), (44, .agg (e_S_pattern_Rule p0.flags_))] H (fun fr => by kernel_rfl) (fun fr => .of (s_ldA (by kernel_rfl) (A.ldA 2 rfl (o := 14) (n := 4) ⟨Nat.le_of_ble_eq_true rfl, rfl⟩))) ?_
   intro fr t H
   obtain ⟨h5, e2⟩ : ∃ x, x = h2.push (.cells none 2 [.str ([] : List UInt8), .bool false, .bool false, .bool false]) := ⟨_, rfl⟩
   replace A := (A.push _).to e2
   refine at_step (v := .ptr (some (h2.size, 0))) (h1 := h5) [(1, .str p1), (2, .ptr (some (bp0, 1))), (10, .ptr (some (h.size, 0))), (14, .ptr (some (h2.size, 0))), (44, .agg (e_S_pattern_Rule p0.flags_))] H (fun fr => by kernel_rfl) (fun fr => .of (s_n' (by kernel_rfl) (congrArg some e2.symm))) ?_
   intro fr t H
   obtain ⟨h6, hx, A1⟩ := A.st 0 rfl (o := 0) (new := [.str p0.flags_.Text, .bool p0.flags_.Anchored, .bool p0.flags_.Fold, .bool p0.flags_.Slash]) (ds := [.str p0.flags_.Text, .bool p0.flags_.Anchored, .bool p0.flags_.Fold, .bool p0.flags_.Slash]) (Nat.le_of_ble_eq_true rfl) rfl rfl
   replace A : HH g h6 [.obj h2.size (.cells none 2 (e_S_pattern_Rule p0.flags_)), .lst rqw1 256 (lst e_S_glob_Token x1), .obj h.size (.cells none 2 [.int .i64 (0 : Int), .int .i64 (0 : Int)]), .obj bp0 (.cells none 2 [rowV rp0_0 p0.c_.Includes.length, rowV rp0_1 p0.c_.Excludes.length, rowV rp0_2 p0.c_.Exprs.length, .bool p0.c_.Vcs, .bool p0.c_.Backups, .int .i64 p0.c_.Caches, .bool p0.c_.Dated, .int .i64 p0.c_.Newer.Sec, .int .i64 p0.c_.Newer.Nsec, .int .i64 p0.c_.Nth, .int .i64 p0.c_.Strip, .int .i64 p0.c_.Name, .int .i64 p0.c_.Head, .int .i64 p0.c_.States, .str p0.flags_.Text, .bool p0.flags_.Anchored, .bool p0.flags_.Fold, .bool p0.flags_.Slash, .str p0.rest_, .int .i64 p0.at_, .map (some bp0_20)]), .lst rp0_0 87 (lst e_S_pattern_Rule p0.c_.Includes), .lst rp0_1 87 (lst e_S_pattern_Rule p0.c_.Excludes), .lst rp0_2 24 (lst e_S_rewrite_Expr p0.c_.Exprs), .obj bp0_20 (.map 2 (encM (fun k : List UInt8 => .str k) (fun v : Bool => .bool v) p0.seen_))] F := A1
   refine at_step (v := .tuple []) (h1 := h6) [(1, .str p1), (2, .ptr (some (bp0, 1))), (10, .ptr (some (h.size, 0))), (14, .ptr (some (h2.size, 0)))] H (fun fr => by kernel_rfl) (fun fr => .of (s_stG (by kernel_rfl) (stG_st hx rfl))) ?_
   intro fr t H
   refine at_nil ?_
   show AW cfg 62 g (right (right (right (right (bodyC cfg.P 62))))) fr h6 _
   refine aw_seq (by kernel_rfl) ?_
   refine aw_reg (id := 7) (n := 3) [(0, []), (1, []), (2, [])] (by kernel_rfl) (by kernel_rfl) ?_
   refine at_seg [(0, []), (1, [])] [(2, .ptr (some (bp0, 1))), (10, .ptr (some (h.size, 0))), (14, .ptr (some (h2.size, 0))), (45, .str p1), (46, .ptr (some (h2.size, 0)))] H (noU_all rfl) (fun fr => by kernel_rfl) ?_
   intro fr H
   obtain ⟨h7, hx, A1⟩ := A.st 0 rfl (o := 0) (new := [.str p1]) (ds := [.str p1, .bool p0.flags_.Anchored, .bool p0.flags_.Fold, .bool p0.flags_.Slash]) (Nat.le_of_ble_eq_true rfl) rfl rfl
   replace A : HH g h7 [.obj h2.size (.cells none 2 [.str p1, .bool p0.flags_.Anchored, .bool p0.flags_.Fold, .bool p0.flags_.Slash]), .lst rqw1 256 (lst e_S_glob_Token x1), .obj h.size (.cells none 2 [.int .i64 (0 : Int), .int .i64 (0 : Int)]), .obj bp0 (.cells none 2 [rowV rp0_0 p0.c_.Includes.length, rowV rp0_1 p0.c_.Excludes.length, rowV rp0_2 p0.c_.Exprs.length, .bool p0.c_.Vcs, .bool p0.c_.Backups, .int .i64 p0.c_.Caches, .bool p0.c_.Dated, .int .i64 p0.c_.Newer.Sec, .int .i64 p0.c_.Newer.Nsec, .int .i64 p0.c_.Nth, .int .i64 p0.c_.Strip, .int .i64 p0.c_.Name, .int .i64 p0.c_.Head, .int .i64 p0.c_.States, .str p0.flags_.Text, .bool p0.flags_.Anchored, .bool p0.flags_.Fold, .bool p0.flags_.Slash, .str p0.rest_, .int .i64 p0.at_, .map (some bp0_20)]), .lst rp0_0 87 (lst e_S_pattern_Rule p0.c_.Includes), .lst rp0_1 87 (lst e_S_pattern_Rule p0.c_.Excludes), .lst rp0_2 24 (lst e_S_rewrite_Expr p0.c_.Exprs), .obj bp0_20 (.map 2 (encM (fun k : List UInt8 => .str k) (fun v : Bool => .bool v) p0.seen_))] F := A1
   refine at_step (v := .tuple []) (h1 := h7) [(2, .ptr (some (bp0, 1))), (10, .ptr (some (h.size, 0))), (14, .ptr (some (h2.size, 0)))] H (fun fr => by kernel_rfl) (fun fr => .of (s_st (by kernel_rfl) rfl hx)) ?_
   intro fr t H
   refine at_nil ?_
   show AW cfg 62 g (right (right (right (right (right (bodyC cfg.P 62)))))) fr h7 _
   refine aw_seq (by kernel_rfl) ?_
   refine aw_draw (id := 8) (n := 9) (by kernel_rfl) [(0, []), (1, []), (2, []), (3, []), (4, []), (5, []), (6, []), (7, []), (8, [])] (by kernel_rfl) ?_
   refine at_seg [(0, []), (1, []), (2, [])] [(10, .ptr (some (h.size, 0))), (14, .ptr (some (h2.size, 0))), (47, .ptr (some (bp0, 1))), (49, .ptr (some (bp0, 1)))] H (noU_all rfl) (fun fr => by kernel_rfl) ?_
   intro fr H
   refine at_step (v := rowV rp0_1 p0.c_.Excludes.length) (h1 := h7) [(10, .ptr (some (h.size, 0))), (14, .ptr (some (h2.size, 0))), (47, .ptr (some (bp0, 1))), (50, rowV rp0_1 p0.c_.Excludes.length)] H (fun fr => by kernel_rfl) (fun fr => .of (s_ld (by kernel_rfl) (A.ld1 3 rfl (o := 1) rfl))) ?_
   intro fr t H
   refine at_step (v := .agg [.str p1, .bool p0.flags_.Anchored, .bool p0.flags_.Fold, .bool p0.flags_.Slash]) (h1 := h7) [(10, .ptr (some (h.size, 0))), (47, .ptr (some (bp0, 1))), (50, rowV rp0_1 p0.c_.Excludes.length), (51, .agg [.str p1, .bool p0.flags_.Anchored, .bool p0.flags_.Fold, .bool p0.flags_.Slash])] H (fun fr => by kernel_rfl) (fun fr => .of (s_ldA (by kernel_rfl) (A.ldA 0 rfl (o := 0) (n := 4) ⟨Nat.le_of_ble_eq_true rfl, rfl⟩))) ?_
   intro fr t H
   obtain ⟨h8, e3⟩ : ∃ x, x = h7.push (.cells (some 87) 2 [.str p1, .bool p0.flags_.Anchored, .bool p0.flags_.Fold, .bool p0.flags_.Slash]) := ⟨_, rfl⟩
   replace A := (A.pushL _ _).to e3
   refine at_step (v := rowV (some h7.size) (([(⟨p1, p0.flags_.Anchored, p0.flags_.Fold, p0.flags_.Slash⟩ : S_pattern_Rule)] : List S_pattern_Rule).length)) (h1 := h8) [(10, .ptr (some (h.size, 0))), (47, .ptr (some (bp0, 1))), (50, rowV rp0_1 p0.c_.Excludes.length), (52, rowV (some h7.size) (([(⟨p1, p0.flags_.Anchored, p0.flags_.Fold, p0.flags_.Slash⟩ : S_pattern_Rule)] : List S_pattern_Rule).length))] H (fun fr => by kernel_rfl) (fun fr => .of (s_n' (by kernel_rfl) (congrArg some e3.symm))) ?_
   intro fr t H
   obtain ⟨hb, hm⟩ := need_some hm
   obtain ⟨r1, h9, hx, A1⟩ := HH.appO enc_S_pattern_Rule (by decide) A 6 (xs := p0.c_.Excludes) (ys := ([(⟨p1, p0.flags_.Anchored, p0.flags_.Fold, p0.flags_.Slash⟩ : S_pattern_Rule)] : List S_pattern_Rule)) rfl (row_first A 0 rfl (n := ([(⟨p1, p0.flags_.Anchored, p0.flags_.Fold, p0.flags_.Slash⟩ : S_pattern_Rule)] : List S_pattern_Rule).length) (z := 4) rfl (by decide)) rfl rfl hb
   replace A : HH g h9 [.lst (some h7.size) 87 ([.str p1, .bool p0.flags_.Anchored, .bool p0.flags_.Fold, .bool p0.flags_.Slash]), .obj h2.size (.cells none 2 [.str p1, .bool p0.flags_.Anchored, .bool p0.flags_.Fold, .bool p0.flags_.Slash]), .lst rqw1 256 (lst e_S_glob_Token x1), .obj h.size (.cells none 2 [.int .i64 (0 : Int), .int .i64 (0 : Int)]), .obj bp0 (.cells none 2 [rowV rp0_0 p0.c_.Includes.length, rowV rp0_1 p0.c_.Excludes.length, rowV rp0_2 p0.c_.Exprs.length, .bool p0.c_.Vcs, .bool p0.c_.Backups, .int .i64 p0.c_.Caches, .bool p0.c_.Dated, .int .i64 p0.c_.Newer.Sec, .int .i64 p0.c_.Newer.Nsec, .int .i64 p0.c_.Nth, .int .i64 p0.c_.Strip, .int .i64 p0.c_.Name, .int .i64 p0.c_.Head, .int .i64 p0.c_.States, .str p0.flags_.Text, .bool p0.flags_.Anchored, .bool p0.flags_.Fold, .bool p0.flags_.Slash, .str p0.rest_, .int .i64 p0.at_, .map (some bp0_20)]), .lst rp0_0 87 (lst e_S_pattern_Rule p0.c_.Includes), .lst r1 87 (lst e_S_pattern_Rule (p0.c_.Excludes ++ ([(⟨p1, p0.flags_.Anchored, p0.flags_.Fold, p0.flags_.Slash⟩ : S_pattern_Rule)] : List S_pattern_Rule))), .lst rp0_2 24 (lst e_S_rewrite_Expr p0.c_.Exprs), .obj bp0_20 (.map 2 (encM (fun k : List UInt8 => .str k) (fun v : Bool => .bool v) p0.seen_))] F := A1
   replace A : HH g h9 [.obj h2.size (.cells none 2 [.str p1, .bool p0.flags_.Anchored, .bool p0.flags_.Fold, .bool p0.flags_.Slash]), .lst rqw1 256 (lst e_S_glob_Token x1), .obj h.size (.cells none 2 [.int .i64 (0 : Int), .int .i64 (0 : Int)]), .obj bp0 (.cells none 2 [rowV rp0_0 p0.c_.Includes.length, rowV rp0_1 p0.c_.Excludes.length, rowV rp0_2 p0.c_.Exprs.length, .bool p0.c_.Vcs, .bool p0.c_.Backups, .int .i64 p0.c_.Caches, .bool p0.c_.Dated, .int .i64 p0.c_.Newer.Sec, .int .i64 p0.c_.Newer.Nsec, .int .i64 p0.c_.Nth, .int .i64 p0.c_.Strip, .int .i64 p0.c_.Name, .int .i64 p0.c_.Head, .int .i64 p0.c_.States, .str p0.flags_.Text, .bool p0.flags_.Anchored, .bool p0.flags_.Fold, .bool p0.flags_.Slash, .str p0.rest_, .int .i64 p0.at_, .map (some bp0_20)]), .lst rp0_0 87 (lst e_S_pattern_Rule p0.c_.Includes), .lst r1 87 (lst e_S_pattern_Rule (p0.c_.Excludes ++ ([(⟨p1, p0.flags_.Anchored, p0.flags_.Fold, p0.flags_.Slash⟩ : S_pattern_Rule)] : List S_pattern_Rule))), .lst rp0_2 24 (lst e_S_rewrite_Expr p0.c_.Exprs), .obj bp0_20 (.map 2 (encM (fun k : List UInt8 => .str k) (fun v : Bool => .bool v) p0.seen_))] F := (HH.dropF ((((((((A.front 8 rfl).front 8 rfl).front 8 rfl).front 8 rfl).front 8 rfl).front 8 rfl).front 8 rfl).front 8 rfl) 8)
   refine at_step (v := rowV r1 ((p0.c_.Excludes ++ ([(⟨p1, p0.flags_.Anchored, p0.flags_.Fold, p0.flags_.Slash⟩ : S_pattern_Rule)] : List S_pattern_Rule)).length)) (h1 := h9) [(10, .ptr (some (h.size, 0))), (47, .ptr (some (bp0, 1))), (53, rowV r1 ((p0.c_.Excludes ++ ([(⟨p1, p0.flags_.Anchored, p0.flags_.Fold, p0.flags_.Slash⟩ : S_pattern_Rule)] : List S_pattern_Rule)).length))] H (fun fr => by kernel_rfl) (fun fr => .of (s_app (s := rowS rp0_1 p0.c_.Excludes.length) (by kernel_rfl) hx)) ?_
   intro fr t H
   refine at_seg [(7, [])] [(10, .ptr (some (h.size, 0))), (53, rowV r1 ((p0.c_.Excludes ++ ([(⟨p1, p0.flags_.Anchored, p0.flags_.Fold, p0.flags_.Slash⟩ : S_pattern_Rule)] : List S_pattern_Rule)).length)), (54, .ptr (some (bp0, 1)))] H (noU_all rfl) (fun fr => by kernel_rfl) ?_
   intro fr H
   obtain ⟨h10, hx, A1⟩ := A.st 3 rfl (o := 1) (new := [rowV r1 ((p0.c_.Excludes ++ ([(⟨p1, p0.flags_.Anchored, p0.flags_.Fold, p0.flags_.Slash⟩ : S_pattern_Rule)] : List S_pattern_Rule)).length)]) (ds := [rowV rp0_0 p0.c_.Includes.length, rowV r1 ((p0.c_.Excludes ++ ([(⟨p1, p0.flags_.Anchored, p0.flags_.Fold, p0.flags_.Slash⟩ : S_pattern_Rule)] : List S_pattern_Rule)).length), rowV rp0_2 p0.c_.Exprs.length, .bool p0.c_.Vcs, .bool p0.c_.Backups, .int .i64 p0.c_.Caches, .bool p0.c_.Dated, .int .i64 p0.c_.Newer.Sec, .int .i64 p0.c_.Newer.Nsec, .int .i64 p0.c_.Nth, .int .i64 p0.c_.Strip, .int .i64 p0.c_.Name, .int .i64 p0.c_.Head, .int .i64 p0.c_.States, .str p0.flags_.Text, .bool p0.flags_.Anchored, .bool p0.flags_.Fold, .bool p0.flags_.Slash, .str p0.rest_, .int .i64 p0.at_, .map (some bp0_20)]) (Nat.le_of_ble_eq_true rfl) rfl rfl
   replace A : HH g h10 [.obj h2.size (.cells none 2 [.str p1, .bool p0.flags_.Anchored, .bool p0.flags_.Fold, .bool p0.flags_.Slash]), .lst rqw1 256 (lst e_S_glob_Token x1), .obj h.size (.cells none 2 [.int .i64 (0 : Int), .int .i64 (0 : Int)]), .obj bp0 (.cells none 2 [rowV rp0_0 p0.c_.Includes.length, rowV r1 ((p0.c_.Excludes ++ ([(⟨p1, p0.flags_.Anchored, p0.flags_.Fold, p0.flags_.Slash⟩ : S_pattern_Rule)] : List S_pattern_Rule)).length), rowV rp0_2 p0.c_.Exprs.length, .bool p0.c_.Vcs, .bool p0.c_.Backups, .int .i64 p0.c_.Caches, .bool p0.c_.Dated, .int .i64 p0.c_.Newer.Sec, .int .i64 p0.c_.Newer.Nsec, .int .i64 p0.c_.Nth, .int .i64 p0.c_.Strip, .int .i64 p0.c_.Name, .int .i64 p0.c_.Head, .int .i64 p0.c_.States, .str p0.flags_.Text, .bool p0.flags_.Anchored, .bool p0.flags_.Fold, .bool p0.flags_.Slash, .str p0.rest_, .int .i64 p0.at_, .map (some bp0_20)]), .lst rp0_0 87 (lst e_S_pattern_Rule p0.c_.Includes), .lst r1 87 (lst e_S_pattern_Rule (p0.c_.Excludes ++ ([(⟨p1, p0.flags_.Anchored, p0.flags_.Fold, p0.flags_.Slash⟩ : S_pattern_Rule)] : List S_pattern_Rule))), .lst rp0_2 24 (lst e_S_rewrite_Expr p0.c_.Exprs), .obj bp0_20 (.map 2 (encM (fun k : List UInt8 => .str k) (fun v : Bool => .bool v) p0.seen_))] F := A1
   refine at_step (v := .tuple []) (h1 := h10) [(10, .ptr (some (h.size, 0)))] H (fun fr => by kernel_rfl) (fun fr => .of (s_st (by kernel_rfl) rfl hx)) ?_
   intro fr t H
   refine at_nil ?_
   show AW cfg 62 g (right (right (right (right (right (right (bodyC cfg.P 62))))))) fr h10 _
   refine aw_seq (by kernel_rfl) ?_
   refine aw_reg (id := 9) (n := 2) [(0, []), (1, [])] (by kernel_rfl) (by kernel_rfl) ?_
   have A1 := A.cut 0
   obtain ⟨x4, hx, hm⟩ := bind_some hm
   obtain ⟨v1, h11, hr, rfl, A1⟩ := ok_option_none (av := []) hx (by kernel_rfl) A1
   replace A : HH g h11 [.obj h2.size (.cells none 2 [.str p1, .bool p0.flags_.Anchored, .bool p0.flags_.Fold, .bool p0.flags_.Slash]), .lst rqw1 256 (lst e_S_glob_Token x1), .obj h.size (.cells none 2 [.int .i64 (0 : Int), .int .i64 (0 : Int)]), .obj bp0 (.cells none 2 [rowV rp0_0 p0.c_.Includes.length, rowV r1 ((p0.c_.Excludes ++ ([(⟨p1, p0.flags_.Anchored, p0.flags_.Fold, p0.flags_.Slash⟩ : S_pattern_Rule)] : List S_pattern_Rule)).length), rowV rp0_2 p0.c_.Exprs.length, .bool p0.c_.Vcs, .bool p0.c_.Backups, .int .i64 p0.c_.Caches, .bool p0.c_.Dated, .int .i64 p0.c_.Newer.Sec, .int .i64 p0.c_.Newer.Nsec, .int .i64 p0.c_.Nth, .int .i64 p0.c_.Strip, .int .i64 p0.c_.Name, .int .i64 p0.c_.Head, .int .i64 p0.c_.States, .str p0.flags_.Text, .bool p0.flags_.Anchored, .bool p0.flags_.Fold, .bool p0.flags_.Slash, .str p0.rest_, .int .i64 p0.at_, .map (some bp0_20)]), .lst rp0_0 87 (lst e_S_pattern_Rule p0.c_.Includes), .lst r1 87 (lst e_S_pattern_Rule (p0.c_.Excludes ++ ([(⟨p1, p0.flags_.Anchored, p0.flags_.Fold, p0.flags_.Slash⟩ : S_pattern_Rule)] : List S_pattern_Rule))), .lst rp0_2 24 (lst e_S_rewrite_Expr p0.c_.Exprs), .obj bp0_20 (.map 2 (encM (fun k : List UInt8 => .str k) (fun v : Bool => .bool v) p0.seen_))] F := A.glue0 (n := 0) A1
   refine at_step (v := .agg [.int .i64 x4.e_, .int .i64 x4.at_]) (h1 := h11) [(10, .ptr (some (h.size, 0))), (55, .agg [.int .i64 x4.e_, .int .i64 x4.at_])] H (fun fr => by kernel_rfl) (fun fr => Steps.call (by kernel_rfl) hr) ?_
   intro fr t H
   obtain ⟨h12, hx, A1⟩ := A.st 2 rfl (o := 0) (new := [.int .i64 x4.e_, .int .i64 x4.at_]) (ds := [.int .i64 x4.e_, .int .i64 x4.at_]) (Nat.le_of_ble_eq_true rfl) rfl rfl
   replace A : HH g h12 [.obj h2.size (.cells none 2 [.str p1, .bool p0.flags_.Anchored, .bool p0.flags_.Fold, .bool p0.flags_.Slash]), .lst rqw1 256 (lst e_S_glob_Token x1), .obj h.size (.cells none 2 [.int .i64 x4.e_, .int .i64 x4.at_]), .obj bp0 (.cells none 2 [rowV rp0_0 p0.c_.Includes.length, rowV r1 ((p0.c_.Excludes ++ ([(⟨p1, p0.flags_.Anchored, p0.flags_.Fold, p0.flags_.Slash⟩ : S_pattern_Rule)] : List S_pattern_Rule)).length), rowV rp0_2 p0.c_.Exprs.length, .bool p0.c_.Vcs, .bool p0.c_.Backups, .int .i64 p0.c_.Caches, .bool p0.c_.Dated, .int .i64 p0.c_.Newer.Sec, .int .i64 p0.c_.Newer.Nsec, .int .i64 p0.c_.Nth, .int .i64 p0.c_.Strip, .int .i64 p0.c_.Name, .int .i64 p0.c_.Head, .int .i64 p0.c_.States, .str p0.flags_.Text, .bool p0.flags_.Anchored, .bool p0.flags_.Fold, .bool p0.flags_.Slash, .str p0.rest_, .int .i64 p0.at_, .map (some bp0_20)]), .lst rp0_0 87 (lst e_S_pattern_Rule p0.c_.Includes), .lst r1 87 (lst e_S_pattern_Rule (p0.c_.Excludes ++ ([(⟨p1, p0.flags_.Anchored, p0.flags_.Fold, p0.flags_.Slash⟩ : S_pattern_Rule)] : List S_pattern_Rule))), .lst rp0_2 24 (lst e_S_rewrite_Expr p0.c_.Exprs), .obj bp0_20 (.map 2 (encM (fun k : List UInt8 => .str k) (fun v : Bool => .bool v) p0.seen_))] F := A1
   refine at_step (v := .tuple []) (h1 := h12) [(10, .ptr (some (h.size, 0)))] H (fun fr => by kernel_rfl) (fun fr => .of (s_stG (by kernel_rfl) (stG_st hx rfl))) ?_
   intro fr t H
   refine at_nil ?_
   show AW cfg 62 g (right (right (right (right (right (right (right (bodyC cfg.P 62)))))))) fr h12 _
   refine aw_ret (by kernel_rfl) ?_
   have e0 := Option.some.inj hm
   obtain ⟨y0, z0⟩ := Prod.mk.inj e0
   subst y0
   subst z0
   refine ⟨.inl rfl, .agg [.int .i64 x4.e_, .int .i64 x4.at_], resL_one (.cell (resT H (fun fr => by kernel_rfl)) (load_ldA (by kernel_rfl) (by kernel_rfl) (A.ldA 2 rfl (o := 0) (n := 2) ⟨Nat.le_of_ble_eq_true rfl, rfl⟩)) .nil), ?_⟩
   replace A : HH g h12 [.obj bp0 (.cells none 2 [rowV rp0_0 p0.c_.Includes.length, rowV r1 ((p0.c_.Excludes ++ ([(⟨p1, p0.flags_.Anchored, p0.flags_.Fold, p0.flags_.Slash⟩ : S_pattern_Rule)] : List S_pattern_Rule)).length), rowV rp0_2 p0.c_.Exprs.length, .bool p0.c_.Vcs, .bool p0.c_.Backups, .int .i64 p0.c_.Caches, .bool p0.c_.Dated, .int .i64 p0.c_.Newer.Sec, .int .i64 p0.c_.Newer.Nsec, .int .i64 p0.c_.Nth, .int .i64 p0.c_.Strip, .int .i64 p0.c_.Name, .int .i64 p0.c_.Head, .int .i64 p0.c_.States, .str p0.flags_.Text, .bool p0.flags_.Anchored, .bool p0.flags_.Fold, .bool p0.flags_.Slash, .str p0.rest_, .int .i64 p0.at_, .map (some bp0_20)]), .lst rp0_0 87 (lst e_S_pattern_Rule p0.c_.Includes), .lst r1 87 (lst e_S_pattern_Rule (p0.c_.Excludes ++ ([(⟨p1, p0.flags_.Anchored, p0.flags_.Fold, p0.flags_.Slash⟩ : S_pattern_Rule)] : List S_pattern_Rule))), .lst rp0_2 24 (lst e_S_rewrite_Expr p0.c_.Exprs), .obj bp0_20 (.map 2 (encM (fun k : List UInt8 => .str k) (fun v : Bool => .bool v) p0.seen_))] F := (HH.dropF (((((A.front 7 rfl).front 7 rfl).front 7 rfl).front 7 rfl).front 7 rfl) 5)
   exact ⟨r1, rfl, A⟩
/-! ### boulter/option.words$8 -/
noncomputable def M_option_words_8_sPOOOSII (p0 : S_option_reading) (p1 : List UInt8) (p2 : Int) (p3 : Int) : Option (S_option_flaw × (List S_pattern_Rule)) :=
 (M_option_reading_pattern_sPOOOSe0_1II p0 p1 p2 p3).bind fun (x1, x2) => some (x1, x2)
theorem ok_option_words_8_sPOOOSII {g : Gd} {h : AHeap} {F : List Ck} {p0 : S_option_reading} {p1 : List UInt8} {p2 : Int} {p3 : Int} {bp0 : Nat} {rp0_0 : Option Nat} {rp0_1 : Option Nat} {rp0_2 : Option Nat} {bp0_20 : Nat} {q0 : S_option_flaw} {u2 : List S_pattern_Rule} {av : List AVal} (hm : M_option_words_8_sPOOOSII p0 p1 p2 p3 = some (q0, u2)) (hc : canL (cfg.still 63) av = [.ptr (some (bp0, 0)), .str p1, .int .i64 p2, .int .i64 p3]) (A : HH g h [.obj bp0 (.cells none 2 [rowV rp0_0 p0.c_.Includes.length, rowV rp0_1 p0.c_.Excludes.length, rowV rp0_2 p0.c_.Exprs.length, .bool p0.c_.Vcs, .bool p0.c_.Backups, .int .i64 p0.c_.Caches, .bool p0.c_.Dated, .int .i64 p0.c_.Newer.Sec, .int .i64 p0.c_.Newer.Nsec, .int .i64 p0.c_.Nth, .int .i64 p0.c_.Strip, .int .i64 p0.c_.Name, .int .i64 p0.c_.Head, .int .i64 p0.c_.States, .str p0.flags_.Text, .bool p0.flags_.Anchored, .bool p0.flags_.Fold, .bool p0.flags_.Slash, .str p0.rest_, .int .i64 p0.at_, .map (some bp0_20)]), .lst rp0_0 87 (lst e_S_pattern_Rule p0.c_.Includes), .lst rp0_1 87 (lst e_S_pattern_Rule p0.c_.Excludes), .lst rp0_2 24 (lst e_S_rewrite_Expr p0.c_.Exprs), .obj bp0_20 (.map 2 (encM (fun k : List UInt8 => .str k) (fun v : Bool => .bool v) p0.seen_))] F) : ∃ v h', Runs cfg g h 63 av v h' ∧ ∃ (r'2 : Option Nat), v = .agg [.int .i64 q0.e_, .int .i64 q0.at_] ∧ HH g h' [.obj bp0 (.cells none 2 [rowV rp0_0 p0.c_.Includes.length, rowV r'2 u2.length, rowV rp0_2 p0.c_.Exprs.length, .bool p0.c_.Vcs, .bool p0.c_.Backups, .int .i64 p0.c_.Caches, .bool p0.c_.Dated, .int .i64 p0.c_.Newer.Sec, .int .i64 p0.c_.Newer.Nsec, .int .i64 p0.c_.Nth, .int .i64 p0.c_.Strip, .int .i64 p0.c_.Name, .int .i64 p0.c_.Head, .int .i64 p0.c_.States, .str p0.flags_.Text, .bool p0.flags_.Anchored, .bool p0.flags_.Fold, .bool p0.flags_.Slash, .str p0.rest_, .int .i64 p0.at_, .map (some bp0_20)]), .lst rp0_0 87 (lst e_S_pattern_Rule p0.c_.Includes), .lst r'2 87 (lst e_S_pattern_Rule u2), .lst rp0_2 24 (lst e_S_rewrite_Expr p0.c_.Exprs), .obj bp0_20 (.map 2 (encM (fun k : List UInt8 => .str k) (fun v : Bool => .bool v) p0.seen_))] F := by
 refine runsQ1 (n := 18) (rs := [.cell 8 96]) (by kernel_rfl) hc (by kernel_rfl) ?_
 clear hc
 unfold M_option_words_8_sPOOOSII at hm
 refine start (n := 18) [(0, .ptr (some (bp0, 0))), (1, .str p1), (2, .int .i64 p2), (3, .int .i64 p3)] (by kernel_rfl) (by kernel_rfl) ?_
 intro fr H
 refine aw_seq (by kernel_rfl) ?_
 refine aw_reg (id := 0) (n := 1) [(0, [])] (by kernel_rfl) (by kernel_rfl) ?_
 obtain ⟨h1, e1⟩ : ∃ x, x = h.push (.cells none 2 [.int .i64 (0 : Int), .int .i64 (0 : Int)]) := ⟨_, rfl⟩
 replace A := (A.push _).to e1
 refine at_step (v := .ptr (some (h.size, 0))) (h1 := h1) [(0, .ptr (some (bp0, 0))), (1, .str p1), (2, .int .i64 p2), (3, .int .i64 p3), (8, .ptr (some (h.size, 0)))] H (fun fr => by kernel_rfl) (fun fr => .of (s_n' (by kernel_rfl) (congrArg some e1.symm))) ?_
 intro fr t H
 refine at_nil ?_
 show AW cfg 63 g (right (bodyC cfg.P 63)) fr h1 _
 refine aw_seq (by kernel_rfl) ?_
 refine aw_reg (id := 1) (n := 10) [(0, []), (1, []), (2, []), (3, []), (4, []), (5, []), (6, []), (7, []), (8, []), (9, [])] (by kernel_rfl) (by kernel_rfl) ?_
 refine at_seg [(0, []), (1, []), (2, []), (3, []), (4, []), (5, []), (6, []), (7, [])] [(8, .ptr (some (h.size, 0))), (9, .ptr (some (bp0, 0))), (10, .str p1), (14, .ptr (some (bp0, 1))), (15, .int .i64 p2), (16, .int .i64 p3)] H (noU_all rfl) (fun fr => by kernel_rfl) ?_
 intro fr H
 replace A : HH g h1 [.obj bp0 (.cells none 2 [rowV rp0_0 p0.c_.Includes.length, rowV rp0_1 p0.c_.Excludes.length, rowV rp0_2 p0.c_.Exprs.length, .bool p0.c_.Vcs, .bool p0.c_.Backups, .int .i64 p0.c_.Caches, .bool p0.c_.Dated, .int .i64 p0.c_.Newer.Sec, .int .i64 p0.c_.Newer.Nsec, .int .i64 p0.c_.Nth, .int .i64 p0.c_.Strip, .int .i64 p0.c_.Name, .int .i64 p0.c_.Head, .int .i64 p0.c_.States, .str p0.flags_.Text, .bool p0.flags_.Anchored, .bool p0.flags_.Fold, .bool p0.flags_.Slash, .str p0.rest_, .int .i64 p0.at_, .map (some bp0_20)]), .lst rp0_0 87 (lst e_S_pattern_Rule p0.c_.Includes), .lst rp0_1 87 (lst e_S_pattern_Rule p0.c_.Excludes), .lst rp0_2 24 (lst e_S_rewrite_Expr p0.c_.Exprs), .obj bp0_20 (.map 2 (encM (fun k : List UInt8 => .str k) (fun v : Bool => .bool v) p0.seen_)), .obj h.size (.cells none 2 [.int .i64 (0 : Int), .int .i64 (0 : Int)])] F := (((((A.front 5 rfl).front 5 rfl).front 5 rfl).front 5 rfl).front 5 rfl)
 have A1 := A.cut 5
 obtain ⟨⟨x1, x2⟩, hx, hm⟩ := bind_some hm
 obtain ⟨v1, h2, hr, r1, rfl, A1⟩ := ok_option_reading_pattern_sPOOOSe0_1II (av := [.ptr (some (bp0, 0)), .str p1, .ptr (some (bp0, 1)), .int .i64 p2, .int .i64 p3]) hx (by kernel_rfl) A1
 replace A : HH g h2 [.obj bp0 (.cells none 2 [rowV rp0_0 p0.c_.Includes.length, rowV r1 x2.length, rowV rp0_2 p0.c_.Exprs.length, .bool p0.c_.Vcs, .bool p0.c_.Backups, .int .i64 p0.c_.Caches, .bool p0.c_.Dated, .int .i64 p0.c_.Newer.Sec, .int .i64 p0.c_.Newer.Nsec, .int .i64 p0.c_.Nth, .int .i64 p0.c_.Strip, .int .i64 p0.c_.Name, .int .i64 p0.c_.Head, .int .i64 p0.c_.States, .str p0.flags_.Text, .bool p0.flags_.Anchored, .bool p0.flags_.Fold, .bool p0.flags_.Slash, .str p0.rest_, .int .i64 p0.at_, .map (some bp0_20)]), .lst rp0_0 87 (lst e_S_pattern_Rule p0.c_.Includes), .lst r1 87 (lst e_S_pattern_Rule x2), .lst rp0_2 24 (lst e_S_rewrite_Expr p0.c_.Exprs), .obj bp0_20 (.map 2 (encM (fun k : List UInt8 => .str k) (fun v : Bool => .bool v) p0.seen_)), .obj h.size (.cells none 2 [.int .i64 (0 : Int), .int .i64 (0 : Int)])] F := A.glue0 (n := 5) A1
 refine at_step (v := .agg [.int .i64 x1.e_, .int .i64 x1.at_]) (h1 := h2) [(8, .ptr (some (h.size, 0))), (17, .agg [.int .i64 x1.e_, .int .i64 x1.at_])] H (fun fr => by kernel_rfl) (fun fr => Steps.call (by kernel_rfl) hr) ?_
 intro fr t H
 obtain ⟨h3, hx, A1⟩ := A.st 5 rfl (o := 0) (new := [.int .i64 x1.e_, .int .i64 x1.at_]) (ds := [.int .i64 x1.e_, .int .i64 x1.at_]) (Nat.le_of_ble_eq_true rfl) rfl rfl
 replace A : HH g h3 [.obj bp0 (.cells none 2 [rowV rp0_0 p0.c_.Includes.length, rowV r1 x2.length, rowV rp0_2 p0.c_.Exprs.length, .bool p0.c_.Vcs, .bool p0.c_.Backups, .int .i64 p0.c_.Caches, .bool p0.c_.Dated, .int .i64 p0.c_.Newer.Sec, .int .i64 p0.c_.Newer.Nsec, .int .i64 p0.c_.Nth, .int .i64 p0.c_.Strip, .int .i64 p0.c_.Name, .int .i64 p0.c_.Head, .int .i64 p0.c_.States, .str p0.flags_.Text, .bool p0.flags_.Anchored, .bool p0.flags_.Fold, .bool p0.flags_.Slash, .str p0.rest_, .int .i64 p0.at_, .map (some bp0_20)]), .lst rp0_0 87 (lst e_S_pattern_Rule p0.c_.Includes), .lst r1 87 (lst e_S_pattern_Rule x2), .lst rp0_2 24 (lst e_S_rewrite_Expr p0.c_.Exprs), .obj bp0_20 (.map 2 (encM (fun k : List UInt8 => .str k) (fun v : Bool => .bool v) p0.seen_)), .obj h.size (.cells none 2 [.int .i64 x1.e_, .int .i64 x1.at_])] F := A1
 refine at_step (v := .tuple []) (h1 := h3) [(8, .ptr (some (h.size, 0)))] H (fun fr => by kernel_rfl) (fun fr => .of (s_stG (by kernel_rfl) (stG_st hx rfl))) ?_
 intro fr t H
 refine at_nil ?_
 show AW cfg 63 g (right (right (bodyC cfg.P 63))) fr h3 _
 refine aw_ret (by kernel_rfl) ?_
 have e0 := Option.some.inj hm
 obtain ⟨y0, z0⟩ := Prod.mk.inj e0
 subst y0
 subst z0
 refine ⟨.inl rfl, .agg [.int .i64 x1.e_, .int .i64 x1.at_], resL_one (.cell (resT H (fun fr => by kernel_rfl)) (load_ldA (by kernel_rfl) (by kernel_rfl) (A.ldA 5 rfl (o := 0) (n := 2) ⟨Nat.le_of_ble_eq_true rfl, rfl⟩)) .nil), ?_⟩
 replace A : HH g h3 [.obj bp0 (.cells none 2 [rowV rp0_0 p0.c_.Includes.length, rowV r1 x2.length, rowV rp0_2 p0.c_.Exprs.length, .bool p0.c_.Vcs, .bool p0.c_.Backups, .int .i64 p0.c_.Caches, .bool p0.c_.Dated, .int .i64 p0.c_.Newer.Sec, .int .i64 p0.c_.Newer.Nsec, .int .i64 p0.c_.Nth, .int .i64 p0.c_.Strip, .int .i64 p0.c_.Name, .int .i64 p0.c_.Head, .int .i64 p0.c_.States, .str p0.flags_.Text, .bool p0.flags_.Anchored, .bool p0.flags_.Fold, .bool p0.flags_.Slash, .str p0.rest_, .int .i64 p0.at_, .map (some bp0_20)]), .lst rp0_0 87 (lst e_S_pattern_Rule p0.c_.Includes), .lst r1 87 (lst e_S_pattern_Rule x2), .lst rp0_2 24 (lst e_S_rewrite_Expr p0.c_.Exprs), .obj bp0_20 (.map 2 (encM (fun k : List UInt8 => .str k) (fun v : Bool => .bool v) p0.seen_))] F := (HH.dropF (((((A.front 4 rfl).front 4 rfl).front 4 rfl).front 4 rfl).front 4 rfl) 5)
 exact ⟨r1, rfl, A⟩
/-! ### strings.IndexByte -/
noncomputable def M_strings_IndexByte (p0 : List UInt8) (p1 : Int) : Option (Int) :=
 (M_stringslite_IndexByte p0 p1).bind fun x1 => some x1
theorem ok_strings_IndexByte {g : Gd} {h : AHeap} {F : List Ck} {p0 : List UInt8} {p1 : Int} {q0 : Int} {av : List AVal} (hm : M_strings_IndexByte p0 p1 = some q0) (hc : canL (cfg.still 26) av = [.str p0, .int .u8 p1]) (A : HH g h [] F) : ∃ v h', Runs cfg g h 26 av v h' ∧ v = .int .i64 q0 ∧ HH g h' [] F := by
 refine runsQ1 (n := 8) (rs := [.tmp 4]) (by kernel_rfl) hc (by kernel_rfl) ?_
 clear hc
 unfold M_strings_IndexByte at hm
 refine start (n := 8) [(0, .str p0), (1, .int .u8 p1)] (by kernel_rfl) (by kernel_rfl) ?_
 intro fr H
 refine aw_seq (by kernel_rfl) ?_
 refine aw_reg (id := 0) (n := 1) [(0, [])] (by kernel_rfl) (by kernel_rfl) ?_
 refine at_seg [(0, [])] [(0, .str p0), (1, .int .u8 p1)] H (noU_all rfl) (fun fr => by kernel_rfl) ?_
 intro fr H
 refine at_nil ?_
 show AW cfg 26 g (right (bodyC cfg.P 26)) fr h _
 refine aw_seq (by kernel_rfl) ?_
 refine aw_reg (id := 1) (n := 4) [(0, []), (1, []), (2, []), (3, [])] (by kernel_rfl) (by kernel_rfl) ?_
 refine at_seg [(0, []), (1, [])] [(5, .str p0), (6, .int .u8 p1)] H (noU_all rfl) (fun fr => by kernel_rfl) ?_
 intro fr H
 have A1 := A.cut 0
 obtain ⟨x1, hx, hm⟩ := bind_some hm
 obtain ⟨v1, h1, hr, rfl, A1⟩ := ok_stringslite_IndexByte (av := [.str p0, .int .u8 p1]) hx (by kernel_rfl) A1
 replace A : HH g h1 [] F := A.glue0 (n := 0) A1
 refine at_step (v := .int .i64 x1) (h1 := h1) [(7, .int .i64 x1)] H (fun fr => by kernel_rfl) (fun fr => Steps.call (by kernel_rfl) hr) ?_
 intro fr t H
 refine at_seg [(3, [])] [(4, .int .i64 x1)] H (noU_all rfl) (fun fr => by kernel_rfl) ?_
 intro fr H
 refine at_nil ?_
 show AW cfg 26 g (right (right (bodyC cfg.P 26))) fr h1 _
 refine aw_ret (by kernel_rfl) ?_
 have e1 := Option.some.inj hm
 subst e1
 refine ⟨.inl rfl, .int .i64 x1, resH H (fun fr => by kernel_rfl), ?_⟩
 exact ⟨rfl, A⟩
/-! ### boulter/exfile.Cut -/
noncomputable def M_exfile_Cut_L0 (p0 : List UInt8) (s : Int × Int) : Option ((Int × Int) ⊕ ((Int) ⊕ ((List UInt8) × (List UInt8) × Bool))) :=
 match s with
 | (x1, x2) => iteB (decide (x1 > (0 : Int))) ((iteB (x2 == (p0.length : Int)) (some (.inr (([] : List UInt8), ([] : List UInt8), false))) ((subS p0 (some x2) none).bind fun x11 => (M_strings_IndexByte x11 (10 : Int)).bind fun x12 => iteB (decide (x12 < (0 : Int))) (some (.inl (p0.length : Int))) (some (.inl (IntKind.i64.wrap (x2 + (IntKind.i64.wrap (x12 + (1 : Int)))))))) : Option ((Int) ⊕ ((List UInt8) × (List UInt8) × Bool))).bind fun o2 => (match o2 with | .inl x7 => some (.inl (IntKind.i64.wrap (x1 - (1 : Int)), x7)) | .inr (x8, x9, x10) => some (.inr (.inr (x8, x9, x10))))) (some (.inr (.inl x2)))
noncomputable def M_exfile_Cut (p0 : List UInt8) (p1 : Int) : Option ((List UInt8) × (List UInt8) × Bool) :=
 iteB (decide (p1 < (0 : Int))) (some (([] : List UInt8), ([] : List UInt8), false)) ((loop (M_exfile_Cut_L0 p0) (p1, (0 : Int))).bind fun o1 => (match o1 with | .inl x3 => (subS p0 none (some x3)).bind fun x13 => (subS p0 (some x3) none).bind fun x14 => some (x13, x14, true) | .inr (x4, x5, x6) => some (x4, x5, x6)))
theorem ok_exfile_Cut {g : Gd} {h : AHeap} {F : List Ck} {p0 : List UInt8} {p1 : Int} {q0 : List UInt8} {q1 : List UInt8} {q2 : Bool} {av : List AVal} (hm : M_exfile_Cut p0 p1 = some (q0, q1, q2)) (hc : canL (cfg.still 106) av = [.str p0, .int .i64 p1]) (A : HH g h [] F) : ∃ v h', Runs cfg g h 106 av v h' ∧ v = .tuple [.str q0, .str q1, .bool q2] ∧ HH g h' [] F := by
 refine runsQ1 (n := 37) (rs := [.tmp 4, .tmp 5, .tmp 6]) (by kernel_rfl) hc (by kernel_rfl) ?_
 clear hc
 unfold M_exfile_Cut at hm
 refine start (n := 37) [(0, .str p0), (1, .int .i64 p1)] (by kernel_rfl) (by kernel_rfl) ?_
 intro fr H
 refine aw_seq (by kernel_rfl) ?_
 refine aw_reg (id := 0) (n := 3) [(0, []), (1, []), (2, [])] (by kernel_rfl) (by kernel_rfl) ?_
 refine at_seg [(0, []), (1, []), (2, [])] [(0, .str p0), (1, .int .i64 p1)] H (noU_all rfl) (fun fr => by kernel_rfl) ?_
 intro fr H
 refine at_nil ?_
 show AW cfg 106 g (right (bodyC cfg.P 106)) fr h _
 refine aw_seq (by kernel_rfl) ?_
 refine aw_seq (by kernel_rfl) ?_
 refine aw_reg (id := 1) (n := 2) [(0, []), (1, [])] (by kernel_rfl) (by kernel_rfl) ?_
 refine at_seg [(0, []), (1, [])] [(0, .str p0), (1, .int .i64 p1), (10, .bool (decide (p1 < (0 : Int))))] H (noU_all rfl) (fun fr => by kernel_rfl) ?_
 intro fr H
 refine at_nil ?_
 show AW cfg 106 g (right (left (right (bodyC cfg.P 106)))) fr h _
 rcases iteB_some hm with ⟨hb, hm⟩ | ⟨hb, hm⟩
 ·replace H := H.know 10 hb (by kernel_rfl)
  refine aw_true (x := .tmp 10) (by kernel_rfl) H (fun fr => by kernel_rfl) ?_
  refine aw_seq (by kernel_rfl) ?_
  refine aw_reg (id := 2) (n := 3) [(0, []), (1, []), (2, [])] (by kernel_rfl) (by kernel_rfl) ?_
  refine at_seg [(0, []), (1, []), (2, [])] [(4, .str ([] : List UInt8)), (5, .str ([] : List UInt8)), (6, .bool false)] H (noU_all rfl) (fun fr => by kernel_rfl) ?_
  intro fr H
  refine at_nil ?_
  show AW cfg 106 g (right (left (right (left (right (bodyC cfg.P 106)))))) fr h _
  refine aw_ret (by kernel_rfl) ?_
  have e0 := Option.some.inj hm
  obtain ⟨y0, z0⟩ := Prod.mk.inj e0
  obtain ⟨y1, z1⟩ := Prod.mk.inj z0
  subst y0
  subst y1
  subst z1
  refine ⟨.inl rfl, .tuple [.str ([] : List UInt8), .str ([] : List UInt8), .bool false], resH H (fun fr => by kernel_rfl), ?_⟩
  exact ⟨rfl, A⟩
 ·replace H := H.know 10 hb (by kernel_rfl)
  refine aw_false (x := .tmp 10) (by kernel_rfl) H (fun fr => by kernel_rfl) ?_
  refine aw_skip (by kernel_rfl) ?_
  show AW cfg 106 g (right (right (bodyC cfg.P 106))) fr h _
  refine aw_seq (by kernel_rfl) ?_
  refine aw_reg (id := 3) (n := 1) [(0, [])] (by kernel_rfl) (by kernel_rfl) ?_
  refine at_seg [(0, [])] [(0, .str p0), (1, .int .i64 p1), (7, .int .i64 (0 : Int))] H (noU_all rfl) (fun fr => by kernel_rfl) ?_
  intro fr H
  refine at_nil ?_
  show AW cfg 106 g (right (right (right (bodyC cfg.P 106)))) fr h _
  refine aw_seq (by kernel_rfl) ?_
  refine aw_block (id := 0) (by kernel_rfl) ?_
  obtain ⟨o1, ho, hm⟩ := bind_some hm
  refine aw_mono (Q' := fun e fr' h' => (∃ (x3 : Int), e = .exit 0 ∧ .inl x3 = o1 ∧ Has fr' 37 [(0, .str p0), (7, .int .i64 x3)] ∧ HH g h' [] F) ∨ (∃ (x4 : List UInt8) (x5 : List UInt8) (x6 : Bool), e = .ret ∧ .inr (x4, x5, x6) = o1 ∧ Has fr' 37 [(4, .str x4), (5, .str x5), (6, .bool x6)] ∧ HH g h' [] F) ∨ False) ?_ ?_
  ·refine aw_loop (by kernel_rfl) (fun (s : Int × Int) fr' h' => ∃ (x1 : Int) (x2 : Int), (x1, x2) = s ∧ Has fr' 37 [(0, .str p0), (1, .int .i64 x1), (7, .int .i64 x2)] ∧ HH g h' [] F) ho ⟨p1, (0 : Int), rfl, H.less _ (fun fr => by kernel_rfl), A⟩ ?_
   clear ho hm H A
   intro s q fr h1 hI hm
   obtain ⟨x1, x2, rfl, H, A⟩ := hI
   unfold M_exfile_Cut_L0 at hm
   refine aw_seq (by kernel_rfl) ?_
   refine aw_seq (by kernel_rfl) ?_
   refine aw_reg (id := 4) (n := 2) [(0, []), (1, [])] (by kernel_rfl) (by kernel_rfl) ?_
   refine at_seg [(0, []), (1, [])] [(0, .str p0), (1, .int .i64 x1), (7, .int .i64 x2), (12, .bool (decide (x1 > (0 : Int))))] H (noU_all rfl) (fun fr => by kernel_rfl) ?_
   intro fr H
   refine at_nil ?_
   show AW cfg 106 g (right (left (left (left (left (right (right (right (bodyC cfg.P 106))))))))) fr h1 _
   rcases iteB_some hm with ⟨hb, hm⟩ | ⟨hb, hm⟩
   ·replace H := H.know 12 hb (by kernel_rfl)
    refine aw_true (x := .tmp 12) (by kernel_rfl) H (fun fr => by kernel_rfl) ?_
    refine aw_skip (by kernel_rfl) ?_
    show AW cfg 106 g (right (left (left (left (right (right (right (bodyC cfg.P 106)))))))) fr h1 _
    refine aw_seq (by kernel_rfl) ?_
    obtain ⟨o2, ho, hm⟩ := bind_some hm
    refine aw_mono (Q' := fun e fr' h' => (∃ (x7 : Int), e = .normal ∧ .inl x7 = o2 ∧ Has fr' 37 [(0, .str p0), (1, .int .i64 x1), (7, .int .i64 x7)] ∧ HH g h' [] F) ∨ (∃ (x8 : List UInt8) (x9 : List UInt8) (x10 : Bool), e = .ret ∧ .inr (x8, x9, x10) = o2 ∧ Has fr' 37 [(4, .str x8), (5, .str x9), (6, .bool x10)] ∧ HH g h' [] F) ∨ False) ?_ ?_
    ·replace hm := ho
     clear ho
     refine aw_block (id := 1) (by kernel_rfl) ?_
     refine aw_seq (by kernel_rfl) ?_
     refine aw_seq (by kernel_rfl) ?_
     refine aw_reg (id := 6) (n := 4) [(0, []), (1, []), (2, []), (3, [])] (by kernel_rfl) (by kernel_rfl) ?_
     refine at_seg [(0, []), (1, []), (2, []), (3, [])] [(0, .str p0), (1, .int .i64 x1), (7, .int .i64 x2), (18, .bool (x2 == (p0.length : Int)))] H (noU_all rfl) (fun fr => by kernel_rfl) ?_
     intro fr H
     refine at_nil ?_
     show AW cfg 106 g (right (left (left (left (right (left (left (left (right (right (right (bodyC cfg.P 106)))))))))))) fr h1 _
     rcases iteB_some hm with ⟨hb, hm⟩ | ⟨hb, hm⟩
     ·replace H := H.know 18 hb (by kernel_rfl)
      refine aw_true (x := .tmp 18) (by kernel_rfl) H (fun fr => by kernel_rfl) ?_
      refine aw_seq (by kernel_rfl) ?_
      refine aw_reg (id := 7) (n := 3) [(0, []), (1, []), (2, [])] (by kernel_rfl) (by kernel_rfl) ?_
      refine at_seg [(0, []), (1, []), (2, [])] [(4, .str ([] : List UInt8)), (5, .str ([] : List UInt8)), (6, .bool false)] H (noU_all rfl) (fun fr => by kernel_rfl) ?_
      intro fr H
      refine at_nil ?_
      show AW cfg 106 g (right (left (right (left (left (left (right (left (left (left (right (right (right (bodyC cfg.P 106)))))))))))))) fr h1 _
      refine aw_ret (by kernel_rfl) ?_
      exact Or.inr (Or.inl ⟨([] : List UInt8), ([] : List UInt8), false, rfl, Option.some.inj hm, H.less _ (fun fr => by kernel_rfl), A⟩)
     ·replace H := H.know 18 hb (by kernel_rfl)
      refine aw_false (x := .tmp 18) (by kernel_rfl) H (fun fr => by kernel_rfl) ?_
      refine aw_skip (by kernel_rfl) ?_
      show AW cfg 106 g (right (left (left (right (left (left (left (right (right (right (bodyC cfg.P 106))))))))))) fr h1 _
      refine aw_seq (by kernel_rfl) ?_
      refine aw_reg (id := 8) (n := 5) [(0, []), (1, []), (2, []), (3, []), (4, [])] (by kernel_rfl) (by kernel_rfl) ?_
      refine at_seg [(0, []), (1, [])] [(0, .str p0), (1, .int .i64 x1), (7, .int .i64 x2), (19, .str p0), (20, .int .i64 x2)] H (noU_all rfl) (fun fr => by kernel_rfl) ?_
      intro fr H
      obtain ⟨x11, hx, hm⟩ := bind_some hm
      refine at_step (v := .str x11) (h1 := h1) [(0, .str p0), (1, .int .i64 x1), (7, .int .i64 x2), (21, .str x11)] H (fun fr => by kernel_rfl) (fun fr => .of (s_subS (k := .i64) (k' := .i64) (lo := (some x2)) (hi := none) (by kernel_rfl) hx)) ?_
      intro fr t H
      have A1 := A.cut 0
      obtain ⟨x12, hx, hm⟩ := bind_some hm
      obtain ⟨v1, h2, hr, rfl, A1⟩ := ok_strings_IndexByte (av := [.str x11, .int .u8 (10 : Int)]) hx (by kernel_rfl) A1
      replace A : HH g h2 [] F := A.glue0 (n := 0) A1
      refine at_step (v := .int .i64 x12) (h1 := h2) [(0, .str p0), (1, .int .i64 x1), (7, .int .i64 x2), (22, .int .i64 x12)] H (fun fr => by kernel_rfl) (fun fr => Steps.call (by kernel_rfl) hr) ?_
      intro fr t H
      refine at_seg [(4, [])] [(0, .str p0), (1, .int .i64 x1), (7, .int .i64 x2), (8, .int .i64 x12)] H (noU_all rfl) (fun fr => by kernel_rfl) ?_
      intro fr H
      refine at_nil ?_
      show AW cfg 106 g (right (right (left (left (right (left (left (left (right (right (right (bodyC cfg.P 106)))))))))))) fr h2 _
      refine aw_seq (by kernel_rfl) ?_
      refine aw_seq (by kernel_rfl) ?_
      refine aw_reg (id := 9) (n := 2) [(0, []), (1, [])] (by kernel_rfl) (by kernel_rfl) ?_
      refine at_seg [(0, []), (1, [])] [(0, .str p0), (1, .int .i64 x1), (7, .int .i64 x2), (8, .int .i64 x12), (24, .bool (decide (x12 < (0 : Int))))] H (noU_all rfl) (fun fr => by kernel_rfl) ?_
      intro fr H
      refine at_nil ?_
      show AW cfg 106 g (right (left (right (right (left (left (right (left (left (left (right (right (right (bodyC cfg.P 106)))))))))))))) fr h2 _
      rcases iteB_some hm with ⟨hb, hm⟩ | ⟨hb, hm⟩
      ·replace H := H.know 24 hb (by kernel_rfl)
       refine aw_true (x := .tmp 24) (by kernel_rfl) H (fun fr => by kernel_rfl) ?_
       refine aw_seq (by kernel_rfl) ?_
       refine aw_reg (id := 10) (n := 3) [(0, []), (1, []), (2, [])] (by kernel_rfl) (by kernel_rfl) ?_
       refine at_seg [(0, []), (1, []), (2, [])] [(0, .str p0), (1, .int .i64 x1), (7, .int .i64 (p0.length : Int))] H (noU_all rfl) (fun fr => by kernel_rfl) ?_
       intro fr H
       refine at_nil ?_
       show AW cfg 106 g (right (left (right (left (right (right (left (left (right (left (left (left (right (right (right (bodyC cfg.P 106)))))))))))))))) fr h2 _
       refine aw_exit (i := 1) (by kernel_rfl) ?_
       exact Or.inl ⟨(p0.length : Int), rfl, Option.some.inj hm, H.less _ (fun fr => by kernel_rfl), A⟩
      ·replace H := H.know 24 hb (by kernel_rfl)
       refine aw_false (x := .tmp 24) (by kernel_rfl) H (fun fr => by kernel_rfl) ?_
       refine aw_skip (by kernel_rfl) ?_
       show AW cfg 106 g (right (right (right (left (left (right (left (left (left (right (right (right (bodyC cfg.P 106))))))))))))) fr h2 _
       refine aw_reg (id := 11) (n := 5) [(0, []), (1, []), (2, []), (3, []), (4, [])] (by kernel_rfl) (by kernel_rfl) ?_
       refine at_seg [(0, []), (1, []), (2, []), (3, []), (4, [])] [(0, .str p0), (1, .int .i64 x1), (7, .int .i64 (IntKind.i64.wrap (x2 + (IntKind.i64.wrap (x12 + (1 : Int))))))] H (noU_all rfl) (fun fr => by kernel_rfl) ?_
       intro fr H
       refine at_nil ?_
       exact Or.inl ⟨IntKind.i64.wrap (x2 + (IntKind.i64.wrap (x12 + (1 : Int)))), rfl, Option.some.inj hm, H.less _ (fun fr => by kernel_rfl), A⟩
    ·clear ho
     clear A
     intro e fr h3 hQ
     rcases hQ with ⟨x7, rfl, rfl, H, A⟩ | ⟨x8, x9, x10, rfl, rfl, H, A⟩ | hF
     ·skip
      show AW cfg 106 g (right (right (left (left (left (right (right (right (bodyC cfg.P 106))))))))) fr h3 _
      refine aw_reg (id := 5) (n := 3) [(0, []), (1, []), (2, [])] (by kernel_rfl) (by kernel_rfl) ?_
      refine at_seg [(0, []), (1, []), (2, [])] [(0, .str p0), (1, .int .i64 (IntKind.i64.wrap (x1 - (1 : Int)))), (7, .int .i64 x7)] H (noU_all rfl) (fun fr => by kernel_rfl) ?_
      intro fr H
      refine at_nil ?_
      exact Exists.intro (IntKind.i64.wrap (x1 - (1 : Int)), x7) (And.intro (Option.some.inj hm).symm ⟨IntKind.i64.wrap (x1 - (1 : Int)), x7, rfl, H.less _ (fun fr => by kernel_rfl), A⟩)
     ·skip
      exact Exists.intro _ (And.intro (Option.some.inj hm).symm (fun e => Or.inr (Or.inl ⟨x8, x9, x10, rfl, e, H.less _ (fun fr => by kernel_rfl), A⟩)))
     ·exact hF.elim
   ·replace H := H.know 12 hb (by kernel_rfl)
    refine aw_false (x := .tmp 12) (by kernel_rfl) H (fun fr => by kernel_rfl) ?_
    refine aw_exit (i := 0) (by kernel_rfl) ?_
    exact Exists.intro _ (And.intro (Option.some.inj hm).symm (fun e => Or.inl ⟨x2, rfl, e, H.less _ (fun fr => by kernel_rfl), A⟩))
  ·clear ho
   clear A
   intro e fr h4 hQ
   rcases hQ with ⟨x3, rfl, rfl, H, A⟩ | ⟨x4, x5, x6, rfl, rfl, H, A⟩ | hF
   ·skip
    show AW cfg 106 g (right (right (right (right (bodyC cfg.P 106))))) fr h4 _
    refine aw_seq (by kernel_rfl) ?_
    refine aw_draw (id := 12) (n := 9) (by kernel_rfl) [(0, []), (1, []), (2, []), (3, []), (4, []), (5, []), (6, []), (7, []), (8, [])] (by kernel_rfl) ?_
    refine at_seg [(0, []), (1, [])] [(0, .str p0), (7, .int .i64 x3), (31, .str p0), (32, .int .i64 x3)] H (noU_all rfl) (fun fr => by kernel_rfl) ?_
    intro fr H
    obtain ⟨x13, hx, hm⟩ := bind_some hm
    refine at_step (v := .str x13) (h1 := h4) [(0, .str p0), (7, .int .i64 x3), (33, .str x13)] H (fun fr => by kernel_rfl) (fun fr => .of (s_subS (k := .i64) (k' := .i64) (lo := none) (hi := (some x3)) (by kernel_rfl) hx)) ?_
    intro fr t H
    refine at_seg [(3, []), (4, [])] [(33, .str x13), (34, .str p0), (35, .int .i64 x3)] H (noU_all rfl) (fun fr => by kernel_rfl) ?_
    intro fr H
    obtain ⟨x14, hx, hm⟩ := bind_some hm
    refine at_step (v := .str x14) (h1 := h4) [(33, .str x13), (36, .str x14)] H (fun fr => by kernel_rfl) (fun fr => .of (s_subS (k := .i64) (k' := .i64) (lo := (some x3)) (hi := none) (by kernel_rfl) hx)) ?_
    intro fr t H
    refine at_seg [(6, []), (7, []), (8, [])] [(4, .str x13), (5, .str x14), (6, .bool true)] H (noU_all rfl) (fun fr => by kernel_rfl) ?_
    intro fr H
    refine at_nil ?_
    show AW cfg 106 g (right (right (right (right (right (bodyC cfg.P 106)))))) fr h4 _
    refine aw_ret (by kernel_rfl) ?_
    have e0 := Option.some.inj hm
    obtain ⟨y0, z0⟩ := Prod.mk.inj e0
    obtain ⟨y1, z1⟩ := Prod.mk.inj z0
    subst y0
    subst y1
    subst z1
    refine ⟨.inl rfl, .tuple [.str x13, .str x14, .bool true], resH H (fun fr => by kernel_rfl), ?_⟩
    exact ⟨rfl, A⟩
   ·skip
    have e0 := Option.some.inj hm
    obtain ⟨y0, z0⟩ := Prod.mk.inj e0
    obtain ⟨y1, z1⟩ := Prod.mk.inj z0
    subst y0
    subst y1
    subst z1
    refine ⟨.inl rfl, .tuple [.str x4, .str x5, .bool x6], resH H (fun fr => by kernel_rfl), ?_⟩
    exact ⟨rfl, A⟩
   ·exact hF.elim
/-! ### strings.Lines -/
noncomputable def M_strings_Lines (p0 : List UInt8) : Option ((List UInt8)) :=
 some p0
theorem ok_strings_Lines {g : Gd} {h : AHeap} {F : List Ck} {p0 : List UInt8} {q0_10 : List UInt8} {av : List AVal} (hm : M_strings_Lines p0 = some q0_10) (hc : canL (cfg.still 107) av = [.str p0]) (A : HH g h [] F) : ∃ v h', Runs cfg g h 107 av v h' ∧ ∃ (bq0_10 : Nat), v = .func (.func 144) [] [.ptr (some (bq0_10, 0))] ∧ HH g h' [.obj bq0_10 (.cells none 2 [.str q0_10])] F := by
 refine runsQ1 (n := 4) (rs := [.tmp 2]) (by kernel_rfl) hc (by kernel_rfl) ?_
 clear hc
 unfold M_strings_Lines at hm
 refine start (n := 4) [(0, .str p0)] (by kernel_rfl) (by kernel_rfl) ?_
 intro fr H
 refine aw_seq (by kernel_rfl) ?_
 refine aw_reg (id := 0) (n := 2) [(0, []), (1, [])] (by kernel_rfl) (by kernel_rfl) ?_
 obtain ⟨h1, e1⟩ : ∃ x, x = h.push (.cells none 2 [.str p0]) := ⟨_, rfl⟩
 replace A := (A.push _).to e1
 refine at_step (v := .ptr (some (h.size, 0))) (h1 := h1) [(1, .ptr (some (h.size, 0)))] H (fun fr => by kernel_rfl) (fun fr => .of (s_n' (by kernel_rfl) (congrArg some e1.symm))) ?_
 intro fr t H
 refine at_seg [(1, [])] [(1, .ptr (some (h.size, 0)))] H (noU_all rfl) (fun fr => by kernel_rfl) ?_
 intro fr H
 refine at_nil ?_
 show AW cfg 107 g (right (bodyC cfg.P 107)) fr h1 _
 refine aw_seq (by kernel_rfl) ?_
 refine aw_reg (id := 1) (n := 2) [(0, []), (1, [])] (by kernel_rfl) (by kernel_rfl) ?_
 refine at_seg [(0, []), (1, [])] [(2, .func (.func 144) [] [.ptr (some (h.size, 0))])] H (noU_all rfl) (fun fr => by kernel_rfl) ?_
 intro fr H
 refine at_nil ?_
 show AW cfg 107 g (right (right (bodyC cfg.P 107))) fr h1 _
 refine aw_ret (by kernel_rfl) ?_
 have e1 := Option.some.inj hm
 subst e1
 refine ⟨.inl rfl, .func (.func 144) [] [.ptr (some (h.size, 0))], resH H (fun fr => by kernel_rfl), ?_⟩
 exact ⟨h.size, rfl, A⟩
/-! ### strings.Lines$1 -/
noncomputable def M_strings_Lines_1_sYP_L0 {SY RY : Type} (Y : SY → (List UInt8) → Option (SY ⊕ RY)) (s : (List UInt8) × (SY ⊕ RY)) : Option (((List UInt8) × (SY ⊕ RY)) ⊕ (((List UInt8) × (SY ⊕ RY)) ⊕ ((List UInt8) × (SY ⊕ RY)))) :=
 match s with
 | (x1, y1) => iteB (decide ((x1.length : Int) > (0 : Int))) (((M_strings_IndexByte x1 (10 : Int)).bind fun x6 => iteB (decide (x6 ≥ (0 : Int))) ((subS x1 none (some (IntKind.i64.wrap (x6 + (1 : Int))))).bind fun x7 => (subS x1 (some (IntKind.i64.wrap (x6 + (1 : Int)))) none).bind fun x8 => some (x8, x7)) (some (([] : List UInt8), x1)) : Option (((List UInt8) × (List UInt8)))).bind fun (x4, x5) => (yld Y y1 x5).bind fun (x9, y4) => iteB (!x9) (some (.inr (.inr (x4, y4)))) (some (.inl (x4, y4)))) (some (.inr (.inl (x1, y1))))
noncomputable def M_strings_Lines_1_sYP {SY RY : Type} (Y : SY → (List UInt8) → Option (SY ⊕ RY)) (y : SY ⊕ RY) (p1 : List UInt8) : Option ((List UInt8) × (SY ⊕ RY)) :=
 (loop (M_strings_Lines_1_sYP_L0 Y) (p1, y)).bind fun o1 => (match o1 with | .inl (x2, y2) => some (x2, y2) | .inr (x3, y3) => some (x3, y3))
theorem ok_strings_Lines_1_sYP {g : Gd} {h : AHeap} {F : List Ck} {SY RY : Type} {R : SY ⊕ RY → List Ck → Prop} {Y : SY → (List UInt8) → Option (SY ⊕ RY)} {y : SY ⊕ RY} {p1 : List UInt8} {l : Nat} {bp1 : Nat} {u0 : List UInt8} {yq : SY ⊕ RY} {av : List AVal} (hm : M_strings_Lines_1_sYP Y y p1 = some (u0, yq)) (hc : canL (cfg.still 144) av = [.yfn l, .ptr (some (bp1, 0))]) (hYR : YR cfg g l (fun x => [.str x]) Y R) (B : R y F) (A : HH g h [.obj bp1 (.cells none 2 [.str p1])] F) : ∃ v h', Runs cfg g h 144 av v h' ∧ v = .tuple [] ∧ ∃ F, R yq F ∧ HH g h' [.obj bp1 (.cells none 2 [.str u0])] F := by
 refine runsQ1 (n := 25) (rs := []) (by kernel_rfl) hc (by kernel_rfl) ?_
 clear hc
 unfold M_strings_Lines_1_sYP at hm
 refine start (n := 25) [(0, .yfn l), (1, .ptr (some (bp1, 0)))] (by kernel_rfl) (by kernel_rfl) ?_
 intro fr H
 refine aw_block (id := 0) (by kernel_rfl) ?_
 obtain ⟨o1, ho, hm⟩ := bind_some hm
 refine aw_mono (Q' := fun e fr' h' => (∃ (x2 : List UInt8) (y2 : SY ⊕ RY), e = .exit 0 ∧ .inl (x2, y2) = o1 ∧ Has fr' 25 [] ∧ ∃ F, R y2 F ∧ HH g h' [.obj bp1 (.cells none 2 [.str x2])] F) ∨ (∃ (x3 : List UInt8) (y3 : SY ⊕ RY), e = .ret ∧ .inr (x3, y3) = o1 ∧ Has fr' 25 [] ∧ ∃ F, R y3 F ∧ HH g h' [.obj bp1 (.cells none 2 [.str x3])] F) ∨ False) ?_ ?_
 ·refine aw_loop (by kernel_rfl) (fun (s : (List UInt8) × (SY ⊕ RY)) fr' h' => ∃ (x1 : List UInt8) (y1 : SY ⊕ RY), (x1, y1) = s ∧ Has fr' 25 [(0, .yfn l), (1, .ptr (some (bp1, 0)))] ∧ ∃ F, R y1 F ∧ HH g h' [.obj bp1 (.cells none 2 [.str x1])] F) ho ⟨p1, y, rfl, H.less _ (fun fr => by kernel_rfl), ⟨F, B, A⟩⟩ ?_
  clear ho hm H A
  intro s q fr h1 hI hm
  obtain ⟨x1, y1, rfl, H, ⟨F, B, A⟩⟩ := hI
  unfold M_strings_Lines_1_sYP_L0 at hm
  refine aw_seq (by kernel_rfl) ?_
  refine aw_seq (by kernel_rfl) ?_
  refine aw_reg (id := 0) (n := 3) [(0, []), (1, []), (2, [])] (by kernel_rfl) (by kernel_rfl) ?_
  refine at_step (v := .str x1) (h1 := h1) [(0, .yfn l), (1, .ptr (some (bp1, 0))), (5, .str x1)] H (fun fr => by kernel_rfl) (fun fr => .of (s_ld (by kernel_rfl) (A.ld1 0 rfl (o := 0) rfl))) ?_
  intro fr t H
  refine at_seg [(1, []), (2, [])] [(0, .yfn l), (1, .ptr (some (bp1, 0))), (7, .bool (decide ((x1.length : Int) > (0 : Int))))] H (noU_all rfl) (fun fr => by kernel_rfl) ?_
  intro fr H
  refine at_nil ?_
  show AW cfg 144 g (right (left (left (left (bodyC cfg.P 144))))) fr h1 _
  rcases iteB_some hm with ⟨hb, hm⟩ | ⟨hb, hm⟩
  ·replace H := H.know 7 hb (by kernel_rfl)
   refine aw_true (x := .tmp 7) (by kernel_rfl) H (fun fr => by kernel_rfl) ?_
   refine aw_skip (by kernel_rfl) ?_
   show AW cfg 144 g (right (left (left (bodyC cfg.P 144)))) fr h1 _
   refine aw_block (id := 1) (by kernel_rfl) ?_
   refine aw_seq (by kernel_rfl) ?_
   refine aw_reg (id := 1) (n := 1) [(0, [])] (by kernel_rfl) (by kernel_rfl) ?_
   refine at_seg [(0, [])] [(0, .yfn l), (1, .ptr (some (bp1, 0)))] H (noU_all rfl) (fun fr => by kernel_rfl) ?_
   intro fr H
   refine at_nil ?_
   show AW cfg 144 g (right (left (right (left (left (bodyC cfg.P 144)))))) fr h1 _
   refine aw_seq (by kernel_rfl) ?_
   obtain ⟨o2, ho, hm⟩ := bind_some hm
   refine aw_mono (Q' := fun e fr' h' => (∃ (x4 : List UInt8) (x5 : List UInt8), e = .normal ∧ (x4, x5) = o2 ∧ Has fr' 25 [(0, .yfn l), (1, .ptr (some (bp1, 0))), (3, .str x5)] ∧ ∃ F, R y1 F ∧ HH g h' [.obj bp1 (.cells none 2 [.str x4])] F) ∨ False) ?_ ?_
   ·replace hm := ho
    clear ho
    refine aw_seq (by kernel_rfl) ?_
    refine aw_reg (id := 2) (n := 3) [(0, []), (1, []), (2, [])] (by kernel_rfl) (by kernel_rfl) ?_
    refine at_step (v := .str x1) (h1 := h1) [(0, .yfn l), (1, .ptr (some (bp1, 0))), (8, .str x1)] H (fun fr => by kernel_rfl) (fun fr => .of (s_ld (by kernel_rfl) (A.ld1 0 rfl (o := 0) rfl))) ?_
    intro fr t H
    have A1 := A.cut 0
    obtain ⟨x6, hx, hm⟩ := bind_some hm
    obtain ⟨v1, h2, hr, rfl, A1⟩ := ok_strings_IndexByte (av := [.str x1, .int .u8 (10 : Int)]) hx (by kernel_rfl) A1
    replace A : HH g h2 [.obj bp1 (.cells none 2 [.str x1])] F := A.glue0 (n := 0) A1
    refine at_step (v := .int .i64 x6) (h1 := h2) [(0, .yfn l), (1, .ptr (some (bp1, 0))), (9, .int .i64 x6)] H (fun fr => by kernel_rfl) (fun fr => Steps.call (by kernel_rfl) hr) ?_
    intro fr t H
    refine at_seg [(2, [])] [(0, .yfn l), (1, .ptr (some (bp1, 0))), (4, .int .i64 x6)] H (noU_all rfl) (fun fr => by kernel_rfl) ?_
    intro fr H
    refine at_nil ?_
    show AW cfg 144 g (right (left (right (left (right (left (left (bodyC cfg.P 144)))))))) fr h2 _
    refine aw_seq (by kernel_rfl) ?_
    refine aw_reg (id := 3) (n := 2) [(0, []), (1, [])] (by kernel_rfl) (by kernel_rfl) ?_
    refine at_seg [(0, []), (1, [])] [(0, .yfn l), (1, .ptr (some (bp1, 0))), (4, .int .i64 x6), (11, .bool (decide (x6 ≥ (0 : Int))))] H (noU_all rfl) (fun fr => by kernel_rfl) ?_
    intro fr H
    refine at_nil ?_
    show AW cfg 144 g (right (right (left (right (left (right (left (left (bodyC cfg.P 144))))))))) fr h2 _
    rcases iteB_some hm with ⟨hb, hm⟩ | ⟨hb, hm⟩
    ·replace H := H.know 11 hb (by kernel_rfl)
     refine aw_true (x := .tmp 11) (by kernel_rfl) H (fun fr => by kernel_rfl) ?_
     refine aw_draw (id := 4) (n := 10) (by kernel_rfl) [(0, []), (1, []), (2, []), (3, []), (4, []), (5, []), (6, []), (7, []), (8, []), (9, [])] (by kernel_rfl) ?_
     refine at_step (v := .str x1) (h1 := h2) [(0, .yfn l), (1, .ptr (some (bp1, 0))), (4, .int .i64 x6), (12, .str x1)] H (fun fr => by kernel_rfl) (fun fr => .of (s_ld (by kernel_rfl) (A.ld1 0 rfl (o := 0) rfl))) ?_
     intro fr t H
     refine at_seg [(1, []), (2, [])] [(0, .yfn l), (1, .ptr (some (bp1, 0))), (4, .int .i64 x6), (12, .str x1), (14, .int .i64 (IntKind.i64.wrap (x6 + (1 : Int))))] H (noU_all rfl) (fun fr => by kernel_rfl) ?_
     intro fr H
     obtain ⟨x7, hx, hm⟩ := bind_some hm
     refine at_step (v := .str x7) (h1 := h2) [(0, .yfn l), (1, .ptr (some (bp1, 0))), (4, .int .i64 x6), (15, .str x7)] H (fun fr => by kernel_rfl) (fun fr => .of (s_subS (k := .i64) (k' := .i64) (lo := none) (hi := (some (IntKind.i64.wrap (x6 + (1 : Int))))) (by kernel_rfl) hx)) ?_
     intro fr t H
     refine at_step (v := .str x1) (h1 := h2) [(0, .yfn l), (1, .ptr (some (bp1, 0))), (4, .int .i64 x6), (15, .str x7), (16, .str x1)] H (fun fr => by kernel_rfl) (fun fr => .of (s_ld (by kernel_rfl) (A.ld1 0 rfl (o := 0) rfl))) ?_
     intro fr t H
     refine at_seg [(5, []), (6, [])] [(0, .yfn l), (1, .ptr (some (bp1, 0))), (15, .str x7), (16, .str x1), (18, .int .i64 (IntKind.i64.wrap (x6 + (1 : Int))))] H (noU_all rfl) (fun fr => by kernel_rfl) ?_
     intro fr H
     obtain ⟨x8, hx, hm⟩ := bind_some hm
     refine at_step (v := .str x8) (h1 := h2) [(0, .yfn l), (1, .ptr (some (bp1, 0))), (15, .str x7), (19, .str x8)] H (fun fr => by kernel_rfl) (fun fr => .of (s_subS (k := .i64) (k' := .i64) (lo := (some (IntKind.i64.wrap (x6 + (1 : Int))))) (hi := none) (by kernel_rfl) hx)) ?_
     intro fr t H
     refine at_seg [(8, [])] [(0, .yfn l), (1, .ptr (some (bp1, 0))), (3, .str x7), (19, .str x8)] H (noU_all rfl) (fun fr => by kernel_rfl) ?_
     intro fr H
     obtain ⟨h3, hx, A1⟩ := A.st 0 rfl (o := 0) (new := [.str x8]) (ds := [.str x8]) (Nat.le_of_ble_eq_true rfl) rfl rfl
     replace A : HH g h3 [.obj bp1 (.cells none 2 [.str x8])] F := A1
     refine at_step (v := .tuple []) (h1 := h3) [(0, .yfn l), (1, .ptr (some (bp1, 0))), (3, .str x7)] H (fun fr => by kernel_rfl) (fun fr => .of (s_st (by kernel_rfl) rfl hx)) ?_
     intro fr t H
     refine at_nil ?_
     exact Or.inl ⟨x8, x7, rfl, Option.some.inj hm, H.less _ (fun fr => by kernel_rfl), ⟨F, B, A⟩⟩
    ·replace H := H.know 11 hb (by kernel_rfl)
     refine aw_false (x := .tmp 11) (by kernel_rfl) H (fun fr => by kernel_rfl) ?_
     refine aw_reg (id := 5) (n := 3) [(0, []), (1, []), (2, [])] (by kernel_rfl) (by kernel_rfl) ?_
     refine at_step (v := .str x1) (h1 := h2) [(0, .yfn l), (1, .ptr (some (bp1, 0))), (20, .str x1)] H (fun fr => by kernel_rfl) (fun fr => .of (s_ld (by kernel_rfl) (A.ld1 0 rfl (o := 0) rfl))) ?_
     intro fr t H
     refine at_seg [(1, [])] [(0, .yfn l), (1, .ptr (some (bp1, 0))), (3, .str x1)] H (noU_all rfl) (fun fr => by kernel_rfl) ?_
     intro fr H
     obtain ⟨h4, hx, A1⟩ := A.st 0 rfl (o := 0) (new := [.str ([] : List UInt8)]) (ds := [.str ([] : List UInt8)]) (Nat.le_of_ble_eq_true rfl) rfl rfl
     replace A : HH g h4 [.obj bp1 (.cells none 2 [.str ([] : List UInt8)])] F := A1
     refine at_step (v := .tuple []) (h1 := h4) [(0, .yfn l), (1, .ptr (some (bp1, 0))), (3, .str x1)] H (fun fr => by kernel_rfl) (fun fr => .of (s_st (by kernel_rfl) rfl hx)) ?_
     intro fr t H
     refine at_nil ?_
     exact Or.inl ⟨([] : List UInt8), x1, rfl, Option.some.inj hm, H.less _ (fun fr => by kernel_rfl), ⟨F, B, A⟩⟩
   ·clear ho
    clear A
    intro e fr h5 hQ
    rcases hQ with ⟨x4, x5, rfl, rfl, H, ⟨F, B, A⟩⟩ | hF
    ·skip
     show AW cfg 144 g (right (right (left (right (left (left (bodyC cfg.P 144))))))) fr h5 _
     refine aw_seq (by kernel_rfl) ?_
     refine aw_reg (id := 6) (n := 4) [(0, []), (1, []), (2, []), (3, [])] (by kernel_rfl) (by kernel_rfl) ?_
     refine at_seg [(0, []), (1, [])] [(0, .yfn l), (1, .ptr (some (bp1, 0))), (21, .yfn l), (22, .str x5)] H (noU_all rfl) (fun fr => by kernel_rfl) ?_
     intro fr H
     obtain ⟨⟨x9, y4⟩, hx, hm⟩ := bind_some hm
     obtain ⟨h6, F, hr, B, A⟩ := hYR.yld (pr := []) .nil A B hx
     refine at_step (v := .bool x9) (h1 := h6) [(0, .yfn l), (1, .ptr (some (bp1, 0))), (23, .bool x9)] H (fun fr => by kernel_rfl) (fun fr => Steps.round (by kernel_rfl) hr) ?_
     intro fr t H
     refine at_seg [(3, [])] [(0, .yfn l), (1, .ptr (some (bp1, 0))), (24, .bool (!x9))] H (noU_all rfl) (fun fr => by kernel_rfl) ?_
     intro fr H
     refine at_nil ?_
     show AW cfg 144 g (right (right (right (left (right (left (left (bodyC cfg.P 144)))))))) fr h6 _
     rcases iteB_some hm with ⟨hb, hm⟩ | ⟨hb, hm⟩
     ·replace H := H.know 24 hb (by kernel_rfl)
      refine aw_true (x := .tmp 24) (by kernel_rfl) H (fun fr => by kernel_rfl) ?_
      refine aw_ret (by kernel_rfl) ?_
      exact Exists.intro _ (And.intro (Option.some.inj hm).symm (fun e => Or.inr (Or.inl ⟨x4, y4, rfl, e, H.less _ (fun fr => by kernel_rfl), ⟨F, B, A⟩⟩)))
     ·replace H := H.know 24 hb (by kernel_rfl)
      refine aw_false (x := .tmp 24) (by kernel_rfl) H (fun fr => by kernel_rfl) ?_
      refine aw_skip (by kernel_rfl) ?_
      exact Exists.intro (x4, y4) (And.intro (Option.some.inj hm).symm ⟨x4, y4, rfl, H.less _ (fun fr => by kernel_rfl), ⟨F, B, A⟩⟩)
    ·exact hF.elim
  ·replace H := H.know 7 hb (by kernel_rfl)
   refine aw_false (x := .tmp 7) (by kernel_rfl) H (fun fr => by kernel_rfl) ?_
   refine aw_exit (i := 0) (by kernel_rfl) ?_
   exact Exists.intro _ (And.intro (Option.some.inj hm).symm (fun e => Or.inl ⟨x1, y1, rfl, e, H.less _ (fun fr => by kernel_rfl), ⟨F, B, A⟩⟩))
 ·clear ho
  clear A
  intro e fr h7 hQ
  rcases hQ with ⟨x2, y2, rfl, rfl, H, ⟨F, B, A⟩⟩ | ⟨x3, y3, rfl, rfl, H, ⟨F, B, A⟩⟩ | hF
  ·skip
   have e0 := Option.some.inj hm
   obtain ⟨y0, z0⟩ := Prod.mk.inj e0
   subst y0
   subst z0
   refine ⟨.inr rfl, .tuple [], resH H (fun fr => by kernel_rfl), ?_⟩
   exact ⟨rfl, ⟨F, B, A⟩⟩
  ·skip
   have e0 := Option.some.inj hm
   obtain ⟨y0, z0⟩ := Prod.mk.inj e0
   subst y0
   subst z0
   refine ⟨.inl rfl, .tuple [], resH H (fun fr => by kernel_rfl), ?_⟩
   exact ⟨rfl, ⟨F, B, A⟩⟩
  ·exact hF.elim
/-! ### internal/stringslite.HasSuffix -/
noncomputable def M_stringslite_HasSuffix (p0 : List UInt8) (p1 : List UInt8) : Option (Bool) :=
 (iteB (decide ((p0.length : Int) ≥ (p1.length : Int))) ((subS p0 (some (IntKind.i64.wrap ((p0.length : Int) - (p1.length : Int)))) none).bind fun x2 => some (x2 == p1)) (some false) : Option (Bool)).bind fun x1 => some x1
theorem ok_stringslite_HasSuffix {g : Gd} {h : AHeap} {F : List Ck} {p0 : List UInt8} {p1 : List UInt8} {q0 : Bool} {av : List AVal} (hm : M_stringslite_HasSuffix p0 p1 = some q0) (hc : canL (cfg.still 181) av = [.str p0, .str p1]) (A : HH g h [] F) : ∃ v h', Runs cfg g h 181 av v h' ∧ v = .bool q0 ∧ HH g h' [] F := by
 refine runsQ1 (n := 21) (rs := [.tmp 4]) (by kernel_rfl) hc (by kernel_rfl) ?_
 clear hc
 unfold M_stringslite_HasSuffix at hm
 refine start (n := 21) [(0, .str p0), (1, .str p1)] (by kernel_rfl) (by kernel_rfl) ?_
 intro fr H
 refine aw_seq (by kernel_rfl) ?_
 refine aw_reg (id := 0) (n := 1) [(0, [])] (by kernel_rfl) (by kernel_rfl) ?_
 refine at_seg [(0, [])] [(0, .str p0), (1, .str p1)] H (noU_all rfl) (fun fr => by kernel_rfl) ?_
 intro fr H
 refine at_nil ?_
 show AW cfg 181 g (right (bodyC cfg.P 181)) fr h _
 refine aw_seq (by kernel_rfl) ?_
 refine aw_reg (id := 1) (n := 17) [(0, []), (1, []), (2, []), (3, []), (4, []), (5, []), (6, []), (7, []), (8, []), (9, []), (10, []), (11, []), (12, []), (13, []), (14, []), (15, []), (16, [])] (by kernel_rfl) (by kernel_rfl) ?_
 refine at_seg [(0, []), (1, []), (2, []), (3, []), (4, []), (5, [])] [(0, .str p0), (1, .str p1), (10, .bool (decide ((p0.length : Int) ≥ (p1.length : Int))))] H (noU_all rfl) (fun fr => by kernel_rfl) ?_
 intro fr H
 obtain ⟨x1, ho, hm⟩ := bind_some hm
 refine at_cut [(6, []), (7, []), (8, []), (9, []), (10, []), (11, []), (12, []), (13, []), (14, []), (15, [])] (fun fr' h' => Has fr' 21 [(20, .bool x1)] ∧ HH g h' [] F) ?_ ?_
 ·rcases iteB_some ho with ⟨hb, hm⟩ | ⟨hb, hm⟩
  ·replace H := H.know 10 hb (by kernel_rfl)
   refine at_seg [(6, []), (7, []), (8, []), (9, []), (10, []), (11, [])] [(1, .str p1), (10, .bool true), (11, .str p0), (16, .int .i64 (IntKind.i64.wrap ((p0.length : Int) - (p1.length : Int))))] H (noU_all rfl) (fun fr => by kernel_rfl) ?_
   intro fr H
   obtain ⟨x2, hx, hm⟩ := bind_some hm
   refine at_step (v := .str x2) (h1 := h) [(1, .str p1), (10, .bool true), (17, .str x2)] H (fun fr => by kernel_rfl) (fun fr => .of (s_subS (k := .i64) (k' := .i64) (lo := (some (IntKind.i64.wrap ((p0.length : Int) - (p1.length : Int))))) (hi := none) (by kernel_rfl) hx)) ?_
   intro fr t H
   refine at_seg [(13, []), (14, []), (15, [])] [(20, .bool (x2 == p1))] H (noU_all rfl) (fun fr => by kernel_rfl) ?_
   intro fr H
   have e1 := Option.some.inj hm
   subst e1
   exact at_nil ⟨H.less _ (fun fr => by kernel_rfl), A⟩
  ·replace H := H.know 10 hb (by kernel_rfl)
   refine at_seg [(6, []), (7, []), (8, []), (9, []), (10, []), (11, []), (12, []), (13, []), (14, []), (15, [])] [(20, .bool false)] H (noU_all rfl) (fun fr => by kernel_rfl) ?_
   intro fr H
   have e1 := Option.some.inj hm
   subst e1
   exact at_nil ⟨H.less _ (fun fr => by kernel_rfl), A⟩
 ·clear A
  intro t fr h1 hK
  obtain ⟨H, A⟩ := hK
  refine at_seg [(16, [])] [(4, .bool x1)] H (noU_all rfl) (fun fr => by kernel_rfl) ?_
  intro fr H
  refine at_nil ?_
  show AW cfg 181 g (right (right (bodyC cfg.P 181))) fr h1 _
  refine aw_ret (by kernel_rfl) ?_
  have e1 := Option.some.inj hm
  subst e1
  refine ⟨.inl rfl, .bool x1, resH H (fun fr => by kernel_rfl), ?_⟩
  exact ⟨rfl, A⟩
/-! ### internal/stringslite.TrimSuffix -/
noncomputable def M_stringslite_TrimSuffix (p0 : List UInt8) (p1 : List UInt8) : Option ((List UInt8)) :=
 (M_stringslite_HasSuffix p0 p1).bind fun x1 => iteB x1 ((subS p0 none (some (IntKind.i64.wrap ((p0.length : Int) - (p1.length : Int))))).bind fun x2 => some x2) (some p0)
theorem ok_stringslite_TrimSuffix {g : Gd} {h : AHeap} {F : List Ck} {p0 : List UInt8} {p1 : List UInt8} {q0 : List UInt8} {av : List AVal} (hm : M_stringslite_TrimSuffix p0 p1 = some q0) (hc : canL (cfg.still 152) av = [.str p0, .str p1]) (A : HH g h [] F) : ∃ v h', Runs cfg g h 152 av v h' ∧ v = .str q0 ∧ HH g h' [] F := by
 refine runsQ1 (n := 16) (rs := [.tmp 4]) (by kernel_rfl) hc (by kernel_rfl) ?_
 clear hc
 unfold M_stringslite_TrimSuffix at hm
 refine start (n := 16) [(0, .str p0), (1, .str p1)] (by kernel_rfl) (by kernel_rfl) ?_
 intro fr H
 refine aw_seq (by kernel_rfl) ?_
 refine aw_reg (id := 0) (n := 1) [(0, [])] (by kernel_rfl) (by kernel_rfl) ?_
 refine at_seg [(0, [])] [(0, .str p0), (1, .str p1)] H (noU_all rfl) (fun fr => by kernel_rfl) ?_
 intro fr H
 refine at_nil ?_
 show AW cfg 152 g (right (bodyC cfg.P 152)) fr h _
 refine aw_seq (by kernel_rfl) ?_
 refine aw_seq (by kernel_rfl) ?_
 refine aw_reg (id := 1) (n := 3) [(0, []), (1, []), (2, [])] (by kernel_rfl) (by kernel_rfl) ?_
 refine at_seg [(0, []), (1, [])] [(0, .str p0), (1, .str p1), (5, .str p0), (6, .str p1)] H (noU_all rfl) (fun fr => by kernel_rfl) ?_
 intro fr H
 have A1 := A.cut 0
 obtain ⟨x1, hx, hm⟩ := bind_some hm
 obtain ⟨v1, h1, hr, rfl, A1⟩ := ok_stringslite_HasSuffix (av := [.str p0, .str p1]) hx (by kernel_rfl) A1
 replace A : HH g h1 [] F := A.glue0 (n := 0) A1
 refine at_step (v := .bool x1) (h1 := h1) [(0, .str p0), (1, .str p1), (7, .bool x1)] H (fun fr => by kernel_rfl) (fun fr => Steps.call (by kernel_rfl) hr) ?_
 intro fr t H
 refine at_nil ?_
 show AW cfg 152 g (right (left (right (bodyC cfg.P 152)))) fr h1 _
 rcases iteB_some hm with ⟨hb, hm⟩ | ⟨hb, hm⟩
 ·replace H := H.know 7 hb (by kernel_rfl)
  refine aw_true (x := .tmp 7) (by kernel_rfl) H (fun fr => by kernel_rfl) ?_
  refine aw_seq (by kernel_rfl) ?_
  refine aw_reg (id := 2) (n := 8) [(0, []), (1, []), (2, []), (3, []), (4, []), (5, []), (6, []), (7, [])] (by kernel_rfl) (by kernel_rfl) ?_
  refine at_seg [(0, []), (1, []), (2, []), (3, []), (4, []), (5, [])] [(8, .str p0), (13, .int .i64 (IntKind.i64.wrap ((p0.length : Int) - (p1.length : Int))))] H (noU_all rfl) (fun fr => by kernel_rfl) ?_
  intro fr H
  obtain ⟨x2, hx, hm⟩ := bind_some hm
  refine at_step (v := .str x2) (h1 := h1) [(14, .str x2)] H (fun fr => by kernel_rfl) (fun fr => .of (s_subS (k := .i64) (k' := .i64) (lo := none) (hi := (some (IntKind.i64.wrap ((p0.length : Int) - (p1.length : Int))))) (by kernel_rfl) hx)) ?_
  intro fr t H
  refine at_seg [(7, [])] [(4, .str x2)] H (noU_all rfl) (fun fr => by kernel_rfl) ?_
  intro fr H
  refine at_nil ?_
  show AW cfg 152 g (right (left (right (left (right (bodyC cfg.P 152)))))) fr h1 _
  refine aw_ret (by kernel_rfl) ?_
  have e1 := Option.some.inj hm
  subst e1
  refine ⟨.inl rfl, .str x2, resH H (fun fr => by kernel_rfl), ?_⟩
  exact ⟨rfl, A⟩
 ·replace H := H.know 7 hb (by kernel_rfl)
  refine aw_false (x := .tmp 7) (by kernel_rfl) H (fun fr => by kernel_rfl) ?_
  refine aw_skip (by kernel_rfl) ?_
  show AW cfg 152 g (right (right (bodyC cfg.P 152))) fr h1 _
  refine aw_seq (by kernel_rfl) ?_
  refine aw_reg (id := 3) (n := 2) [(0, []), (1, [])] (by kernel_rfl) (by kernel_rfl) ?_
  refine at_seg [(0, []), (1, [])] [(4, .str p0)] H (noU_all rfl) (fun fr => by kernel_rfl) ?_
  intro fr H
  refine at_nil ?_
  show AW cfg 152 g (right (right (right (bodyC cfg.P 152)))) fr h1 _
  refine aw_ret (by kernel_rfl) ?_
  have e1 := Option.some.inj hm
  subst e1
  refine ⟨.inl rfl, .str p0, resH H (fun fr => by kernel_rfl), ?_⟩
  exact ⟨rfl, A⟩
/-! ### strings.TrimSuffix -/
noncomputable def M_strings_TrimSuffix (p0 : List UInt8) (p1 : List UInt8) : Option ((List UInt8)) :=
 (M_stringslite_TrimSuffix p0 p1).bind fun x1 => some x1
theorem ok_strings_TrimSuffix {g : Gd} {h : AHeap} {F : List Ck} {p0 : List UInt8} {p1 : List UInt8} {q0 : List UInt8} {av : List AVal} (hm : M_strings_TrimSuffix p0 p1 = some q0) (hc : canL (cfg.still 116) av = [.str p0, .str p1]) (A : HH g h [] F) : ∃ v h', Runs cfg g h 116 av v h' ∧ v = .str q0 ∧ HH g h' [] F := by
 refine runsQ1 (n := 8) (rs := [.tmp 4]) (by kernel_rfl) hc (by kernel_rfl) ?_
 clear hc
 unfold M_strings_TrimSuffix at hm
 refine start (n := 8) [(0, .str p0), (1, .str p1)] (by kernel_rfl) (by kernel_rfl) ?_
 intro fr H
 refine aw_seq (by kernel_rfl) ?_
 refine aw_reg (id := 0) (n := 1) [(0, [])] (by kernel_rfl) (by kernel_rfl) ?_
 refine at_seg [(0, [])] [(0, .str p0), (1, .str p1)] H (noU_all rfl) (fun fr => by kernel_rfl) ?_
 intro fr H
 refine at_nil ?_
 show AW cfg 116 g (right (bodyC cfg.P 116)) fr h _
 refine aw_seq (by kernel_rfl) ?_
 refine aw_reg (id := 1) (n := 4) [(0, []), (1, []), (2, []), (3, [])] (by kernel_rfl) (by kernel_rfl) ?_
 refine at_seg [(0, []), (1, [])] [(5, .str p0), (6, .str p1)] H (noU_all rfl) (fun fr => by kernel_rfl) ?_
 intro fr H
 have A1 := A.cut 0
 obtain ⟨x1, hx, hm⟩ := bind_some hm
 obtain ⟨v1, h1, hr, rfl, A1⟩ := ok_stringslite_TrimSuffix (av := [.str p0, .str p1]) hx (by kernel_rfl) A1
 replace A : HH g h1 [] F := A.glue0 (n := 0) A1
 refine at_step (v := .str x1) (h1 := h1) [(7, .str x1)] H (fun fr => by kernel_rfl) (fun fr => Steps.call (by kernel_rfl) hr) ?_
 intro fr t H
 refine at_seg [(3, [])] [(4, .str x1)] H (noU_all rfl) (fun fr => by kernel_rfl) ?_
 intro fr H
 refine at_nil ?_
 show AW cfg 116 g (right (right (bodyC cfg.P 116))) fr h1 _
 refine aw_ret (by kernel_rfl) ?_
 have e1 := Option.some.inj hm
 subst e1
 refine ⟨.inl rfl, .str x1, resH H (fun fr => by kernel_rfl), ?_⟩
 exact ⟨rfl, A⟩
/-! ### internal/stringslite.HasPrefix -/
noncomputable def M_stringslite_HasPrefix (p0 : List UInt8) (p1 : List UInt8) : Option (Bool) :=
 (iteB (decide ((p0.length : Int) ≥ (p1.length : Int))) ((subS p0 none (some (p1.length : Int))).bind fun x2 => some (x2 == p1)) (some false) : Option (Bool)).bind fun x1 => some x1
theorem ok_stringslite_HasPrefix {g : Gd} {h : AHeap} {F : List Ck} {p0 : List UInt8} {p1 : List UInt8} {q0 : Bool} {av : List AVal} (hm : M_stringslite_HasPrefix p0 p1 = some q0) (hc : canL (cfg.still 179) av = [.str p0, .str p1]) (A : HH g h [] F) : ∃ v h', Runs cfg g h 179 av v h' ∧ v = .bool q0 ∧ HH g h' [] F := by
 refine runsQ1 (n := 18) (rs := [.tmp 4]) (by kernel_rfl) hc (by kernel_rfl) ?_
 clear hc
 unfold M_stringslite_HasPrefix at hm
 refine start (n := 18) [(0, .str p0), (1, .str p1)] (by kernel_rfl) (by kernel_rfl) ?_
 intro fr H
 refine aw_seq (by kernel_rfl) ?_
 refine aw_reg (id := 0) (n := 1) [(0, [])] (by kernel_rfl) (by kernel_rfl) ?_
 refine at_seg [(0, [])] [(0, .str p0), (1, .str p1)] H (noU_all rfl) (fun fr => by kernel_rfl) ?_
 intro fr H
 refine at_nil ?_
 show AW cfg 179 g (right (bodyC cfg.P 179)) fr h _
 refine aw_seq (by kernel_rfl) ?_
 refine aw_reg (id := 1) (n := 14) [(0, []), (1, []), (2, []), (3, []), (4, []), (5, []), (6, []), (7, []), (8, []), (9, []), (10, []), (11, []), (12, []), (13, [])] (by kernel_rfl) (by kernel_rfl) ?_
 refine at_seg [(0, []), (1, []), (2, []), (3, []), (4, []), (5, [])] [(0, .str p0), (1, .str p1), (10, .bool (decide ((p0.length : Int) ≥ (p1.length : Int))))] H (noU_all rfl) (fun fr => by kernel_rfl) ?_
 intro fr H
 obtain ⟨x1, ho, hm⟩ := bind_some hm
 refine at_cut [(6, []), (7, []), (8, []), (9, []), (10, []), (11, []), (12, [])] (fun fr' h' => Has fr' 18 [(17, .bool x1)] ∧ HH g h' [] F) ?_ ?_
 ·rcases iteB_some ho with ⟨hb, hm⟩ | ⟨hb, hm⟩
  ·replace H := H.know 10 hb (by kernel_rfl)
   refine at_seg [(6, []), (7, []), (8, [])] [(1, .str p1), (10, .bool true), (11, .str p0), (13, .int .i64 (p1.length : Int))] H (noU_all rfl) (fun fr => by kernel_rfl) ?_
   intro fr H
   obtain ⟨x2, hx, hm⟩ := bind_some hm
   refine at_step (v := .str x2) (h1 := h) [(1, .str p1), (10, .bool true), (14, .str x2)] H (fun fr => by kernel_rfl) (fun fr => .of (s_subS (k := .i64) (k' := .i64) (lo := none) (hi := (some (p1.length : Int))) (by kernel_rfl) hx)) ?_
   intro fr t H
   refine at_seg [(10, []), (11, []), (12, [])] [(17, .bool (x2 == p1))] H (noU_all rfl) (fun fr => by kernel_rfl) ?_
   intro fr H
   have e1 := Option.some.inj hm
   subst e1
   exact at_nil ⟨H.less _ (fun fr => by kernel_rfl), A⟩
  ·replace H := H.know 10 hb (by kernel_rfl)
   refine at_seg [(6, []), (7, []), (8, []), (9, []), (10, []), (11, []), (12, [])] [(17, .bool false)] H (noU_all rfl) (fun fr => by kernel_rfl) ?_
   intro fr H
   have e1 := Option.some.inj hm
   subst e1
   exact at_nil ⟨H.less _ (fun fr => by kernel_rfl), A⟩
 ·clear A
  intro t fr h1 hK
  obtain ⟨H, A⟩ := hK
  refine at_seg [(13, [])] [(4, .bool x1)] H (noU_all rfl) (fun fr => by kernel_rfl) ?_
  intro fr H
  refine at_nil ?_
  show AW cfg 179 g (right (right (bodyC cfg.P 179))) fr h1 _
  refine aw_ret (by kernel_rfl) ?_
  have e1 := Option.some.inj hm
  subst e1
  refine ⟨.inl rfl, .bool x1, resH H (fun fr => by kernel_rfl), ?_⟩
  exact ⟨rfl, A⟩
/-! ### strings.HasPrefix -/
noncomputable def M_strings_HasPrefix (p0 : List UInt8) (p1 : List UInt8) : Option (Bool) :=
 (M_stringslite_HasPrefix p0 p1).bind fun x1 => some x1
theorem ok_strings_HasPrefix {g : Gd} {h : AHeap} {F : List Ck} {p0 : List UInt8} {p1 : List UInt8} {q0 : Bool} {av : List AVal} (hm : M_strings_HasPrefix p0 p1 = some q0) (hc : canL (cfg.still 145) av = [.str p0, .str p1]) (A : HH g h [] F) : ∃ v h', Runs cfg g h 145 av v h' ∧ v = .bool q0 ∧ HH g h' [] F := by
 refine runsQ1 (n := 8) (rs := [.tmp 4]) (by kernel_rfl) hc (by kernel_rfl) ?_
 clear hc
 unfold M_strings_HasPrefix at hm
 refine start (n := 8) [(0, .str p0), (1, .str p1)] (by kernel_rfl) (by kernel_rfl) ?_
 intro fr H
 refine aw_seq (by kernel_rfl) ?_
 refine aw_reg (id := 0) (n := 1) [(0, [])] (by kernel_rfl) (by kernel_rfl) ?_
 refine at_seg [(0, [])] [(0, .str p0), (1, .str p1)] H (noU_all rfl) (fun fr => by kernel_rfl) ?_
 intro fr H
 refine at_nil ?_
 show AW cfg 145 g (right (bodyC cfg.P 145)) fr h _
 refine aw_seq (by kernel_rfl) ?_
 refine aw_reg (id := 1) (n := 4) [(0, []), (1, []), (2, []), (3, [])] (by kernel_rfl) (by kernel_rfl) ?_
 refine at_seg [(0, []), (1, [])] [(5, .str p0), (6, .str p1)] H (noU_all rfl) (fun fr => by kernel_rfl) ?_
 intro fr H
 have A1 := A.cut 0
 obtain ⟨x1, hx, hm⟩ := bind_some hm
 obtain ⟨v1, h1, hr, rfl, A1⟩ := ok_stringslite_HasPrefix (av := [.str p0, .str p1]) hx (by kernel_rfl) A1
 replace A : HH g h1 [] F := A.glue0 (n := 0) A1
 refine at_step (v := .bool x1) (h1 := h1) [(7, .bool x1)] H (fun fr => by kernel_rfl) (fun fr => Steps.call (by kernel_rfl) hr) ?_
 intro fr t H
 refine at_seg [(3, [])] [(4, .bool x1)] H (noU_all rfl) (fun fr => by kernel_rfl) ?_
 intro fr H
 refine at_nil ?_
 show AW cfg 145 g (right (right (bodyC cfg.P 145))) fr h1 _
 refine aw_ret (by kernel_rfl) ?_
 have e1 := Option.some.inj hm
 subst e1
 refine ⟨.inl rfl, .bool x1, resH H (fun fr => by kernel_rfl), ?_⟩
 exact ⟨rfl, A⟩
/-! ### boulter/exfile.Lines -/
noncomputable def M_exfile_Lines_Y0 (s : (List (List UInt8))) (v1 : (List UInt8)) : Option (((List (List UInt8))) ⊕ (Unit)) :=
 match s with
 | x2 => (M_strings_TrimSuffix v1 ([10] : List UInt8)).bind fun x3 => (iteB (x3 == ([] : List UInt8)) (some true) ((ixS x3 (0 : Int)).bind fun x5 => some (x5 == (35 : Int))) : Option (Bool)).bind fun x4 => iteB x4 (some (.inl x2)) (((M_strings_HasPrefix x3 ([92, 35] : List UInt8)).bind fun x7 => iteB x7 ((subS x3 (some (1 : Int)) none).bind fun x8 => some x8) (some x3) : Option (((List UInt8)))).bind fun x6 => need (okN 16 (x2.length + ([x6] : List (List UInt8)).length)) <| some (.inl (x2 ++ ([x6] : List (List UInt8)))))
noncomputable def M_exfile_Lines (p0 : List UInt8) : Option ((List (List UInt8))) :=
 (M_strings_Lines p0).bind fun x1_10 => (M_strings_Lines_1_sYP (M_exfile_Lines_Y0) (.inl ([] : List (List UInt8))) x1_10).bind fun (x9, y1) => (match y1 with | .inl x2 => some x2 | .inr _ => none)
theorem ok_exfile_Lines {g : Gd} {h : AHeap} {F : List Ck} {p0 : List UInt8} {q0 : List (List UInt8)} {av : List AVal} (hm : M_exfile_Lines p0 = some q0) (hc : canL (cfg.still 108) av = [.str p0]) (A : HH g h [] F) : ∃ v h', Runs cfg g h 108 av v h' ∧ ∃ (rq0 : Option Nat), v = rowV rq0 q0.length ∧ HH g h' [.lst rq0 9 (lst eS q0)] F := by
 refine runsQ1 (n := 26) (rs := [.tmp 2]) (by kernel_rfl) hc (by kernel_rfl) ?_
 clear hc
 unfold M_exfile_Lines at hm
 refine start (n := 26) [(0, .str p0)] (by kernel_rfl) (by kernel_rfl) ?_
 intro fr H
 refine aw_seq (by kernel_rfl) ?_
 refine aw_reg (id := 0) (n := 1) [(0, [])] (by kernel_rfl) (by kernel_rfl) ?_
 refine at_seg [(0, [])] [(0, .str p0)] H (noU_all rfl) (fun fr => by kernel_rfl) ?_
 intro fr H
 refine at_nil ?_
 show AW cfg 108 g (right (bodyC cfg.P 108)) fr h _
 refine aw_seq (by kernel_rfl) ?_
 refine aw_reg (id := 1) (n := 1) [(0, [])] (by kernel_rfl) (by kernel_rfl) ?_
 obtain ⟨h1, e1⟩ : ∃ x, x = h.push (.cells none 2 [.slice none 0]) := ⟨_, rfl⟩
 replace A := (A.push _).to e1
 refine at_step (v := .ptr (some (h.size, 0))) (h1 := h1) [(0, .str p0), (3, .ptr (some (h.size, 0)))] H (fun fr => by kernel_rfl) (fun fr => .of (s_n' (by kernel_rfl) (congrArg some e1.symm))) ?_
 intro fr t H
 refine at_nil ?_
 show AW cfg 108 g (right (right (bodyC cfg.P 108))) fr h1 _
 refine aw_seq (by kernel_rfl) ?_
 refine aw_seq (by kernel_rfl) ?_
 refine aw_reg (id := 2) (n := 2) [(0, []), (1, [])] (by kernel_rfl) (by kernel_rfl) ?_
 refine at_seg [(0, [])] [(3, .ptr (some (h.size, 0))), (5, .str p0)] H (noU_all rfl) (fun fr => by kernel_rfl) ?_
 intro fr H
 have A1 := A.cut 0
 obtain ⟨x1_10, hx, hm⟩ := bind_some hm
 obtain ⟨v1, h2, hr, bqw1_10, rfl, A1⟩ := ok_strings_Lines (av := [.str p0]) hx (by kernel_rfl) A1
 replace A : HH g h2 [.obj bqw1_10 (.cells none 2 [.str x1_10]), .obj h.size (.cells none 2 [.slice none 0])] F := A.glue0 (n := 0) A1
 refine at_step (v := .func (.func 144) [] [.ptr (some (bqw1_10, 0))]) (h1 := h2) [(3, .ptr (some (h.size, 0))), (6, .func (.func 144) [] [.ptr (some (bqw1_10, 0))])] H (fun fr => by kernel_rfl) (fun fr => Steps.call (by kernel_rfl) hr) ?_
 intro fr t H
 refine at_nil ?_
 show AW cfg 108 g (right (left (right (right (bodyC cfg.P 108))))) fr h2 _
 refine aw_block (id := 0) (by kernel_rfl) ?_
 replace A : HH g h2 [.lst none 9 (lst eS ([] : List (List UInt8))), .obj bqw1_10 (.cells none 2 [.str x1_10]), .obj h.size (.cells none 2 [.slice none 0])] F := A.nilL 9
 replace A : HH g h2 [.obj bqw1_10 (.cells none 2 [.str x1_10]), .lst none 9 (lst eS ([] : List (List UInt8))), .obj h.size (.cells none 2 [rowV none (([] : List (List UInt8)).length)])] F := (((A.front 2 rfl).front 1 rfl).front 2 rfl)
 obtain ⟨⟨x9, y1⟩, ho, hm⟩ := bind_some hm
 refine aw_range (C := cfg) (x := .tmp 6) (ps := [7]) (f' := 144) (first := []) (cap := [.ptr (some (bqw1_10, 0))]) (Lu := [.obj bqw1_10 (.cells none 2 [.str x1_10])]) (Lc := [.lst none 9 (lst eS ([] : List (List UInt8))), .obj h.size (.cells none 2 [rowV none (([] : List (List UInt8)).length)])]) (F := F) (ex := fun x => [.str x]) (Y := M_exfile_Lines_Y0) (PL := fun s Lc => ∃ (x2 : List (List UInt8)), x2 = s ∧ ∃ (r1 : Option Nat), Lc = [.lst r1 9 (lst eS x2), .obj h.size (.cells none 2 [rowV r1 x2.length])]) (PR := fun r Lc => False) (pe := fun _ => .ret) (s := ([] : List (List UInt8))) (y := y1) (PU := fun L => L = [.obj bqw1_10 (.cells none 2 [.str x9])]) (by kernel_rfl) H (fun fr => by kernel_rfl) (by kernel_rfl) (fun _ => rfl) (by kernel_rfl) A ⟨([] : List (List UInt8)), rfl, none, rfl⟩ ?_ ?_ ?_ ?_ ?_
 ·refine range_body H (kn := fun v1 => [(3, .ptr (some (h.size, 0))), (7, .str v1)]) (fun v1 fr => by kernel_rfl) ?_
  clear ho hm A H
  intro g h3 F s v1 o Lc fr H hP hm A
  obtain ⟨x2, rfl, r1, rfl⟩ := hP
  unfold M_exfile_Lines_Y0 at hm
  show AW cfg 108 g (left (left (right (left (right (right (bodyC cfg.P 108))))))) fr h3 _
  refine aw_reg (id := 3) (n := 1) [(0, [])] (by kernel_rfl) (by kernel_rfl) ?_
  refine at_seg [(0, [])] [(3, .ptr (some (h.size, 0))), (4, .str v1)] H (noU_all rfl) (fun fr => by kernel_rfl) ?_
  intro fr H
  refine at_nil ?_
  refine ⟨rfl, _, A, ?_⟩
  clear A
  intro h4 F A
  show AW cfg 108 g (right (left (right (left (right (right (bodyC cfg.P 108))))))) fr h4 _
  refine aw_block (id := 1) (by kernel_rfl) ?_
  refine aw_seq (by kernel_rfl) ?_
  refine aw_reg (id := 4) (n := 3) [(0, []), (1, []), (2, [])] (by kernel_rfl) (by kernel_rfl) ?_
  refine at_seg [(0, [])] [(3, .ptr (some (h.size, 0))), (8, .str v1)] H (noU_all rfl) (fun fr => by kernel_rfl) ?_
  intro fr H
  have A1 := A.cut 0
  obtain ⟨x3, hx, hm⟩ := bind_some hm
  obtain ⟨v1, h5, hr, rfl, A1⟩ := ok_strings_TrimSuffix (av := [.str v1, .str ([10] : List UInt8)]) hx (by kernel_rfl) A1
  replace A : HH g h5 [.lst r1 9 (lst eS x2), .obj h.size (.cells none 2 [rowV r1 x2.length])] F := A.glue0 (n := 0) A1
  refine at_step (v := .str x3) (h1 := h5) [(3, .ptr (some (h.size, 0))), (9, .str x3)] H (fun fr => by kernel_rfl) (fun fr => Steps.call (by kernel_rfl) hr) ?_
  intro fr t H
  refine at_seg [(2, [])] [(3, .ptr (some (h.size, 0))), (4, .str x3)] H (noU_all rfl) (fun fr => by kernel_rfl) ?_
  intro fr H
  refine at_nil ?_
  show AW cfg 108 g (right (left (right (left (right (left (right (right (bodyC cfg.P 108))))))))) fr h5 _
  refine aw_seq (by kernel_rfl) ?_
  refine aw_seq (by kernel_rfl) ?_
  refine aw_reg (id := 5) (n := 7) [(0, []), (1, []), (2, []), (3, []), (4, []), (5, []), (6, [])] (by kernel_rfl) (by kernel_rfl) ?_
  refine at_seg [(0, []), (1, []), (2, [])] [(3, .ptr (some (h.size, 0))), (4, .str x3), (12, .bool (x3 == ([] : List UInt8)))] H (noU_all rfl) (fun fr => by kernel_rfl) ?_
  intro fr H
  obtain ⟨x4, ho, hm⟩ := bind_some hm
  refine at_cut [(3, []), (4, []), (5, []), (6, [])] (fun fr' h' => Has fr' 26 [(3, .ptr (some (h.size, 0))), (4, .str x3), (16, .bool x4)] ∧ HH g h' [.lst r1 9 (lst eS x2), .obj h.size (.cells none 2 [rowV r1 x2.length])] F) ?_ ?_
  ·rcases iteB_some ho with ⟨hb, hm⟩ | ⟨hb, hm⟩
   ·replace H := H.know 12 hb (by kernel_rfl)
    refine at_seg [(3, []), (4, []), (5, []), (6, [])] [(3, .ptr (some (h.size, 0))), (4, .str x3), (16, .bool true)] H (noU_all rfl) (fun fr => by kernel_rfl) ?_
    intro fr H
    have e1 := Option.some.inj hm
    subst e1
    exact at_nil ⟨H.less _ (fun fr => by kernel_rfl), A⟩
   ·replace H := H.know 12 hb (by kernel_rfl)
    refine at_seg [(3, [])] [(3, .ptr (some (h.size, 0))), (4, .str x3), (12, .bool false), (13, .str x3)] H (noU_all rfl) (fun fr => by kernel_rfl) ?_
    intro fr H
    obtain ⟨x5, hx, hm⟩ := bind_some hm
    refine at_step (v := .int .u8 x5) (h1 := h5) [(3, .ptr (some (h.size, 0))), (4, .str x3), (12, .bool false), (14, .int .u8 x5)] H (fun fr => by kernel_rfl) (fun fr => .of (s_ixS (by kernel_rfl) hx)) ?_
    intro fr t H
    refine at_seg [(5, []), (6, [])] [(3, .ptr (some (h.size, 0))), (4, .str x3), (16, .bool (x5 == (35 : Int)))] H (noU_all rfl) (fun fr => by kernel_rfl) ?_
    intro fr H
    have e1 := Option.some.inj hm
    subst e1
    exact at_nil ⟨H.less _ (fun fr => by kernel_rfl), A⟩
  ·clear A
   intro t fr h6 hK
   obtain ⟨H, A⟩ := hK
   refine at_nil ?_
   show AW cfg 108 g (right (left (right (left (right (left (right (left (right (right (bodyC cfg.P 108))))))))))) fr h6 _
   rcases iteB_some hm with ⟨hb, hm⟩ | ⟨hb, hm⟩
   ·replace H := H.know 16 hb (by kernel_rfl)
    refine aw_true (x := .tmp 16) (by kernel_rfl) H (fun fr => by kernel_rfl) ?_
    refine aw_exit (i := 1) (by kernel_rfl) ?_
    have e1 := Option.some.inj hm
    subst e1
    exact ⟨rfl, _, ⟨x2, rfl, r1, rfl⟩, A⟩
   ·replace H := H.know 16 hb (by kernel_rfl)
    refine aw_false (x := .tmp 16) (by kernel_rfl) H (fun fr => by kernel_rfl) ?_
    refine aw_skip (by kernel_rfl) ?_
    show AW cfg 108 g (right (right (left (right (left (right (left (right (right (bodyC cfg.P 108)))))))))) fr h6 _
    refine aw_seq (by kernel_rfl) ?_
    obtain ⟨o1, ho, hm⟩ := bind_some hm
    refine aw_mono (Q' := fun e fr' h' => (∃ (x6 : List UInt8), e = .normal ∧ x6 = o1 ∧ Has fr' 26 [(3, .ptr (some (h.size, 0))), (4, .str x6)] ∧ HH g h' [.lst r1 9 (lst eS x2), .obj h.size (.cells none 2 [rowV r1 x2.length])] F) ∨ False) ?_ ?_
    ·replace hm := ho
     clear ho
     refine aw_seq (by kernel_rfl) ?_
     refine aw_reg (id := 6) (n := 2) [(0, []), (1, [])] (by kernel_rfl) (by kernel_rfl) ?_
     refine at_seg [(0, [])] [(3, .ptr (some (h.size, 0))), (4, .str x3), (17, .str x3)] H (noU_all rfl) (fun fr => by kernel_rfl) ?_
     intro fr H
     have A1 := A.cut 0
     obtain ⟨x7, hx, hm⟩ := bind_some hm
     obtain ⟨v1, h7, hr, rfl, A1⟩ := ok_strings_HasPrefix (av := [.str x3, .str ([92, 35] : List UInt8)]) hx (by kernel_rfl) A1
     replace A : HH g h7 [.lst r1 9 (lst eS x2), .obj h.size (.cells none 2 [rowV r1 x2.length])] F := A.glue0 (n := 0) A1
     refine at_step (v := .bool x7) (h1 := h7) [(3, .ptr (some (h.size, 0))), (4, .str x3), (18, .bool x7)] H (fun fr => by kernel_rfl) (fun fr => Steps.call (by kernel_rfl) hr) ?_
     intro fr t H
     refine at_nil ?_
     show AW cfg 108 g (right (left (right (right (left (right (left (right (left (right (right (bodyC cfg.P 108)))))))))))) fr h7 _
     rcases iteB_some hm with ⟨hb, hm⟩ | ⟨hb, hm⟩
     ·replace H := H.know 18 hb (by kernel_rfl)
      refine aw_true (x := .tmp 18) (by kernel_rfl) H (fun fr => by kernel_rfl) ?_
      refine aw_reg (id := 7) (n := 3) [(0, []), (1, []), (2, [])] (by kernel_rfl) (by kernel_rfl) ?_
      refine at_seg [(0, [])] [(3, .ptr (some (h.size, 0))), (19, .str x3)] H (noU_all rfl) (fun fr => by kernel_rfl) ?_
      intro fr H
      obtain ⟨x8, hx, hm⟩ := bind_some hm
      refine at_step (v := .str x8) (h1 := h7) [(3, .ptr (some (h.size, 0))), (20, .str x8)] H (fun fr => by kernel_rfl) (fun fr => .of (s_subS (k := .i64) (k' := .i64) (lo := (some (1 : Int))) (hi := none) (by kernel_rfl) hx)) ?_
      intro fr t H
      refine at_seg [(2, [])] [(3, .ptr (some (h.size, 0))), (4, .str x8)] H (noU_all rfl) (fun fr => by kernel_rfl) ?_
      intro fr H
      refine at_nil ?_
      exact Or.inl ⟨x8, rfl, Option.some.inj hm, H.less _ (fun fr => by kernel_rfl), A⟩
     ·replace H := H.know 18 hb (by kernel_rfl)
      refine aw_false (x := .tmp 18) (by kernel_rfl) H (fun fr => by kernel_rfl) ?_
      refine aw_skip (by kernel_rfl) ?_
      exact Or.inl ⟨x3, rfl, Option.some.inj hm, H.less _ (fun fr => by kernel_rfl), A⟩
    ·clear ho
     clear A
     intro e fr h8 hQ
     rcases hQ with ⟨x6, rfl, rfl, H, A⟩ | hF
     ·skip
      show AW cfg 108 g (right (right (right (left (right (left (right (left (right (right (bodyC cfg.P 108))))))))))) fr h8 _
      refine aw_reg (id := 8) (n := 5) [(0, []), (1, []), (2, []), (3, []), (4, [])] (by kernel_rfl) (by kernel_rfl) ?_
      refine at_step (v := rowV r1 x2.length) (h1 := h8) [(3, .ptr (some (h.size, 0))), (4, .str x6), (21, rowV r1 x2.length)] H (fun fr => by kernel_rfl) (fun fr => .of (s_ld (by kernel_rfl) (A.ld1 1 rfl (o := 0) rfl))) ?_
      intro fr t H
      refine at_seg [(1, [])] [(3, .ptr (some (h.size, 0))), (21, rowV r1 x2.length), (22, .str x6)] H (noU_all rfl) (fun fr => by kernel_rfl) ?_
      intro fr H
      obtain ⟨h9, e2⟩ : ∃ x, x = h8.push (.cells (some 9) 2 [.str x6]) := ⟨_, rfl⟩
      replace A := (A.pushL _ _).to e2
      refine at_step (v := rowV (some h8.size) (([x6] : List (List UInt8)).length)) (h1 := h9) [(3, .ptr (some (h.size, 0))), (21, rowV r1 x2.length), (23, rowV (some h8.size) (([x6] : List (List UInt8)).length))] H (fun fr => by kernel_rfl) (fun fr => .of (s_n' (by kernel_rfl) (congrArg some e2.symm))) ?_
      intro fr t H
      obtain ⟨hb, hm⟩ := need_some hm
      obtain ⟨r2, h10, hx, A1⟩ := HH.appO encS (by decide) A 1 (xs := x2) (ys := ([x6] : List (List UInt8))) rfl (row_first A 0 rfl (n := ([x6] : List (List UInt8)).length) (z := 1) rfl (by decide)) rfl rfl hb
      replace A : HH g h10 [.lst (some h8.size) 9 ([.str x6]), .lst r2 9 (lst eS (x2 ++ ([x6] : List (List UInt8)))), .obj h.size (.cells none 2 [rowV r1 x2.length])] F := A1
      replace A : HH g h10 [.lst r2 9 (lst eS (x2 ++ ([x6] : List (List UInt8)))), .obj h.size (.cells none 2 [rowV r1 x2.length])] F := (HH.dropF ((A.front 2 rfl).front 2 rfl) 2)
      refine at_step (v := rowV r2 ((x2 ++ ([x6] : List (List UInt8))).length)) (h1 := h10) [(3, .ptr (some (h.size, 0))), (24, rowV r2 ((x2 ++ ([x6] : List (List UInt8))).length))] H (fun fr => by kernel_rfl) (fun fr => .of (s_app (s := rowS r1 x2.length) (by kernel_rfl) hx)) ?_
      intro fr t H
      obtain ⟨h11, hx, A1⟩ := A.st 1 rfl (o := 0) (new := [rowV r2 ((x2 ++ ([x6] : List (List UInt8))).length)]) (ds := [rowV r2 ((x2 ++ ([x6] : List (List UInt8))).length)]) (Nat.le_of_ble_eq_true rfl) rfl rfl
      replace A : HH g h11 [.lst r2 9 (lst eS (x2 ++ ([x6] : List (List UInt8)))), .obj h.size (.cells none 2 [rowV r2 ((x2 ++ ([x6] : List (List UInt8))).length)])] F := A1
      refine at_step (v := .tuple []) (h1 := h11) [] H (fun fr => by kernel_rfl) (fun fr => .of (s_st (by kernel_rfl) rfl hx)) ?_
      intro fr t H
      refine at_nil ?_
      have e1 := Option.some.inj hm
      subst e1
      exact ⟨rfl, _, ⟨(x2 ++ ([x6] : List (List UInt8))), rfl, r2, rfl⟩, A⟩
     ·exact hF.elim
 ·intro h1 l F1 R hYR B A
  obtain ⟨v1, h2, hr, _, F2, B, A⟩ := ok_strings_Lines_1_sYP (av := [.yfn l, .ptr (some (bqw1_10, 0))]) ho (by kernel_rfl) hYR B A
  exact ⟨v1, h2, F2, _, hr, B, rfl, A⟩
 ·clear ho A
  intro s2 h12 Lc Lu ey hP hU A
  subst ey
  obtain ⟨x2, rfl, r1, rfl⟩ := hP
  subst hU
  replace A : HH g h12 [.obj bqw1_10 (.cells none 2 [.str x9]), .lst r1 9 (lst eS x2), .obj h.size (.cells none 2 [rowV r1 x2.length])] F := A
  show AW cfg 108 g (right (right (right (bodyC cfg.P 108)))) fr h12 _
  refine aw_seq (by kernel_rfl) ?_
  refine aw_reg (id := 9) (n := 2) [(0, []), (1, [])] (by kernel_rfl) (by kernel_rfl) ?_
  refine at_step (v := rowV r1 x2.length) (h1 := h12) [(25, rowV r1 x2.length)] H (fun fr => by kernel_rfl) (fun fr => .of (s_ld (by kernel_rfl) (A.ld1 2 rfl (o := 0) rfl))) ?_
  intro fr t H
  refine at_seg [(1, [])] [(2, rowV r1 x2.length)] H (noU_all rfl) (fun fr => by kernel_rfl) ?_
  intro fr H
  refine at_nil ?_
  show AW cfg 108 g (right (right (right (right (bodyC cfg.P 108))))) fr h12 _
  refine aw_ret (by kernel_rfl) ?_
  have e1 := Option.some.inj hm
  subst e1
  refine ⟨.inl rfl, rowV r1 x2.length, resH H (fun fr => by kernel_rfl), ?_⟩
  replace A : HH g h12 [.lst r1 9 (lst eS x2)] F := (HH.dropF (A.front 1 rfl) 1)
  exact ⟨r1, rfl, A⟩
 ·clear ho A
  intro r2 h12 Lc Lu e ey he hP hU A
  subst ey
  subst hU
  exact False.elim hP
 ·exact fun _ => ⟨.ret, rfl⟩
end Go.Av.L
