/-
 Models of functions, and that the abstract run tells them. Written by lift2.py.
-/
import Derived.Test.YtkdlmohhklimjaaGreatDoorKCfg
import Derived.Test.YtkdlmohhklimjaaGreatDoorK0
import Derived.Test.YtkdlmohhklimjaaGreatDoorK1
namespace Go.Av.L
open Go.Av Go.Lib
set_option maxRecDepth 10000
set_option linter.unusedVariables false
set_option linter.unusedSimpArgs false
/-! ### (*boulter/option.reading).lines -/
noncomputable def M_option_reading_lines_sPOOOSI_L1 (p0 : S_option_reading) (x3 : List UInt8) (x4 : List UInt8) (x7 : Int) (x13 : List (List UInt8)) (s : (List S_pattern_Rule) × Int) : Option (((List S_pattern_Rule) × Int) ⊕ (((List S_pattern_Rule)) ⊕ (Int × Int × (List S_pattern_Rule)))) :=
 match s with
 | (x14, x15) => iteB (decide (x15 < (x13.length : Int))) ((ixV x13 x15).bind fun x20 => (M_option_reading_pattern_sPOOOSe0_1II (⟨(⟨p0.c_.Includes, x14, p0.c_.Exprs, p0.c_.Vcs, p0.c_.Backups, p0.c_.Caches, p0.c_.Dated, p0.c_.Newer, p0.c_.Nth, p0.c_.Strip, p0.c_.Name, p0.c_.Head, p0.c_.States⟩ : S_option_Config), p0.flags_, x4, IntKind.i64.wrap (p0.at_ + (x3.length : Int)), p0.seen_⟩ : S_option_reading) x20 x7 x7).bind fun (x21, x22) => (M_option_none).bind fun x23 => (eqG cfg.P 96 [.int .i64 x21.e_, .int .i64 x21.at_] [.int .i64 x23.e_, .int .i64 x23.at_]).bind fun x24 => iteB (!x24) (some (.inr (.inr (x21.e_, x21.at_, x22)))) (some (.inl (x22, IntKind.i64.wrap (x15 + (1 : Int)))))) (some (.inr (.inl x14)))
noncomputable def M_option_reading_lines_sPOOOSI_Y0 (p0 : S_option_reading) (x3 : List UInt8) (x4 : List UInt8) (s : Int × (List S_pattern_Rule)) (v1 : (List UInt8)) : Option ((Int × (List S_pattern_Rule)) ⊕ ((Int × Int × Int × (List S_pattern_Rule)))) :=
 match s with
 | (x7, x8) => (M_exfile_Lines v1).bind fun x13 => (loop (M_option_reading_lines_sPOOOSI_L1 p0 x3 x4 x7 x13) (x8, (0 : Int))).bind fun o1 => (match o1 with | .inl x16 => some (.inl (IntKind.i64.wrap (x7 + (v1.length : Int)), x16)) | .inr (x17, x18, x19) => some (.inr (x7, x17, x18, x19)))
noncomputable def M_option_reading_lines_sPOOOSI (p0 : S_option_reading) (p1 : List UInt8) (p2 : Int) : Option (S_option_flaw × S_option_reading × (List S_pattern_Rule)) :=
 (M_option_number p1 (0 : Int) (256 : Int)).bind fun (x1, x2) => iteB (!x2) (some ((⟨(11 : Int), p2⟩ : S_option_flaw), p0, p0.c_.Excludes)) ((M_exfile_Cut p0.rest_ x1).bind fun (x3, x4, x5) => iteB (!x5) (some ((⟨(11 : Int), p2⟩ : S_option_flaw), p0, p0.c_.Excludes)) ((M_strings_Lines x3).bind fun x6_10 => (M_strings_Lines_1_sYP (M_option_reading_lines_sPOOOSI_Y0 p0 x3 x4) (.inl (p0.at_, p0.c_.Excludes)) x6_10).bind fun (x25, y1) => (match y1 with | .inl (x7, x8) => (M_option_none).bind fun x26 => some (x26, (⟨(⟨p0.c_.Includes, x8, p0.c_.Exprs, p0.c_.Vcs, p0.c_.Backups, p0.c_.Caches, p0.c_.Dated, p0.c_.Newer, p0.c_.Nth, p0.c_.Strip, p0.c_.Name, p0.c_.Head, p0.c_.States⟩ : S_option_Config), p0.flags_, x4, IntKind.i64.wrap (p0.at_ + (x3.length : Int)), p0.seen_⟩ : S_option_reading), x8) | .inr (x9, x10, x11, x12) => some ((⟨x10, x11⟩ : S_option_flaw), (⟨(⟨p0.c_.Includes, x12, p0.c_.Exprs, p0.c_.Vcs, p0.c_.Backups, p0.c_.Caches, p0.c_.Dated, p0.c_.Newer, p0.c_.Nth, p0.c_.Strip, p0.c_.Name, p0.c_.Head, p0.c_.States⟩ : S_option_Config), p0.flags_, x4, IntKind.i64.wrap (p0.at_ + (x3.length : Int)), p0.seen_⟩ : S_option_reading), x12))))
theorem ok_option_reading_lines_sPOOOSI {g : Gd} {h : AHeap} {F : List Ck} {p0 : S_option_reading} {p1 : List UInt8} {p2 : Int} {bp0 : Nat} {rp0_0 : Option Nat} {rp0_1 : Option Nat} {rp0_2 : Option Nat} {bp0_20 : Nat} {q0 : S_option_flaw} {u0 : S_option_reading} {u2 : List S_pattern_Rule} {av : List AVal} (hm : M_option_reading_lines_sPOOOSI p0 p1 p2 = some (q0, u0, u2)) (hc : canL (cfg.still 65) av = [.ptr (some (bp0, 0)), .str p1, .int .i64 p2]) (A : HH g h [.obj bp0 (.cells none 2 [rowV rp0_0 p0.c_.Includes.length, rowV rp0_1 p0.c_.Excludes.length, rowV rp0_2 p0.c_.Exprs.length, .bool p0.c_.Vcs, .bool p0.c_.Backups, .int .i64 p0.c_.Caches, .bool p0.c_.Dated, .int .i64 p0.c_.Newer.Sec, .int .i64 p0.c_.Newer.Nsec, .int .i64 p0.c_.Nth, .int .i64 p0.c_.Strip, .int .i64 p0.c_.Name, .int .i64 p0.c_.Head, .int .i64 p0.c_.States, .str p0.flags_.Text, .bool p0.flags_.Anchored, .bool p0.flags_.Fold, .bool p0.flags_.Slash, .str p0.rest_, .int .i64 p0.at_, .map (some bp0_20)]), .lst rp0_0 87 (lst e_S_pattern_Rule p0.c_.Includes), .lst rp0_1 87 (lst e_S_pattern_Rule p0.c_.Excludes), .lst rp0_2 24 (lst e_S_rewrite_Expr p0.c_.Exprs), .obj bp0_20 (.map 2 (encM (fun k : List UInt8 => .str k) (fun v : Bool => .bool v) p0.seen_))] F) : ∃ v h', Runs cfg g h 65 av v h' ∧ ∃ (r'2 : Option Nat), v = .agg [.int .i64 q0.e_, .int .i64 q0.at_] ∧ HH g h' [.obj bp0 (.cells none 2 [rowV rp0_0 p0.c_.Includes.length, rowV r'2 u2.length, rowV rp0_2 p0.c_.Exprs.length, .bool u0.c_.Vcs, .bool u0.c_.Backups, .int .i64 u0.c_.Caches, .bool u0.c_.Dated, .int .i64 u0.c_.Newer.Sec, .int .i64 u0.c_.Newer.Nsec, .int .i64 u0.c_.Nth, .int .i64 u0.c_.Strip, .int .i64 u0.c_.Name, .int .i64 u0.c_.Head, .int .i64 u0.c_.States, .str u0.flags_.Text, .bool u0.flags_.Anchored, .bool u0.flags_.Fold, .bool u0.flags_.Slash, .str u0.rest_, .int .i64 u0.at_, .map (some bp0_20)]), .lst rp0_0 87 (lst e_S_pattern_Rule p0.c_.Includes), .lst r'2 87 (lst e_S_pattern_Rule u2), .lst rp0_2 24 (lst e_S_rewrite_Expr p0.c_.Exprs), .obj bp0_20 (.map 2 (encM (fun k : List UInt8 => .str k) (fun v : Bool => .bool v) p0.seen_))] F := by
 refine runsQ1 (n := 86) (rs := [.cell 6 96]) (by kernel_rfl) hc (by kernel_rfl) ?_
 clear hc
 unfold M_option_reading_lines_sPOOOSI at hm
 refine start (n := 86) [(0, .ptr (some (bp0, 0))), (1, .str p1), (2, .int .i64 p2)] (by kernel_rfl) (by kernel_rfl) ?_
 intro fr H
 refine aw_seq (by kernel_rfl) ?_
 refine aw_reg (id := 0) (n := 2) [(0, []), (1, [])] (by kernel_rfl) (by kernel_rfl) ?_
 obtain ⟨h1, e1⟩ : ∃ x, x = h.push (.cells none 2 [.ptr (some (bp0, 0))]) := ⟨_, rfl⟩
 replace A := (A.push _).to e1
 refine at_step (v := .ptr (some (h.size, 0))) (h1 := h1) [(1, .str p1), (2, .int .i64 p2), (3, .ptr (some (h.size, 0)))] H (fun fr => by kernel_rfl) (fun fr => .of (s_n' (by kernel_rfl) (congrArg some e1.symm))) ?_
 intro fr t H
 obtain ⟨h2, e2⟩ : ∃ x, x = h1.push (.cells none 2 [.int .i64 (0 : Int), .int .i64 (0 : Int)]) := ⟨_, rfl⟩
 replace A := (A.push _).to e2
 refine at_step (v := .ptr (some (h1.size, 0))) (h1 := h2) [(1, .str p1), (2, .int .i64 p2), (3, .ptr (some (h.size, 0))), (6, .ptr (some (h1.size, 0)))] H (fun fr => by kernel_rfl) (fun fr => .of (s_n' (by kernel_rfl) (congrArg some e2.symm))) ?_
 intro fr t H
 refine at_nil ?_
 show AW cfg 65 g (right (bodyC cfg.P 65)) fr h2 _
 refine aw_seq (by kernel_rfl) ?_
 refine aw_reg (id := 1) (n := 7) [(0, []), (1, []), (2, []), (3, []), (4, []), (5, []), (6, [])] (by kernel_rfl) (by kernel_rfl) ?_
 refine at_seg [(0, [])] [(2, .int .i64 p2), (3, .ptr (some (h.size, 0))), (6, .ptr (some (h1.size, 0))), (17, .str p1)] H (noU_all rfl) (fun fr => by kernel_rfl) ?_
 intro fr H
 have A1 := A.cut 0
 obtain ⟨⟨x1, x2⟩, hx, hm⟩ := bind_some hm
 obtain ⟨v1, h3, hr, rfl, A1⟩ := ok_option_number (av := [.str p1, .int .i64 (0 : Int), .int .i64 (256 : Int)]) hx (by kernel_rfl) A1
 replace A : HH g h3 [.obj h1.size (.cells none 2 [.int .i64 (0 : Int), .int .i64 (0 : Int)]), .obj h.size (.cells none 2 [.ptr (some (bp0, 0))]), .obj bp0 (.cells none 2 [rowV rp0_0 p0.c_.Includes.length, rowV rp0_1 p0.c_.Excludes.length, rowV rp0_2 p0.c_.Exprs.length, .bool p0.c_.Vcs, .bool p0.c_.Backups, .int .i64 p0.c_.Caches, .bool p0.c_.Dated, .int .i64 p0.c_.Newer.Sec, .int .i64 p0.c_.Newer.Nsec, .int .i64 p0.c_.Nth, .int .i64 p0.c_.Strip, .int .i64 p0.c_.Name, .int .i64 p0.c_.Head, .int .i64 p0.c_.States, .str p0.flags_.Text, .bool p0.flags_.Anchored, .bool p0.flags_.Fold, .bool p0.flags_.Slash, .str p0.rest_, .int .i64 p0.at_, .map (some bp0_20)]), .lst rp0_0 87 (lst e_S_pattern_Rule p0.c_.Includes), .lst rp0_1 87 (lst e_S_pattern_Rule p0.c_.Excludes), .lst rp0_2 24 (lst e_S_rewrite_Expr p0.c_.Exprs), .obj bp0_20 (.map 2 (encM (fun k : List UInt8 => .str k) (fun v : Bool => .bool v) p0.seen_))] F := A.glue0 (n := 0) A1
 refine at_step (v := .tuple [.int .i64 x1, .bool x2]) (h1 := h3) [(2, .int .i64 p2), (3, .ptr (some (h.size, 0))), (6, .ptr (some (h1.size, 0))), (18, .tuple [.int .i64 x1, .bool x2])] H (fun fr => by kernel_rfl) (fun fr => Steps.call (by kernel_rfl) hr) ?_
 intro fr t H
 refine at_seg [(2, []), (3, []), (4, []), (5, []), (6, [])] [(2, .int .i64 p2), (3, .ptr (some (h.size, 0))), (6, .ptr (some (h1.size, 0))), (7, .int .i64 x1), (8, .bool x2)] H (noU_all rfl) (fun fr => by kernel_rfl) ?_
 intro fr H
 refine at_nil ?_
 show AW cfg 65 g (right (right (bodyC cfg.P 65))) fr h3 _
 refine aw_seq (by kernel_rfl) ?_
 refine aw_seq (by kernel_rfl) ?_
 refine aw_reg (id := 2) (n := 2) [(0, []), (1, [])] (by kernel_rfl) (by kernel_rfl) ?_
 refine at_seg [(0, []), (1, [])] [(2, .int .i64 p2), (3, .ptr (some (h.size, 0))), (6, .ptr (some (h1.size, 0))), (7, .int .i64 x1), (22, .bool (!x2))] H (noU_all rfl) (fun fr => by kernel_rfl) ?_
 intro fr H
 refine at_nil ?_
 show AW cfg 65 g (right (left (right (right (bodyC cfg.P 65))))) fr h3 _
 rcases iteB_some hm with ⟨hb, hm⟩ | ⟨hb, hm⟩
 ·replace H := H.know 22 hb (by kernel_rfl)
  refine aw_true (x := .tmp 22) (by kernel_rfl) H (fun fr => by kernel_rfl) ?_
  refine aw_seq (by kernel_rfl) ?_
  refine aw_reg (id := 3) (n := 3) [(0, []), (1, []), (2, [])] (by kernel_rfl) (by kernel_rfl) ?_
  refine at_seg [(0, []), (1, [])] [(6, .ptr (some (h1.size, 0))), (24, .agg [.int .i64 (11 : Int), .int .i64 p2])] H (noU_all rfl) (fun fr => by kernel_rfl) ?_
  intro fr H
  obtain ⟨h4, hx, A1⟩ := A.st 0 rfl (o := 0) (new := [.int .i64 (11 : Int), .int .i64 p2]) (ds := [.int .i64 (11 : Int), .int .i64 p2]) (Nat.le_of_ble_eq_true rfl) rfl rfl
  replace A : HH g h4 [.obj h1.size (.cells none 2 [.int .i64 (11 : Int), .int .i64 p2]), .obj h.size (.cells none 2 [.ptr (some (bp0, 0))]), .obj bp0 (.cells none 2 [rowV rp0_0 p0.c_.Includes.length, rowV rp0_1 p0.c_.Excludes.length, rowV rp0_2 p0.c_.Exprs.length, .bool p0.c_.Vcs, .bool p0.c_.Backups, .int .i64 p0.c_.Caches, .bool p0.c_.Dated, .int .i64 p0.c_.Newer.Sec, .int .i64 p0.c_.Newer.Nsec, .int .i64 p0.c_.Nth, .int .i64 p0.c_.Strip, .int .i64 p0.c_.Name, .int .i64 p0.c_.Head, .int .i64 p0.c_.States, .str p0.flags_.Text, .bool p0.flags_.Anchored, .bool p0.flags_.Fold, .bool p0.flags_.Slash, .str p0.rest_, .int .i64 p0.at_, .map (some bp0_20)]), .lst rp0_0 87 (lst e_S_pattern_Rule p0.c_.Includes), .lst rp0_1 87 (lst e_S_pattern_Rule p0.c_.Excludes), .lst rp0_2 24 (lst e_S_rewrite_Expr p0.c_.Exprs), .obj bp0_20 (.map 2 (encM (fun k : List UInt8 => .str k) (fun v : Bool => .bool v) p0.seen_))] F := A1
  refine at_step (v := .tuple []) (h1 := h4) [(6, .ptr (some (h1.size, 0)))] H (fun fr => by kernel_rfl) (fun fr => .of (s_stG (by kernel_rfl) (stG_st hx rfl))) ?_
  intro fr t H
  refine at_nil ?_
  show AW cfg 65 g (right (left (right (left (right (right (bodyC cfg.P 65))))))) fr h4 _
  refine aw_ret (by kernel_rfl) ?_
  have e0 := Option.some.inj hm
  obtain ⟨y0, z0⟩ := Prod.mk.inj e0
  obtain ⟨y1, z1⟩ := Prod.mk.inj z0
  subst y0
  subst y1
  subst z1
  refine ⟨.inl rfl, .agg [.int .i64 (11 : Int), .int .i64 p2], resL_one (.cell (resT H (fun fr => by kernel_rfl)) (load_ldA (by kernel_rfl) (by kernel_rfl) (A.ldA 0 rfl (o := 0) (n := 2) ⟨Nat.le_of_ble_eq_true rfl, rfl⟩)) .nil), ?_⟩
  replace A : HH g h4 [.obj bp0 (.cells none 2 [rowV rp0_0 p0.c_.Includes.length, rowV rp0_1 p0.c_.Excludes.length, rowV rp0_2 p0.c_.Exprs.length, .bool p0.c_.Vcs, .bool p0.c_.Backups, .int .i64 p0.c_.Caches, .bool p0.c_.Dated, .int .i64 p0.c_.Newer.Sec, .int .i64 p0.c_.Newer.Nsec, .int .i64 p0.c_.Nth, .int .i64 p0.c_.Strip, .int .i64 p0.c_.Name, .int .i64 p0.c_.Head, .int .i64 p0.c_.States, .str p0.flags_.Text, .bool p0.flags_.Anchored, .bool p0.flags_.Fold, .bool p0.flags_.Slash, .str p0.rest_, .int .i64 p0.at_, .map (some bp0_20)]), .lst rp0_0 87 (lst e_S_pattern_Rule p0.c_.Includes), .lst rp0_1 87 (lst e_S_pattern_Rule p0.c_.Excludes), .lst rp0_2 24 (lst e_S_rewrite_Expr p0.c_.Exprs), .obj bp0_20 (.map 2 (encM (fun k : List UInt8 => .str k) (fun v : Bool => .bool v) p0.seen_))] F := (HH.dropF (((((A.front 6 rfl).front 6 rfl).front 6 rfl).front 6 rfl).front 6 rfl) 5)
  exact ⟨rp0_1, rfl, A⟩
 ·replace H := H.know 22 hb (by kernel_rfl)
  refine aw_false (x := .tmp 22) (by kernel_rfl) H (fun fr => by kernel_rfl) ?_
  refine aw_skip (by kernel_rfl) ?_
  show AW cfg 65 g (right (right (right (bodyC cfg.P 65)))) fr h3 _
  refine aw_seq (by kernel_rfl) ?_
  refine aw_reg (id := 4) (n := 13) [(0, []), (1, []), (2, []), (3, []), (4, []), (5, []), (6, []), (7, []), (8, []), (9, []), (10, []), (11, []), (12, [])] (by kernel_rfl) (by kernel_rfl) ?_
  refine at_step (v := .ptr (some (bp0, 0))) (h1 := h3) [(2, .int .i64 p2), (3, .ptr (some (h.size, 0))), (6, .ptr (some (h1.size, 0))), (7, .int .i64 x1), (26, .ptr (some (bp0, 0)))] H (fun fr => by kernel_rfl) (fun fr => .of (s_ld (by kernel_rfl) (A.ld1 1 rfl (o := 0) rfl))) ?_
  intro fr t H
  refine at_seg [(1, []), (2, [])] [(2, .int .i64 p2), (3, .ptr (some (h.size, 0))), (6, .ptr (some (h1.size, 0))), (7, .int .i64 x1), (28, .ptr (some (bp0, 18)))] H (noU_all rfl) (fun fr => by kernel_rfl) ?_
  intro fr H
  refine at_step (v := .str p0.rest_) (h1 := h3) [(2, .int .i64 p2), (3, .ptr (some (h.size, 0))), (6, .ptr (some (h1.size, 0))), (7, .int .i64 x1), (29, .str p0.rest_)] H (fun fr => by kernel_rfl) (fun fr => .of (s_ld (by kernel_rfl) (A.ld1 2 rfl (o := 18) rfl))) ?_
  intro fr t H
  refine at_seg [(4, [])] [(2, .int .i64 p2), (3, .ptr (some (h.size, 0))), (6, .ptr (some (h1.size, 0))), (29, .str p0.rest_), (30, .int .i64 x1)] H (noU_all rfl) (fun fr => by kernel_rfl) ?_
  intro fr H
  have A1 := A.cut 0
  obtain ⟨⟨x3, x4, x5⟩, hx, hm⟩ := bind_some hm
  obtain ⟨v1, h5, hr, rfl, A1⟩ := ok_exfile_Cut (av := [.str p0.rest_, .int .i64 x1]) hx (by kernel_rfl) A1
  replace A : HH g h5 [.obj h1.size (.cells none 2 [.int .i64 (0 : Int), .int .i64 (0 : Int)]), .obj h.size (.cells none 2 [.ptr (some (bp0, 0))]), .obj bp0 (.cells none 2 [rowV rp0_0 p0.c_.Includes.length, rowV rp0_1 p0.c_.Excludes.length, rowV rp0_2 p0.c_.Exprs.length, .bool p0.c_.Vcs, .bool p0.c_.Backups, .int .i64 p0.c_.Caches, .bool p0.c_.Dated, .int .i64 p0.c_.Newer.Sec, .int .i64 p0.c_.Newer.Nsec, .int .i64 p0.c_.Nth, .int .i64 p0.c_.Strip, .int .i64 p0.c_.Name, .int .i64 p0.c_.Head, .int .i64 p0.c_.States, .str p0.flags_.Text, .bool p0.flags_.Anchored, .bool p0.flags_.Fold, .bool p0.flags_.Slash, .str p0.rest_, .int .i64 p0.at_, .map (some bp0_20)]), .lst rp0_0 87 (lst e_S_pattern_Rule p0.c_.Includes), .lst rp0_1 87 (lst e_S_pattern_Rule p0.c_.Excludes), .lst rp0_2 24 (lst e_S_rewrite_Expr p0.c_.Exprs), .obj bp0_20 (.map 2 (encM (fun k : List UInt8 => .str k) (fun v : Bool => .bool v) p0.seen_))] F := A.glue0 (n := 0) A1
  refine at_step (v := .tuple [.str x3, .str x4, .bool x5]) (h1 := h5) [(2, .int .i64 p2), (3, .ptr (some (h.size, 0))), (6, .ptr (some (h1.size, 0))), (31, .tuple [.str x3, .str x4, .bool x5])] H (fun fr => by kernel_rfl) (fun fr => Steps.call (by kernel_rfl) hr) ?_
  intro fr t H
  refine at_seg [(6, []), (7, []), (8, []), (9, []), (10, []), (11, []), (12, [])] [(2, .int .i64 p2), (3, .ptr (some (h.size, 0))), (6, .ptr (some (h1.size, 0))), (8, .bool x5), (9, .str x3), (10, .str x4)] H (noU_all rfl) (fun fr => by kernel_rfl) ?_
  intro fr H
  refine at_nil ?_
  show AW cfg 65 g (right (right (right (right (bodyC cfg.P 65))))) fr h5 _
  refine aw_seq (by kernel_rfl) ?_
  refine aw_seq (by kernel_rfl) ?_
  refine aw_reg (id := 5) (n := 2) [(0, []), (1, [])] (by kernel_rfl) (by kernel_rfl) ?_
  refine at_seg [(0, []), (1, [])] [(2, .int .i64 p2), (3, .ptr (some (h.size, 0))), (6, .ptr (some (h1.size, 0))), (9, .str x3), (10, .str x4), (36, .bool (!x5))] H (noU_all rfl) (fun fr => by kernel_rfl) ?_
  intro fr H
  refine at_nil ?_
  show AW cfg 65 g (right (left (right (right (right (right (bodyC cfg.P 65))))))) fr h5 _
  rcases iteB_some hm with ⟨hb, hm⟩ | ⟨hb, hm⟩
  ·replace H := H.know 36 hb (by kernel_rfl)
   refine aw_true (x := .tmp 36) (by kernel_rfl) H (fun fr => by kernel_rfl) ?_
   refine aw_seq (by kernel_rfl) ?_
   refine aw_reg (id := 6) (n := 3) [(0, []), (1, []), (2, [])] (by kernel_rfl) (by kernel_rfl) ?_
   refine at_seg [(0, []), (1, [])] [(6, .ptr (some (h1.size, 0))), (38, .agg [.int .i64 (11 : Int), .int .i64 p2])] H (noU_all rfl) (fun fr => by kernel_rfl) ?_
   intro fr H
   obtain ⟨h6, hx, A1⟩ := A.st 0 rfl (o := 0) (new := [.int .i64 (11 : Int), .int .i64 p2]) (ds := [.int .i64 (11 : Int), .int .i64 p2]) (Nat.le_of_ble_eq_true rfl) rfl rfl
   replace A : HH g h6 [.obj h1.size (.cells none 2 [.int .i64 (11 : Int), .int .i64 p2]), .obj h.size (.cells none 2 [.ptr (some (bp0, 0))]), .obj bp0 (.cells none 2 [rowV rp0_0 p0.c_.Includes.length, rowV rp0_1 p0.c_.Excludes.length, rowV rp0_2 p0.c_.Exprs.length, .bool p0.c_.Vcs, .bool p0.c_.Backups, .int .i64 p0.c_.Caches, .bool p0.c_.Dated, .int .i64 p0.c_.Newer.Sec, .int .i64 p0.c_.Newer.Nsec, .int .i64 p0.c_.Nth, .int .i64 p0.c_.Strip, .int .i64 p0.c_.Name, .int .i64 p0.c_.Head, .int .i64 p0.c_.States, .str p0.flags_.Text, .bool p0.flags_.Anchored, .bool p0.flags_.Fold, .bool p0.flags_.Slash, .str p0.rest_, .int .i64 p0.at_, .map (some bp0_20)]), .lst rp0_0 87 (lst e_S_pattern_Rule p0.c_.Includes), .lst rp0_1 87 (lst e_S_pattern_Rule p0.c_.Excludes), .lst rp0_2 24 (lst e_S_rewrite_Expr p0.c_.Exprs), .obj bp0_20 (.map 2 (encM (fun k : List UInt8 => .str k) (fun v : Bool => .bool v) p0.seen_))] F := A1
   refine at_step (v := .tuple []) (h1 := h6) [(6, .ptr (some (h1.size, 0)))] H (fun fr => by kernel_rfl) (fun fr => .of (s_stG (by kernel_rfl) (stG_st hx rfl))) ?_
   intro fr t H
   refine at_nil ?_
   show AW cfg 65 g (right (left (right (left (right (right (right (right (bodyC cfg.P 65))))))))) fr h6 _
   refine aw_ret (by kernel_rfl) ?_
   have e0 := Option.some.inj hm
   obtain ⟨y0, z0⟩ := Prod.mk.inj e0
   obtain ⟨y1, z1⟩ := Prod.mk.inj z0
   subst y0
   subst y1
   subst z1
   refine ⟨.inl rfl, .agg [.int .i64 (11 : Int), .int .i64 p2], resL_one (.cell (resT H (fun fr => by kernel_rfl)) (load_ldA (by kernel_rfl) (by kernel_rfl) (A.ldA 0 rfl (o := 0) (n := 2) ⟨Nat.le_of_ble_eq_true rfl, rfl⟩)) .nil), ?_⟩
   replace A : HH g h6 [.obj bp0 (.cells none 2 [rowV rp0_0 p0.c_.Includes.length, rowV rp0_1 p0.c_.Excludes.length, rowV rp0_2 p0.c_.Exprs.length, .bool p0.c_.Vcs, .bool p0.c_.Backups, .int .i64 p0.c_.Caches, .bool p0.c_.Dated, .int .i64 p0.c_.Newer.Sec, .int .i64 p0.c_.Newer.Nsec, .int .i64 p0.c_.Nth, .int .i64 p0.c_.Strip, .int .i64 p0.c_.Name, .int .i64 p0.c_.Head, .int .i64 p0.c_.States, .str p0.flags_.Text, .bool p0.flags_.Anchored, .bool p0.flags_.Fold, .bool p0.flags_.Slash, .str p0.rest_, .int .i64 p0.at_, .map (some bp0_20)]), .lst rp0_0 87 (lst e_S_pattern_Rule p0.c_.Includes), .lst rp0_1 87 (lst e_S_pattern_Rule p0.c_.Excludes), .lst rp0_2 24 (lst e_S_rewrite_Expr p0.c_.Exprs), .obj bp0_20 (.map 2 (encM (fun k : List UInt8 => .str k) (fun v : Bool => .bool v) p0.seen_))] F := (HH.dropF (((((A.front 6 rfl).front 6 rfl).front 6 rfl).front 6 rfl).front 6 rfl) 5)
   exact ⟨rp0_1, rfl, A⟩
  ·replace H := H.know 36 hb (by kernel_rfl)
   refine aw_false (x := .tmp 36) (by kernel_rfl) H (fun fr => by kernel_rfl) ?_
   refine aw_skip (by kernel_rfl) ?_
   show AW cfg 65 g (right (right (right (right (right (bodyC cfg.P 65)))))) fr h5 _
   refine aw_seq (by kernel_rfl) ?_
   refine aw_reg (id := 7) (n := 6) [(0, []), (1, []), (2, []), (3, []), (4, []), (5, [])] (by kernel_rfl) (by kernel_rfl) ?_
   refine at_step (v := .ptr (some (bp0, 0))) (h1 := h5) [(3, .ptr (some (h.size, 0))), (6, .ptr (some (h1.size, 0))), (9, .str x3), (10, .str x4), (39, .ptr (some (bp0, 0)))] H (fun fr => by kernel_rfl) (fun fr => .of (s_ld (by kernel_rfl) (A.ld1 1 rfl (o := 0) rfl))) ?_
   intro fr t H
   refine at_seg [(1, []), (2, [])] [(3, .ptr (some (h.size, 0))), (6, .ptr (some (h1.size, 0))), (9, .str x3), (10, .str x4), (41, .ptr (some (bp0, 19)))] H (noU_all rfl) (fun fr => by kernel_rfl) ?_
   intro fr H
   refine at_step (v := .int .i64 p0.at_) (h1 := h5) [(3, .ptr (some (h.size, 0))), (6, .ptr (some (h1.size, 0))), (9, .str x3), (10, .str x4), (42, .int .i64 p0.at_)] H (fun fr => by kernel_rfl) (fun fr => .of (s_ld (by kernel_rfl) (A.ld1 2 rfl (o := 19) rfl))) ?_
   intro fr t H
   obtain ⟨h7, e3⟩ : ∃ x, x = h5.push (.cells none 2 [.int .i64 (0 : Int)]) := ⟨_, rfl⟩
   replace A := (A.push _).to e3
   refine at_step (v := .ptr (some (h5.size, 0))) (h1 := h7) [(3, .ptr (some (h.size, 0))), (6, .ptr (some (h1.size, 0))), (9, .str x3), (10, .str x4), (11, .ptr (some (h5.size, 0))), (42, .int .i64 p0.at_)] H (fun fr => by kernel_rfl) (fun fr => .of (s_n' (by kernel_rfl) (congrArg some e3.symm))) ?_
   intro fr t H
   obtain ⟨h8, hx, A1⟩ := A.st 0 rfl (o := 0) (new := [.int .i64 p0.at_]) (ds := [.int .i64 p0.at_]) (Nat.le_of_ble_eq_true rfl) rfl rfl
   replace A : HH g h8 [.obj h5.size (.cells none 2 [.int .i64 p0.at_]), .obj h1.size (.cells none 2 [.int .i64 (0 : Int), .int .i64 (0 : Int)]), .obj h.size (.cells none 2 [.ptr (some (bp0, 0))]), .obj bp0 (.cells none 2 [rowV rp0_0 p0.c_.Includes.length, rowV rp0_1 p0.c_.Excludes.length, rowV rp0_2 p0.c_.Exprs.length, .bool p0.c_.Vcs, .bool p0.c_.Backups, .int .i64 p0.c_.Caches, .bool p0.c_.Dated, .int .i64 p0.c_.Newer.Sec, .int .i64 p0.c_.Newer.Nsec, .int .i64 p0.c_.Nth, .int .i64 p0.c_.Strip, .int .i64 p0.c_.Name, .int .i64 p0.c_.Head, .int .i64 p0.c_.States, .str p0.flags_.Text, .bool p0.flags_.Anchored, .bool p0.flags_.Fold, .bool p0.flags_.Slash, .str p0.rest_, .int .i64 p0.at_, .map (some bp0_20)]), .lst rp0_0 87 (lst e_S_pattern_Rule p0.c_.Includes), .lst rp0_1 87 (lst e_S_pattern_Rule p0.c_.Excludes), .lst rp0_2 24 (lst e_S_rewrite_Expr p0.c_.Exprs), .obj bp0_20 (.map 2 (encM (fun k : List UInt8 => .str k) (fun v : Bool => .bool v) p0.seen_))] F := A1
   refine at_step (v := .tuple []) (h1 := h8) [(3, .ptr (some (h.size, 0))), (6, .ptr (some (h1.size, 0))), (9, .str x3), (10, .str x4), (11, .ptr (some (h5.size, 0)))] H (fun fr => by kernel_rfl) (fun fr => .of (s_st (by kernel_rfl) rfl hx)) ?_
   intro fr t H
   refine at_nil ?_
   show AW cfg 65 g (right (right (right (right (right (right (bodyC cfg.P 65))))))) fr h8 _
   refine aw_seq (by kernel_rfl) ?_
   refine aw_draw (id := 8) (n := 16) (by kernel_rfl) [(0, []), (1, []), (2, []), (3, []), (4, []), (5, []), (6, []), (7, []), (8, []), (9, []), (10, []), (11, []), (12, [1]), (13, []), (14, []), (15, [])] (by kernel_rfl) ?_
   refine at_stepT (v := .ptr (some (bp0, 0))) (h1 := h8) (tch' := [(0, h.size)]) (g.prot) [(3, .ptr (some (h.size, 0))), (6, .ptr (some (h1.size, 0))), (9, .str x3), (10, .str x4), (11, .ptr (some (h5.size, 0))), (43, .ptr (some (bp0, 0)))] H (fun fr => by kernel_rfl) (by kernel_rfl) (fun fr => by kernel_rfl) (fun fr => .of (s_ld (by kernel_rfl) (A.ld1 2 rfl (o := 0) rfl))) (fun fr => by kernel_rfl) ?_
   intro fr H
   refine at_stepT (v := .ptr (some (bp0, 0))) (h1 := h8) (tch' := [(1, h.size), (0, h.size)]) (g.prot) [(3, .ptr (some (h.size, 0))), (6, .ptr (some (h1.size, 0))), (9, .str x3), (10, .str x4), (11, .ptr (some (h5.size, 0))), (43, .ptr (some (bp0, 0))), (44, .ptr (some (bp0, 0)))] H (fun fr => by kernel_rfl) (by kernel_rfl) (fun fr => by kernel_rfl) (fun fr => .of (s_ld (by kernel_rfl) (A.ld1 2 rfl (o := 0) rfl))) (fun fr => by kernel_rfl) ?_
   intro fr H
   refine at_seg [(2, [])] [(3, .ptr (some (h.size, 0))), (6, .ptr (some (h1.size, 0))), (9, .str x3), (11, .ptr (some (h5.size, 0))), (43, .ptr (some (bp0, 0))), (44, .ptr (some (bp0, 0))), (45, .str x4)] H (noU_all rfl) (fun fr => by kernel_rfl) ?_
   intro fr H
   refine at_stepT (v := .ptr (some (bp0, 0))) (h1 := h8) (tch' := [(3, h.size), (1, h.size), (0, h.size)]) (g.prot) [(3, .ptr (some (h.size, 0))), (6, .ptr (some (h1.size, 0))), (9, .str x3), (11, .ptr (some (h5.size, 0))), (43, .ptr (some (bp0, 0))), (44, .ptr (some (bp0, 0))), (45, .str x4), (46, .ptr (some (bp0, 0)))] H (fun fr => by kernel_rfl) (by kernel_rfl) (fun fr => by kernel_rfl) (fun fr => .of (s_ld (by kernel_rfl) (A.ld1 2 rfl (o := 0) rfl))) (fun fr => by kernel_rfl) ?_
   intro fr H
   refine at_seg [(4, []), (5, [])] [(3, .ptr (some (h.size, 0))), (6, .ptr (some (h1.size, 0))), (9, .str x3), (11, .ptr (some (h5.size, 0))), (43, .ptr (some (bp0, 0))), (44, .ptr (some (bp0, 0))), (45, .str x4), (48, .ptr (some (bp0, 19)))] H (noU_all rfl) (fun fr => by kernel_rfl) ?_
   intro fr H
   refine at_stepT (v := .int .i64 p0.at_) (h1 := h8) (tch' := [(6, bp0), (3, h.size), (1, h.size), (0, h.size)]) (g.prot) [(3, .ptr (some (h.size, 0))), (6, .ptr (some (h1.size, 0))), (9, .str x3), (11, .ptr (some (h5.size, 0))), (43, .ptr (some (bp0, 0))), (44, .ptr (some (bp0, 0))), (45, .str x4), (49, .int .i64 p0.at_)] H (fun fr => by kernel_rfl) (by kernel_rfl) (fun fr => by kernel_rfl) (fun fr => .of (s_ld (by kernel_rfl) (A.ld1 3 rfl (o := 19) rfl))) (fun fr => by kernel_rfl) ?_
   intro fr H
   refine at_seg [(7, []), (8, []), (9, []), (10, []), (11, [])] [(3, .ptr (some (h.size, 0))), (6, .ptr (some (h1.size, 0))), (9, .str x3), (11, .ptr (some (h5.size, 0))), (44, .ptr (some (bp0, 0))), (45, .str x4), (52, .int .i64 (IntKind.i64.wrap (p0.at_ + (x3.length : Int)))), (54, .ptr (some (bp0, 18)))] H (noU_all rfl) (fun fr => by kernel_rfl) ?_
   intro fr H
   replace A : HH g h8 [.obj bp0 (.cells none 2 [rowV rp0_0 p0.c_.Includes.length, rowV rp0_1 p0.c_.Excludes.length, rowV rp0_2 p0.c_.Exprs.length, .bool p0.c_.Vcs, .bool p0.c_.Backups, .int .i64 p0.c_.Caches, .bool p0.c_.Dated, .int .i64 p0.c_.Newer.Sec, .int .i64 p0.c_.Newer.Nsec, .int .i64 p0.c_.Nth, .int .i64 p0.c_.Strip, .int .i64 p0.c_.Name, .int .i64 p0.c_.Head, .int .i64 p0.c_.States, .str p0.flags_.Text, .bool p0.flags_.Anchored, .bool p0.flags_.Fold, .bool p0.flags_.Slash, .str p0.rest_, .int .i64 p0.at_, .map (some bp0_20)]), .obj h5.size (.cells none 2 [.int .i64 p0.at_]), .obj h1.size (.cells none 2 [.int .i64 (0 : Int), .int .i64 (0 : Int)]), .obj h.size (.cells none 2 [.ptr (some (bp0, 0))]), .lst rp0_0 87 (lst e_S_pattern_Rule p0.c_.Includes), .lst rp0_1 87 (lst e_S_pattern_Rule p0.c_.Excludes), .lst rp0_2 24 (lst e_S_rewrite_Expr p0.c_.Exprs), .obj bp0_20 (.map 2 (encM (fun k : List UInt8 => .str k) (fun v : Bool => .bool v) p0.seen_))] F := (A.front 3 rfl)
   have A1 := A.prot2 1 (pr := [h.size]) (.cons 2 rfl (by simp [Ck.ids]) .nil)
   obtain ⟨h9, hx, A1⟩ := A1.st 0 rfl (o := 18) (new := [.str x4]) (ds := [rowV rp0_0 p0.c_.Includes.length, rowV rp0_1 p0.c_.Excludes.length, rowV rp0_2 p0.c_.Exprs.length, .bool p0.c_.Vcs, .bool p0.c_.Backups, .int .i64 p0.c_.Caches, .bool p0.c_.Dated, .int .i64 p0.c_.Newer.Sec, .int .i64 p0.c_.Newer.Nsec, .int .i64 p0.c_.Nth, .int .i64 p0.c_.Strip, .int .i64 p0.c_.Name, .int .i64 p0.c_.Head, .int .i64 p0.c_.States, .str p0.flags_.Text, .bool p0.flags_.Anchored, .bool p0.flags_.Fold, .bool p0.flags_.Slash, .str x4, .int .i64 p0.at_, .map (some bp0_20)]) (Nat.le_of_ble_eq_true rfl) rfl rfl
   replace A : HH g h9 [.obj bp0 (.cells none 2 [rowV rp0_0 p0.c_.Includes.length, rowV rp0_1 p0.c_.Excludes.length, rowV rp0_2 p0.c_.Exprs.length, .bool p0.c_.Vcs, .bool p0.c_.Backups, .int .i64 p0.c_.Caches, .bool p0.c_.Dated, .int .i64 p0.c_.Newer.Sec, .int .i64 p0.c_.Newer.Nsec, .int .i64 p0.c_.Nth, .int .i64 p0.c_.Strip, .int .i64 p0.c_.Name, .int .i64 p0.c_.Head, .int .i64 p0.c_.States, .str p0.flags_.Text, .bool p0.flags_.Anchored, .bool p0.flags_.Fold, .bool p0.flags_.Slash, .str x4, .int .i64 p0.at_, .map (some bp0_20)]), .obj h5.size (.cells none 2 [.int .i64 p0.at_]), .obj h1.size (.cells none 2 [.int .i64 (0 : Int), .int .i64 (0 : Int)]), .obj h.size (.cells none 2 [.ptr (some (bp0, 0))]), .lst rp0_0 87 (lst e_S_pattern_Rule p0.c_.Includes), .lst rp0_1 87 (lst e_S_pattern_Rule p0.c_.Excludes), .lst rp0_2 24 (lst e_S_rewrite_Expr p0.c_.Exprs), .obj bp0_20 (.map 2 (encM (fun k : List UInt8 => .str k) (fun v : Bool => .bool v) p0.seen_))] F := A.glueP (n := 1) A1
   refine at_stepT (v := .tuple []) (h1 := h9) (tch' := [(6, bp0), (3, h.size), (1, h.size), (0, h.size)]) (h.size :: g.prot) [(3, .ptr (some (h.size, 0))), (6, .ptr (some (h1.size, 0))), (9, .str x3), (11, .ptr (some (h5.size, 0))), (44, .ptr (some (bp0, 0))), (52, .int .i64 (IntKind.i64.wrap (p0.at_ + (x3.length : Int))))] H (fun fr => by kernel_rfl) (by kernel_rfl) (fun fr => by kernel_rfl) (fun fr => .of (s_st (by kernel_rfl) rfl hx)) (fun fr => by kernel_rfl) ?_
   intro fr H
   refine at_seg [(13, []), (14, [])] [(3, .ptr (some (h.size, 0))), (6, .ptr (some (h1.size, 0))), (9, .str x3), (11, .ptr (some (h5.size, 0))), (52, .int .i64 (IntKind.i64.wrap (p0.at_ + (x3.length : Int)))), (56, .ptr (some (bp0, 19)))] H (noU_all rfl) (fun fr => by kernel_rfl) ?_
   intro fr H
   obtain ⟨h10, hx, A1⟩ := A.st 0 rfl (o := 19) (new := [.int .i64 (IntKind.i64.wrap (p0.at_ + (x3.length : Int)))]) (ds := [rowV rp0_0 p0.c_.Includes.length, rowV rp0_1 p0.c_.Excludes.length, rowV rp0_2 p0.c_.Exprs.length, .bool p0.c_.Vcs, .bool p0.c_.Backups, .int .i64 p0.c_.Caches, .bool p0.c_.Dated, .int .i64 p0.c_.Newer.Sec, .int .i64 p0.c_.Newer.Nsec, .int .i64 p0.c_.Nth, .int .i64 p0.c_.Strip, .int .i64 p0.c_.Name, .int .i64 p0.c_.Head, .int .i64 p0.c_.States, .str p0.flags_.Text, .bool p0.flags_.Anchored, .bool p0.flags_.Fold, .bool p0.flags_.Slash, .str x4, .int .i64 (IntKind.i64.wrap (p0.at_ + (x3.length : Int))), .map (some bp0_20)]) (Nat.le_of_ble_eq_true rfl) rfl rfl
   replace A : HH g h10 [.obj bp0 (.cells none 2 [rowV rp0_0 p0.c_.Includes.length, rowV rp0_1 p0.c_.Excludes.length, rowV rp0_2 p0.c_.Exprs.length, .bool p0.c_.Vcs, .bool p0.c_.Backups, .int .i64 p0.c_.Caches, .bool p0.c_.Dated, .int .i64 p0.c_.Newer.Sec, .int .i64 p0.c_.Newer.Nsec, .int .i64 p0.c_.Nth, .int .i64 p0.c_.Strip, .int .i64 p0.c_.Name, .int .i64 p0.c_.Head, .int .i64 p0.c_.States, .str p0.flags_.Text, .bool p0.flags_.Anchored, .bool p0.flags_.Fold, .bool p0.flags_.Slash, .str x4, .int .i64 (IntKind.i64.wrap (p0.at_ + (x3.length : Int))), .map (some bp0_20)]), .obj h5.size (.cells none 2 [.int .i64 p0.at_]), .obj h1.size (.cells none 2 [.int .i64 (0 : Int), .int .i64 (0 : Int)]), .obj h.size (.cells none 2 [.ptr (some (bp0, 0))]), .lst rp0_0 87 (lst e_S_pattern_Rule p0.c_.Includes), .lst rp0_1 87 (lst e_S_pattern_Rule p0.c_.Excludes), .lst rp0_2 24 (lst e_S_rewrite_Expr p0.c_.Exprs), .obj bp0_20 (.map 2 (encM (fun k : List UInt8 => .str k) (fun v : Bool => .bool v) p0.seen_))] F := A1
   refine at_stepT (v := .tuple []) (h1 := h10) (tch' := [(6, bp0), (3, h.size), (1, h.size), (0, h.size)]) (g.prot) [(3, .ptr (some (h.size, 0))), (6, .ptr (some (h1.size, 0))), (9, .str x3), (11, .ptr (some (h5.size, 0)))] H (fun fr => by kernel_rfl) (by kernel_rfl) (fun fr => by kernel_rfl) (fun fr => .of (s_st (by kernel_rfl) rfl hx)) (fun fr => by kernel_rfl) ?_
   intro fr H
   refine at_nil ?_
   show AW cfg 65 g (right (right (right (right (right (right (right (bodyC cfg.P 65)))))))) fr h10 _
   refine aw_seq (by kernel_rfl) ?_
   refine aw_seq (by kernel_rfl) ?_
   refine aw_reg (id := 9) (n := 2) [(0, []), (1, [])] (by kernel_rfl) (by kernel_rfl) ?_
   refine at_seg [(0, [])] [(3, .ptr (some (h.size, 0))), (6, .ptr (some (h1.size, 0))), (11, .ptr (some (h5.size, 0))), (57, .str x3)] H (noU_all rfl) (fun fr => by kernel_rfl) ?_
   intro fr H
   have A1 := A.cut 0
   obtain ⟨x6_10, hx, hm⟩ := bind_some hm
   obtain ⟨v1, h11, hr, bqw6_10, rfl, A1⟩ := ok_strings_Lines (av := [.str x3]) hx (by kernel_rfl) A1
   replace A : HH g h11 [.obj bqw6_10 (.cells none 2 [.str x6_10]), .obj bp0 (.cells none 2 [rowV rp0_0 p0.c_.Includes.length, rowV rp0_1 p0.c_.Excludes.length, rowV rp0_2 p0.c_.Exprs.length, .bool p0.c_.Vcs, .bool p0.c_.Backups, .int .i64 p0.c_.Caches, .bool p0.c_.Dated, .int .i64 p0.c_.Newer.Sec, .int .i64 p0.c_.Newer.Nsec, .int .i64 p0.c_.Nth, .int .i64 p0.c_.Strip, .int .i64 p0.c_.Name, .int .i64 p0.c_.Head, .int .i64 p0.c_.States, .str p0.flags_.Text, .bool p0.flags_.Anchored, .bool p0.flags_.Fold, .bool p0.flags_.Slash, .str x4, .int .i64 (IntKind.i64.wrap (p0.at_ + (x3.length : Int))), .map (some bp0_20)]), .obj h5.size (.cells none 2 [.int .i64 p0.at_]), .obj h1.size (.cells none 2 [.int .i64 (0 : Int), .int .i64 (0 : Int)]), .obj h.size (.cells none 2 [.ptr (some (bp0, 0))]), .lst rp0_0 87 (lst e_S_pattern_Rule p0.c_.Includes), .lst rp0_1 87 (lst e_S_pattern_Rule p0.c_.Excludes), .lst rp0_2 24 (lst e_S_rewrite_Expr p0.c_.Exprs), .obj bp0_20 (.map 2 (encM (fun k : List UInt8 => .str k) (fun v : Bool => .bool v) p0.seen_))] F := A.glue0 (n := 0) A1
   refine at_step (v := .func (.func 144) [] [.ptr (some (bqw6_10, 0))]) (h1 := h11) [(3, .ptr (some (h.size, 0))), (6, .ptr (some (h1.size, 0))), (11, .ptr (some (h5.size, 0))), (58, .func (.func 144) [] [.ptr (some (bqw6_10, 0))])] H (fun fr => by kernel_rfl) (fun fr => Steps.call (by kernel_rfl) hr) ?_
   intro fr t H
   refine at_nil ?_
   show AW cfg 65 g (right (left (right (right (right (right (right (right (right (bodyC cfg.P 65)))))))))) fr h11 _
   refine aw_block (id := 0) (by kernel_rfl) ?_
   obtain ⟨⟨x25, y1⟩, ho, hm⟩ := bind_some hm
   refine aw_range (C := cfg) (x := .tmp 58) (ps := [59]) (f' := 144) (first := []) (cap := [.ptr (some (bqw6_10, 0))]) (Lu := [.obj bqw6_10 (.cells none 2 [.str x6_10])]) (Lc := [.obj bp0 (.cells none 2 [rowV rp0_0 p0.c_.Includes.length, rowV rp0_1 p0.c_.Excludes.length, rowV rp0_2 p0.c_.Exprs.length, .bool p0.c_.Vcs, .bool p0.c_.Backups, .int .i64 p0.c_.Caches, .bool p0.c_.Dated, .int .i64 p0.c_.Newer.Sec, .int .i64 p0.c_.Newer.Nsec, .int .i64 p0.c_.Nth, .int .i64 p0.c_.Strip, .int .i64 p0.c_.Name, .int .i64 p0.c_.Head, .int .i64 p0.c_.States, .str p0.flags_.Text, .bool p0.flags_.Anchored, .bool p0.flags_.Fold, .bool p0.flags_.Slash, .str x4, .int .i64 (IntKind.i64.wrap (p0.at_ + (x3.length : Int))), .map (some bp0_20)]), .obj h5.size (.cells none 2 [.int .i64 p0.at_]), .obj h1.size (.cells none 2 [.int .i64 (0 : Int), .int .i64 (0 : Int)]), .obj h.size (.cells none 2 [.ptr (some (bp0, 0))]), .lst rp0_0 87 (lst e_S_pattern_Rule p0.c_.Includes), .lst rp0_1 87 (lst e_S_pattern_Rule p0.c_.Excludes), .lst rp0_2 24 (lst e_S_rewrite_Expr p0.c_.Exprs), .obj bp0_20 (.map 2 (encM (fun k : List UInt8 => .str k) (fun v : Bool => .bool v) p0.seen_))]) (F := F) (ex := fun x => [.str x]) (Y := M_option_reading_lines_sPOOOSI_Y0 p0 x3 x4) (PL := fun s Lc => ∃ (x7 : Int) (x8 : List S_pattern_Rule), (x7, x8) = s ∧ ∃ (r1 : Option Nat), Lc = [.obj bp0 (.cells none 2 [rowV rp0_0 p0.c_.Includes.length, rowV r1 x8.length, rowV rp0_2 p0.c_.Exprs.length, .bool p0.c_.Vcs, .bool p0.c_.Backups, .int .i64 p0.c_.Caches, .bool p0.c_.Dated, .int .i64 p0.c_.Newer.Sec, .int .i64 p0.c_.Newer.Nsec, .int .i64 p0.c_.Nth, .int .i64 p0.c_.Strip, .int .i64 p0.c_.Name, .int .i64 p0.c_.Head, .int .i64 p0.c_.States, .str p0.flags_.Text, .bool p0.flags_.Anchored, .bool p0.flags_.Fold, .bool p0.flags_.Slash, .str x4, .int .i64 (IntKind.i64.wrap (p0.at_ + (x3.length : Int))), .map (some bp0_20)]), .obj h5.size (.cells none 2 [.int .i64 x7]), .obj h1.size (.cells none 2 [.int .i64 (0 : Int), .int .i64 (0 : Int)]), .obj h.size (.cells none 2 [.ptr (some (bp0, 0))]), .lst rp0_0 87 (lst e_S_pattern_Rule p0.c_.Includes), .lst r1 87 (lst e_S_pattern_Rule x8), .lst rp0_2 24 (lst e_S_rewrite_Expr p0.c_.Exprs), .obj bp0_20 (.map 2 (encM (fun k : List UInt8 => .str k) (fun v : Bool => .bool v) p0.seen_))]) (PR := fun r Lc => (∃ (x9 : Int) (x10 : Int) (x11 : Int) (x12 : List S_pattern_Rule), (x9, x10, x11, x12) = r ∧ ∃ (r2 : Option Nat), Lc = [.obj bp0 (.cells none 2 [rowV rp0_0 p0.c_.Includes.length, rowV r2 x12.length, rowV rp0_2 p0.c_.Exprs.length, .bool p0.c_.Vcs, .bool p0.c_.Backups, .int .i64 p0.c_.Caches, .bool p0.c_.Dated, .int .i64 p0.c_.Newer.Sec, .int .i64 p0.c_.Newer.Nsec, .int .i64 p0.c_.Nth, .int .i64 p0.c_.Strip, .int .i64 p0.c_.Name, .int .i64 p0.c_.Head, .int .i64 p0.c_.States, .str p0.flags_.Text, .bool p0.flags_.Anchored, .bool p0.flags_.Fold, .bool p0.flags_.Slash, .str x4, .int .i64 (IntKind.i64.wrap (p0.at_ + (x3.length : Int))), .map (some bp0_20)]), .obj h5.size (.cells none 2 [.int .i64 x9]), .obj h1.size (.cells none 2 [.int .i64 x10, .int .i64 x11]), .obj h.size (.cells none 2 [.ptr (some (bp0, 0))]), .lst rp0_0 87 (lst e_S_pattern_Rule p0.c_.Includes), .lst r2 87 (lst e_S_pattern_Rule x12), .lst rp0_2 24 (lst e_S_rewrite_Expr p0.c_.Exprs), .obj bp0_20 (.map 2 (encM (fun k : List UInt8 => .str k) (fun v : Bool => .bool v) p0.seen_))]) ∨ False) (pe := fun _ => .ret) (s := (p0.at_, p0.c_.Excludes)) (y := y1) (PU := fun L => L = [.obj bqw6_10 (.cells none 2 [.str x25])]) (by kernel_rfl) H (fun fr => by kernel_rfl) (by kernel_rfl) (fun _ => rfl) (by kernel_rfl) A ⟨p0.at_, p0.c_.Excludes, rfl, rp0_1, rfl⟩ ?_ ?_ ?_ ?_ ?_
   ·refine range_body H (kn := fun v1 => [(3, .ptr (some (h.size, 0))), (6, .ptr (some (h1.size, 0))), (11, .ptr (some (h5.size, 0))), (59, .str v1)]) (fun v1 fr => by kernel_rfl) ?_
    clear ho hm A H
    intro g h12 F s v1 o Lc fr H hP hm A
    obtain ⟨x7, x8, rfl, r1, rfl⟩ := hP
    unfold M_option_reading_lines_sPOOOSI_Y0 at hm
    show AW cfg 65 g (left (left (right (left (right (right (right (right (right (right (right (bodyC cfg.P 65)))))))))))) fr h12 _
    refine aw_reg (id := 10) (n := 1) [(0, [])] (by kernel_rfl) (by kernel_rfl) ?_
    refine at_seg [(0, [])] [(3, .ptr (some (h.size, 0))), (6, .ptr (some (h1.size, 0))), (11, .ptr (some (h5.size, 0))), (12, .str v1)] H (noU_all rfl) (fun fr => by kernel_rfl) ?_
    intro fr H
    refine at_nil ?_
    refine ⟨rfl, _, A, ?_⟩
    clear A
    intro h13 F A
    show AW cfg 65 g (right (left (right (left (right (right (right (right (right (right (right (bodyC cfg.P 65)))))))))))) fr h13 _
    refine aw_block (id := 1) (by kernel_rfl) ?_
    refine aw_seq (by kernel_rfl) ?_
    refine aw_seq (by kernel_rfl) ?_
    refine aw_reg (id := 11) (n := 4) [(0, []), (1, []), (2, []), (3, [])] (by kernel_rfl) (by kernel_rfl) ?_
    refine at_seg [(0, [])] [(3, .ptr (some (h.size, 0))), (6, .ptr (some (h1.size, 0))), (11, .ptr (some (h5.size, 0))), (12, .str v1), (60, .str v1)] H (noU_all rfl) (fun fr => by kernel_rfl) ?_
    intro fr H
    have A1 := A.cut 0
    obtain ⟨x13, hx, hm⟩ := bind_some hm
    obtain ⟨v1, h14, hr, rqw7, rfl, A1⟩ := ok_exfile_Lines (av := [.str v1]) hx (by kernel_rfl) A1
    replace A : HH g h14 [.lst rqw7 9 (lst eS x13), .obj bp0 (.cells none 2 [rowV rp0_0 p0.c_.Includes.length, rowV r1 x8.length, rowV rp0_2 p0.c_.Exprs.length, .bool p0.c_.Vcs, .bool p0.c_.Backups, .int .i64 p0.c_.Caches, .bool p0.c_.Dated, .int .i64 p0.c_.Newer.Sec, .int .i64 p0.c_.Newer.Nsec, .int .i64 p0.c_.Nth, .int .i64 p0.c_.Strip, .int .i64 p0.c_.Name, .int .i64 p0.c_.Head, .int .i64 p0.c_.States, .str p0.flags_.Text, .bool p0.flags_.Anchored, .bool p0.flags_.Fold, .bool p0.flags_.Slash, .str x4, .int .i64 (IntKind.i64.wrap (p0.at_ + (x3.length : Int))), .map (some bp0_20)]), .obj h5.size (.cells none 2 [.int .i64 x7]), .obj h1.size (.cells none 2 [.int .i64 (0 : Int), .int .i64 (0 : Int)]), .obj h.size (.cells none 2 [.ptr (some (bp0, 0))]), .lst rp0_0 87 (lst e_S_pattern_Rule p0.c_.Includes), .lst r1 87 (lst e_S_pattern_Rule x8), .lst rp0_2 24 (lst e_S_rewrite_Expr p0.c_.Exprs), .obj bp0_20 (.map 2 (encM (fun k : List UInt8 => .str k) (fun v : Bool => .bool v) p0.seen_))] F := A.glue0 (n := 0) A1
    refine at_step (v := rowV rqw7 x13.length) (h1 := h14) [(3, .ptr (some (h.size, 0))), (6, .ptr (some (h1.size, 0))), (11, .ptr (some (h5.size, 0))), (12, .str v1), (61, rowV rqw7 x13.length)] H (fun fr => by kernel_rfl) (fun fr => Steps.call (by kernel_rfl) hr) ?_
    intro fr t H
    refine at_seg [(2, []), (3, [])] [(3, .ptr (some (h.size, 0))), (6, .ptr (some (h1.size, 0))), (11, .ptr (some (h5.size, 0))), (12, .str v1), (61, rowV rqw7 x13.length), (62, .int .i64 (x13.length : Int)), (63, .int .i64 (0 : Int))] H (noU_all rfl) (fun fr => by kernel_rfl) ?_
    intro fr H
    refine at_nil ?_
    show AW cfg 65 g (right (left (left (right (left (right (left (right (right (right (right (right (right (right (bodyC cfg.P 65))))))))))))))) fr h14 _
    refine aw_block (id := 2) (by kernel_rfl) ?_
    obtain ⟨o1, ho, hm⟩ := bind_some hm
    refine aw_mono (Q' := fun e fr' h' => (∃ (x16 : List S_pattern_Rule), e = .exit 2 ∧ .inl x16 = o1 ∧ ∃ (r4 : Option Nat), Has fr' 86 [(11, .ptr (some (h5.size, 0))), (12, .str v1)] ∧ HH g h' [.obj bp0 (.cells none 2 [rowV rp0_0 p0.c_.Includes.length, rowV r4 x16.length, rowV rp0_2 p0.c_.Exprs.length, .bool p0.c_.Vcs, .bool p0.c_.Backups, .int .i64 p0.c_.Caches, .bool p0.c_.Dated, .int .i64 p0.c_.Newer.Sec, .int .i64 p0.c_.Newer.Nsec, .int .i64 p0.c_.Nth, .int .i64 p0.c_.Strip, .int .i64 p0.c_.Name, .int .i64 p0.c_.Head, .int .i64 p0.c_.States, .str p0.flags_.Text, .bool p0.flags_.Anchored, .bool p0.flags_.Fold, .bool p0.flags_.Slash, .str x4, .int .i64 (IntKind.i64.wrap (p0.at_ + (x3.length : Int))), .map (some bp0_20)]), .obj h5.size (.cells none 2 [.int .i64 x7]), .obj h1.size (.cells none 2 [.int .i64 (0 : Int), .int .i64 (0 : Int)]), .obj h.size (.cells none 2 [.ptr (some (bp0, 0))]), .lst rp0_0 87 (lst e_S_pattern_Rule p0.c_.Includes), .lst r4 87 (lst e_S_pattern_Rule x16), .lst rp0_2 24 (lst e_S_rewrite_Expr p0.c_.Exprs), .obj bp0_20 (.map 2 (encM (fun k : List UInt8 => .str k) (fun v : Bool => .bool v) p0.seen_))] F) ∨ (∃ (x17 : Int) (x18 : Int) (x19 : List S_pattern_Rule), e = .ret ∧ .inr (x17, x18, x19) = o1 ∧ ∃ (r5 : Option Nat), Has fr' 86 [(6, .ptr (some (h1.size, 0)))] ∧ HH g h' [.obj bp0 (.cells none 2 [rowV rp0_0 p0.c_.Includes.length, rowV r5 x19.length, rowV rp0_2 p0.c_.Exprs.length, .bool p0.c_.Vcs, .bool p0.c_.Backups, .int .i64 p0.c_.Caches, .bool p0.c_.Dated, .int .i64 p0.c_.Newer.Sec, .int .i64 p0.c_.Newer.Nsec, .int .i64 p0.c_.Nth, .int .i64 p0.c_.Strip, .int .i64 p0.c_.Name, .int .i64 p0.c_.Head, .int .i64 p0.c_.States, .str p0.flags_.Text, .bool p0.flags_.Anchored, .bool p0.flags_.Fold, .bool p0.flags_.Slash, .str x4, .int .i64 (IntKind.i64.wrap (p0.at_ + (x3.length : Int))), .map (some bp0_20)]), .obj h5.size (.cells none 2 [.int .i64 x7]), .obj h1.size (.cells none 2 [.int .i64 x17, .int .i64 x18]), .obj h.size (.cells none 2 [.ptr (some (bp0, 0))]), .lst rp0_0 87 (lst e_S_pattern_Rule p0.c_.Includes), .lst r5 87 (lst e_S_pattern_Rule x19), .lst rp0_2 24 (lst e_S_rewrite_Expr p0.c_.Exprs), .obj bp0_20 (.map 2 (encM (fun k : List UInt8 => .str k) (fun v : Bool => .bool v) p0.seen_))] F) ∨ False) ?_ ?_
    ·refine aw_loop (by kernel_rfl) (fun (s : (List S_pattern_Rule) × Int) fr' h' => ∃ (x14 : List S_pattern_Rule) (x15 : Int), (x14, x15) = s ∧ ∃ (r3 : Option Nat), Has fr' 86 [(3, .ptr (some (h.size, 0))), (6, .ptr (some (h1.size, 0))), (11, .ptr (some (h5.size, 0))), (12, .str v1), (61, rowV rqw7 x13.length), (62, .int .i64 (x13.length : Int)), (63, .int .i64 x15)] ∧ HH g h' [.lst rqw7 9 (lst eS x13), .obj bp0 (.cells none 2 [rowV rp0_0 p0.c_.Includes.length, rowV r3 x14.length, rowV rp0_2 p0.c_.Exprs.length, .bool p0.c_.Vcs, .bool p0.c_.Backups, .int .i64 p0.c_.Caches, .bool p0.c_.Dated, .int .i64 p0.c_.Newer.Sec, .int .i64 p0.c_.Newer.Nsec, .int .i64 p0.c_.Nth, .int .i64 p0.c_.Strip, .int .i64 p0.c_.Name, .int .i64 p0.c_.Head, .int .i64 p0.c_.States, .str p0.flags_.Text, .bool p0.flags_.Anchored, .bool p0.flags_.Fold, .bool p0.flags_.Slash, .str x4, .int .i64 (IntKind.i64.wrap (p0.at_ + (x3.length : Int))), .map (some bp0_20)]), .obj h5.size (.cells none 2 [.int .i64 x7]), .obj h1.size (.cells none 2 [.int .i64 (0 : Int), .int .i64 (0 : Int)]), .obj h.size (.cells none 2 [.ptr (some (bp0, 0))]), .lst rp0_0 87 (lst e_S_pattern_Rule p0.c_.Includes), .lst r3 87 (lst e_S_pattern_Rule x14), .lst rp0_2 24 (lst e_S_rewrite_Expr p0.c_.Exprs), .obj bp0_20 (.map 2 (encM (fun k : List UInt8 => .str k) (fun v : Bool => .bool v) p0.seen_))] F) ho ⟨x8, (0 : Int), rfl, r1, H.less _ (fun fr => by kernel_rfl), A⟩ ?_
     clear ho hm H A
     intro s q fr h15 hI hm
     obtain ⟨x14, x15, rfl, r3, H, A⟩ := hI
     unfold M_option_reading_lines_sPOOOSI_L1 at hm
     refine aw_seq (by kernel_rfl) ?_
     refine aw_reg (id := 12) (n := 1) [(0, [])] (by kernel_rfl) (by kernel_rfl) ?_
     refine at_seg [(0, [])] [(3, .ptr (some (h.size, 0))), (6, .ptr (some (h1.size, 0))), (11, .ptr (some (h5.size, 0))), (12, .str v1), (61, rowV rqw7 x13.length), (62, .int .i64 (x13.length : Int)), (63, .int .i64 x15), (64, .bool (decide (x15 < (x13.length : Int))))] H (noU_all rfl) (fun fr => by kernel_rfl) ?_
     intro fr H
     refine at_nil ?_
     show AW cfg 65 g (right (left (left (right (left (left (right (left (right (left (right (right (right (right (right (right (right (bodyC cfg.P 65)))))))))))))))))) fr h15 _
     refine aw_seq (by kernel_rfl) ?_
     rcases iteB_some hm with ⟨hb, hm⟩ | ⟨hb, hm⟩
     ·replace H := H.know 64 hb (by kernel_rfl)
      refine aw_true (x := .tmp 64) (by kernel_rfl) H (fun fr => by kernel_rfl) ?_
      refine aw_skip (by kernel_rfl) ?_
      show AW cfg 65 g (right (right (left (left (right (left (left (right (left (right (left (right (right (right (right (right (right (right (bodyC cfg.P 65))))))))))))))))))) fr h15 _
      refine aw_seq (by kernel_rfl) ?_
      refine aw_block (id := 3) (by kernel_rfl) ?_
      refine aw_seq (by kernel_rfl) ?_
      refine aw_reg (id := 13) (n := 3) [(0, []), (1, []), (2, [])] (by kernel_rfl) (by kernel_rfl) ?_
      obtain ⟨x20, hx, hm⟩ := bind_some hm
      obtain ⟨i1, er1, _, hx, hq1⟩ := HH.ixO encS (by decide) A 0 (xs := x13) rfl hx
      refine at_step (v := .ptr (some (i1, x15.toNat * 1))) (h1 := h15) [(3, .ptr (some (h.size, 0))), (6, .ptr (some (h1.size, 0))), (11, .ptr (some (h5.size, 0))), (12, .str v1), (61, rowV rqw7 x13.length), (62, .int .i64 (x13.length : Int)), (63, .int .i64 x15), (65, .ptr (some (i1, x15.toNat * 1)))] H (fun fr => by kernel_rfl) (fun fr => .of (s_ixL (s := rowS rqw7 x13.length) (by kernel_rfl) hx)) ?_
      intro fr t H
      refine at_step (v := .str x20) (h1 := h15) [(3, .ptr (some (h.size, 0))), (6, .ptr (some (h1.size, 0))), (11, .ptr (some (h5.size, 0))), (12, .str v1), (61, rowV rqw7 x13.length), (62, .int .i64 (x13.length : Int)), (63, .int .i64 x15), (66, .str x20)] H (fun fr => by kernel_rfl) (fun fr => .of (s_ld (by kernel_rfl) (row_ld1 encS (HH.row A 0 rfl er1) hq1 (o := 0) rfl))) ?_
      intro fr t H
      refine at_seg [(2, [])] [(3, .ptr (some (h.size, 0))), (6, .ptr (some (h1.size, 0))), (11, .ptr (some (h5.size, 0))), (12, .str v1), (14, .str x20), (61, rowV rqw7 x13.length), (62, .int .i64 (x13.length : Int)), (63, .int .i64 x15)] H (noU_all rfl) (fun fr => by kernel_rfl) ?_
      intro fr H
      refine at_nil ?_
      show AW cfg 65 g (right (left (left (right (right (left (left (right (left (left (right (left (right (left (right (right (right (right (right (right (right (bodyC cfg.P 65)))))))))))))))))))))) fr h15 _
      refine aw_seq (by kernel_rfl) ?_
      refine aw_draw (id := 14) (n := 11) (by kernel_rfl) [(0, []), (1, []), (2, []), (3, []), (4, []), (5, []), (6, []), (7, []), (9, []), (8, [9]), (10, [])] (by kernel_rfl) ?_
      refine at_stepT (v := .ptr (some (bp0, 0))) (h1 := h15) (tch' := [(0, h.size)]) (g.prot) [(3, .ptr (some (h.size, 0))), (6, .ptr (some (h1.size, 0))), (11, .ptr (some (h5.size, 0))), (12, .str v1), (14, .str x20), (61, rowV rqw7 x13.length), (62, .int .i64 (x13.length : Int)), (63, .int .i64 x15), (67, .ptr (some (bp0, 0)))] H (fun fr => by kernel_rfl) (by kernel_rfl) (fun fr => by kernel_rfl) (fun fr => .of (s_ld (by kernel_rfl) (A.ld1 4 rfl (o := 0) rfl))) (fun fr => by kernel_rfl) ?_
      intro fr H
      refine at_seg [(1, [])] [(3, .ptr (some (h.size, 0))), (6, .ptr (some (h1.size, 0))), (11, .ptr (some (h5.size, 0))), (12, .str v1), (61, rowV rqw7 x13.length), (62, .int .i64 (x13.length : Int)), (63, .int .i64 x15), (67, .ptr (some (bp0, 0))), (68, .str x20)] H (noU_all rfl) (fun fr => by kernel_rfl) ?_
      intro fr H
      refine at_stepT (v := .ptr (some (bp0, 0))) (h1 := h15) (tch' := [(2, h.size), (0, h.size)]) (g.prot) [(3, .ptr (some (h.size, 0))), (6, .ptr (some (h1.size, 0))), (11, .ptr (some (h5.size, 0))), (12, .str v1), (61, rowV rqw7 x13.length), (62, .int .i64 (x13.length : Int)), (63, .int .i64 x15), (67, .ptr (some (bp0, 0))), (68, .str x20), (69, .ptr (some (bp0, 0)))] H (fun fr => by kernel_rfl) (by kernel_rfl) (fun fr => by kernel_rfl) (fun fr => .of (s_ld (by kernel_rfl) (A.ld1 4 rfl (o := 0) rfl))) (fun fr => by kernel_rfl) ?_
      intro fr H
      refine at_seg [(3, []), (4, []), (5, [])] [(3, .ptr (some (h.size, 0))), (6, .ptr (some (h1.size, 0))), (11, .ptr (some (h5.size, 0))), (12, .str v1), (61, rowV rqw7 x13.length), (62, .int .i64 (x13.length : Int)), (63, .int .i64 x15), (67, .ptr (some (bp0, 0))), (68, .str x20), (72, .ptr (some (bp0, 1)))] H (noU_all rfl) (fun fr => by kernel_rfl) ?_
      intro fr H
      refine at_stepT (v := .int .i64 x7) (h1 := h15) (tch' := [(6, h5.size), (2, h.size), (0, h.size)]) (g.prot) [(3, .ptr (some (h.size, 0))), (6, .ptr (some (h1.size, 0))), (11, .ptr (some (h5.size, 0))), (12, .str v1), (61, rowV rqw7 x13.length), (62, .int .i64 (x13.length : Int)), (63, .int .i64 x15), (67, .ptr (some (bp0, 0))), (68, .str x20), (72, .ptr (some (bp0, 1))), (73, .int .i64 x7)] H (fun fr => by kernel_rfl) (by kernel_rfl) (fun fr => by kernel_rfl) (fun fr => .of (s_ld (by kernel_rfl) (A.ld1 2 rfl (o := 0) rfl))) (fun fr => by kernel_rfl) ?_
      intro fr H
      refine at_stepT (v := .int .i64 x7) (h1 := h15) (tch' := [(7, h5.size), (6, h5.size), (2, h.size), (0, h.size)]) (g.prot) [(3, .ptr (some (h.size, 0))), (6, .ptr (some (h1.size, 0))), (11, .ptr (some (h5.size, 0))), (12, .str v1), (61, rowV rqw7 x13.length), (62, .int .i64 (x13.length : Int)), (63, .int .i64 x15), (67, .ptr (some (bp0, 0))), (68, .str x20), (72, .ptr (some (bp0, 1))), (73, .int .i64 x7), (74, .int .i64 x7)] H (fun fr => by kernel_rfl) (by kernel_rfl) (fun fr => by kernel_rfl) (fun fr => .of (s_ld (by kernel_rfl) (A.ld1 2 rfl (o := 0) rfl))) (fun fr => by kernel_rfl) ?_
      intro fr H
      obtain ⟨h16, e4⟩ : ∃ x, x = h15.push (.cells none 2 [.int .i64 (0 : Int), .int .i64 (0 : Int)]) := ⟨_, rfl⟩
      replace A := (A.push _).to e4
      refine at_stepT (v := .ptr (some (h15.size, 0))) (h1 := h16) (tch' := [(9, h15.size), (7, h5.size), (6, h5.size), (2, h.size), (0, h.size)]) (g.prot) [(3, .ptr (some (h.size, 0))), (6, .ptr (some (h1.size, 0))), (11, .ptr (some (h5.size, 0))), (12, .str v1), (15, .ptr (some (h15.size, 0))), (61, rowV rqw7 x13.length), (62, .int .i64 (x13.length : Int)), (63, .int .i64 x15), (67, .ptr (some (bp0, 0))), (68, .str x20), (72, .ptr (some (bp0, 1))), (73, .int .i64 x7), (74, .int .i64 x7)] H (fun fr => by kernel_rfl) (by kernel_rfl) (fun fr => by kernel_rfl) (fun fr => .of (s_n' (by kernel_rfl) (congrArg some e4.symm))) (fun fr => by kernel_rfl) ?_
      intro fr H
      replace A : HH g h16 [.obj bp0 (.cells none 2 [rowV rp0_0 p0.c_.Includes.length, rowV r3 x14.length, rowV rp0_2 p0.c_.Exprs.length, .bool p0.c_.Vcs, .bool p0.c_.Backups, .int .i64 p0.c_.Caches, .bool p0.c_.Dated, .int .i64 p0.c_.Newer.Sec, .int .i64 p0.c_.Newer.Nsec, .int .i64 p0.c_.Nth, .int .i64 p0.c_.Strip, .int .i64 p0.c_.Name, .int .i64 p0.c_.Head, .int .i64 p0.c_.States, .str p0.flags_.Text, .bool p0.flags_.Anchored, .bool p0.flags_.Fold, .bool p0.flags_.Slash, .str x4, .int .i64 (IntKind.i64.wrap (p0.at_ + (x3.length : Int))), .map (some bp0_20)]), .lst rp0_0 87 (lst e_S_pattern_Rule p0.c_.Includes), .lst r3 87 (lst e_S_pattern_Rule x14), .lst rp0_2 24 (lst e_S_rewrite_Expr p0.c_.Exprs), .obj bp0_20 (.map 2 (encM (fun k : List UInt8 => .str k) (fun v : Bool => .bool v) p0.seen_)), .obj h15.size (.cells none 2 [.int .i64 (0 : Int), .int .i64 (0 : Int)]), .lst rqw7 9 (lst eS x13), .obj h5.size (.cells none 2 [.int .i64 x7]), .obj h1.size (.cells none 2 [.int .i64 (0 : Int), .int .i64 (0 : Int)]), .obj h.size (.cells none 2 [.ptr (some (bp0, 0))])] F := (((((A.front 9 rfl).front 9 rfl).front 9 rfl).front 9 rfl).front 6 rfl)
      have A1 := A.prot2 5 (pr := [h15.size]) (.cons 0 rfl (by simp [Ck.ids]) .nil)
      obtain ⟨⟨x21, x22⟩, hx, hm⟩ := bind_some hm
      obtain ⟨v1, h17, hr, r6, rfl, A1⟩ := ok_option_reading_pattern_sPOOOSe0_1II (av := [.ptr (some (bp0, 0)), .str x20, .ptr (some (bp0, 1)), .int .i64 x7, .int .i64 x7]) hx (by kernel_rfl) A1
      replace A : HH g h17 [.obj bp0 (.cells none 2 [rowV rp0_0 p0.c_.Includes.length, rowV r6 x22.length, rowV rp0_2 p0.c_.Exprs.length, .bool p0.c_.Vcs, .bool p0.c_.Backups, .int .i64 p0.c_.Caches, .bool p0.c_.Dated, .int .i64 p0.c_.Newer.Sec, .int .i64 p0.c_.Newer.Nsec, .int .i64 p0.c_.Nth, .int .i64 p0.c_.Strip, .int .i64 p0.c_.Name, .int .i64 p0.c_.Head, .int .i64 p0.c_.States, .str p0.flags_.Text, .bool p0.flags_.Anchored, .bool p0.flags_.Fold, .bool p0.flags_.Slash, .str x4, .int .i64 (IntKind.i64.wrap (p0.at_ + (x3.length : Int))), .map (some bp0_20)]), .lst rp0_0 87 (lst e_S_pattern_Rule p0.c_.Includes), .lst r6 87 (lst e_S_pattern_Rule x22), .lst rp0_2 24 (lst e_S_rewrite_Expr p0.c_.Exprs), .obj bp0_20 (.map 2 (encM (fun k : List UInt8 => .str k) (fun v : Bool => .bool v) p0.seen_)), .obj h15.size (.cells none 2 [.int .i64 (0 : Int), .int .i64 (0 : Int)]), .lst rqw7 9 (lst eS x13), .obj h5.size (.cells none 2 [.int .i64 x7]), .obj h1.size (.cells none 2 [.int .i64 (0 : Int), .int .i64 (0 : Int)]), .obj h.size (.cells none 2 [.ptr (some (bp0, 0))])] F := A.glueP (n := 5) A1
      refine at_stepT (v := .agg [.int .i64 x21.e_, .int .i64 x21.at_]) (h1 := h17) (tch' := [(9, h15.size), (7, h5.size), (6, h5.size), (2, h.size), (0, h.size)]) (h15.size :: g.prot) [(3, .ptr (some (h.size, 0))), (6, .ptr (some (h1.size, 0))), (11, .ptr (some (h5.size, 0))), (12, .str v1), (15, .ptr (some (h15.size, 0))), (61, rowV rqw7 x13.length), (62, .int .i64 (x13.length : Int)), (63, .int .i64 x15), (75, .agg [.int .i64 x21.e_, .int .i64 x21.at_])] H (fun fr => by kernel_rfl) (by kernel_rfl) (fun fr => by kernel_rfl) (fun fr => Steps.call (by kernel_rfl) hr) (fun fr => by kernel_rfl) ?_
      intro fr H
      obtain ⟨h18, hx, A1⟩ := A.st 5 rfl (o := 0) (new := [.int .i64 x21.e_, .int .i64 x21.at_]) (ds := [.int .i64 x21.e_, .int .i64 x21.at_]) (Nat.le_of_ble_eq_true rfl) rfl rfl
      replace A : HH g h18 [.obj bp0 (.cells none 2 [rowV rp0_0 p0.c_.Includes.length, rowV r6 x22.length, rowV rp0_2 p0.c_.Exprs.length, .bool p0.c_.Vcs, .bool p0.c_.Backups, .int .i64 p0.c_.Caches, .bool p0.c_.Dated, .int .i64 p0.c_.Newer.Sec, .int .i64 p0.c_.Newer.Nsec, .int .i64 p0.c_.Nth, .int .i64 p0.c_.Strip, .int .i64 p0.c_.Name, .int .i64 p0.c_.Head, .int .i64 p0.c_.States, .str p0.flags_.Text, .bool p0.flags_.Anchored, .bool p0.flags_.Fold, .bool p0.flags_.Slash, .str x4, .int .i64 (IntKind.i64.wrap (p0.at_ + (x3.length : Int))), .map (some bp0_20)]), .lst rp0_0 87 (lst e_S_pattern_Rule p0.c_.Includes), .lst r6 87 (lst e_S_pattern_Rule x22), .lst rp0_2 24 (lst e_S_rewrite_Expr p0.c_.Exprs), .obj bp0_20 (.map 2 (encM (fun k : List UInt8 => .str k) (fun v : Bool => .bool v) p0.seen_)), .obj h15.size (.cells none 2 [.int .i64 x21.e_, .int .i64 x21.at_]), .lst rqw7 9 (lst eS x13), .obj h5.size (.cells none 2 [.int .i64 x7]), .obj h1.size (.cells none 2 [.int .i64 (0 : Int), .int .i64 (0 : Int)]), .obj h.size (.cells none 2 [.ptr (some (bp0, 0))])] F := A1
      refine at_stepT (v := .tuple []) (h1 := h18) (tch' := [(9, h15.size), (7, h5.size), (6, h5.size), (2, h.size), (0, h.size)]) (g.prot) [(3, .ptr (some (h.size, 0))), (6, .ptr (some (h1.size, 0))), (11, .ptr (some (h5.size, 0))), (12, .str v1), (15, .ptr (some (h15.size, 0))), (61, rowV rqw7 x13.length), (62, .int .i64 (x13.length : Int)), (63, .int .i64 x15)] H (fun fr => by kernel_rfl) (by kernel_rfl) (fun fr => by kernel_rfl) (fun fr => .of (s_stG (by kernel_rfl) (stG_st hx rfl))) (fun fr => by kernel_rfl) ?_
      intro fr H
      refine at_nil ?_
      show AW cfg 65 g (right (right (left (left (right (right (left (left (right (left (left (right (left (right (left (right (right (right (right (right (right (right (bodyC cfg.P 65))))))))))))))))))))))) fr h18 _
      refine aw_seq (by kernel_rfl) ?_
      refine aw_draw (id := 15) (n := 3) (by kernel_rfl) [(0, []), (1, [0]), (2, [])] (by kernel_rfl) ?_
      refine at_stepT (v := .agg [.int .i64 x21.e_, .int .i64 x21.at_]) (h1 := h18) (tch' := [(0, h15.size)]) (g.prot) [(3, .ptr (some (h.size, 0))), (6, .ptr (some (h1.size, 0))), (11, .ptr (some (h5.size, 0))), (12, .str v1), (15, .ptr (some (h15.size, 0))), (61, rowV rqw7 x13.length), (62, .int .i64 (x13.length : Int)), (63, .int .i64 x15), (76, .agg [.int .i64 x21.e_, .int .i64 x21.at_])] H (fun fr => by kernel_rfl) (by kernel_rfl) (fun fr => by kernel_rfl) (fun fr => .of (s_ldA (by kernel_rfl) (A.ldA 5 rfl (o := 0) (n := 2) ⟨Nat.le_of_ble_eq_true rfl, rfl⟩))) (fun fr => by kernel_rfl) ?_
      intro fr H
      have A1 := A.prot2 0 (pr := [h15.size]) (.cons 5 rfl (by simp [Ck.ids]) .nil)
      obtain ⟨x23, hx, hm⟩ := bind_some hm
      obtain ⟨v1, h19, hr, rfl, A1⟩ := ok_option_none (av := []) hx (by kernel_rfl) A1
      replace A : HH g h19 [.obj bp0 (.cells none 2 [rowV rp0_0 p0.c_.Includes.length, rowV r6 x22.length, rowV rp0_2 p0.c_.Exprs.length, .bool p0.c_.Vcs, .bool p0.c_.Backups, .int .i64 p0.c_.Caches, .bool p0.c_.Dated, .int .i64 p0.c_.Newer.Sec, .int .i64 p0.c_.Newer.Nsec, .int .i64 p0.c_.Nth, .int .i64 p0.c_.Strip, .int .i64 p0.c_.Name, .int .i64 p0.c_.Head, .int .i64 p0.c_.States, .str p0.flags_.Text, .bool p0.flags_.Anchored, .bool p0.flags_.Fold, .bool p0.flags_.Slash, .str x4, .int .i64 (IntKind.i64.wrap (p0.at_ + (x3.length : Int))), .map (some bp0_20)]), .lst rp0_0 87 (lst e_S_pattern_Rule p0.c_.Includes), .lst r6 87 (lst e_S_pattern_Rule x22), .lst rp0_2 24 (lst e_S_rewrite_Expr p0.c_.Exprs), .obj bp0_20 (.map 2 (encM (fun k : List UInt8 => .str k) (fun v : Bool => .bool v) p0.seen_)), .obj h15.size (.cells none 2 [.int .i64 x21.e_, .int .i64 x21.at_]), .lst rqw7 9 (lst eS x13), .obj h5.size (.cells none 2 [.int .i64 x7]), .obj h1.size (.cells none 2 [.int .i64 (0 : Int), .int .i64 (0 : Int)]), .obj h.size (.cells none 2 [.ptr (some (bp0, 0))])] F := A.glueP (n := 0) A1
      refine at_stepT (v := .agg [.int .i64 x23.e_, .int .i64 x23.at_]) (h1 := h19) (tch' := [(0, h15.size)]) (h15.size :: g.prot) [(3, .ptr (some (h.size, 0))), (6, .ptr (some (h1.size, 0))), (11, .ptr (some (h5.size, 0))), (12, .str v1), (15, .ptr (some (h15.size, 0))), (61, rowV rqw7 x13.length), (62, .int .i64 (x13.length : Int)), (63, .int .i64 x15), (76, .agg [.int .i64 x21.e_, .int .i64 x21.at_]), (77, .agg [.int .i64 x23.e_, .int .i64 x23.at_])] H (fun fr => by kernel_rfl) (by kernel_rfl) (fun fr => by kernel_rfl) (fun fr => Steps.call (by kernel_rfl) hr) (fun fr => by kernel_rfl) ?_
      intro fr H
      obtain ⟨x24, hx, hm⟩ := bind_some hm
      refine at_stepT (v := .bool (!x24)) (h1 := h19) (tch' := [(0, h15.size)]) (g.prot) [(3, .ptr (some (h.size, 0))), (6, .ptr (some (h1.size, 0))), (11, .ptr (some (h5.size, 0))), (12, .str v1), (15, .ptr (some (h15.size, 0))), (61, rowV rqw7 x13.length), (62, .int .i64 (x13.length : Int)), (63, .int .i64 x15), (78, .bool (!x24))] H (fun fr => by kernel_rfl) (by kernel_rfl) (fun fr => by kernel_rfl) (fun fr => .of (s_neG (by kernel_rfl) hx)) (fun fr => by kernel_rfl) ?_
      intro fr H
      refine at_nil ?_
      show AW cfg 65 g (right (right (right (left (left (right (right (left (left (right (left (left (right (left (right (left (right (right (right (right (right (right (right (bodyC cfg.P 65)))))))))))))))))))))))) fr h19 _
      rcases iteB_some hm with ⟨hb, hm⟩ | ⟨hb, hm⟩
      ·replace H := H.know 78 hb (by kernel_rfl)
       refine aw_true (x := .tmp 78) (by kernel_rfl) H (fun fr => by kernel_rfl) ?_
       refine aw_seq (by kernel_rfl) ?_
       refine aw_reg (id := 16) (n := 2) [(0, []), (1, [])] (by kernel_rfl) (by kernel_rfl) ?_
       refine at_step (v := .agg [.int .i64 x21.e_, .int .i64 x21.at_]) (h1 := h19) [(6, .ptr (some (h1.size, 0))), (79, .agg [.int .i64 x21.e_, .int .i64 x21.at_])] H (fun fr => by kernel_rfl) (fun fr => .of (s_ldA (by kernel_rfl) (A.ldA 5 rfl (o := 0) (n := 2) ⟨Nat.le_of_ble_eq_true rfl, rfl⟩))) ?_
       intro fr t H
       obtain ⟨h20, hx, A1⟩ := A.st 8 rfl (o := 0) (new := [.int .i64 x21.e_, .int .i64 x21.at_]) (ds := [.int .i64 x21.e_, .int .i64 x21.at_]) (Nat.le_of_ble_eq_true rfl) rfl rfl
       replace A : HH g h20 [.obj bp0 (.cells none 2 [rowV rp0_0 p0.c_.Includes.length, rowV r6 x22.length, rowV rp0_2 p0.c_.Exprs.length, .bool p0.c_.Vcs, .bool p0.c_.Backups, .int .i64 p0.c_.Caches, .bool p0.c_.Dated, .int .i64 p0.c_.Newer.Sec, .int .i64 p0.c_.Newer.Nsec, .int .i64 p0.c_.Nth, .int .i64 p0.c_.Strip, .int .i64 p0.c_.Name, .int .i64 p0.c_.Head, .int .i64 p0.c_.States, .str p0.flags_.Text, .bool p0.flags_.Anchored, .bool p0.flags_.Fold, .bool p0.flags_.Slash, .str x4, .int .i64 (IntKind.i64.wrap (p0.at_ + (x3.length : Int))), .map (some bp0_20)]), .lst rp0_0 87 (lst e_S_pattern_Rule p0.c_.Includes), .lst r6 87 (lst e_S_pattern_Rule x22), .lst rp0_2 24 (lst e_S_rewrite_Expr p0.c_.Exprs), .obj bp0_20 (.map 2 (encM (fun k : List UInt8 => .str k) (fun v : Bool => .bool v) p0.seen_)), .obj h15.size (.cells none 2 [.int .i64 x21.e_, .int .i64 x21.at_]), .lst rqw7 9 (lst eS x13), .obj h5.size (.cells none 2 [.int .i64 x7]), .obj h1.size (.cells none 2 [.int .i64 x21.e_, .int .i64 x21.at_]), .obj h.size (.cells none 2 [.ptr (some (bp0, 0))])] F := A1
       refine at_step (v := .tuple []) (h1 := h20) [(6, .ptr (some (h1.size, 0)))] H (fun fr => by kernel_rfl) (fun fr => .of (s_stG (by kernel_rfl) (stG_st hx rfl))) ?_
       intro fr t H
       refine at_nil ?_
       show AW cfg 65 g (right (left (right (right (right (left (left (right (right (left (left (right (left (left (right (left (right (left (right (right (right (right (right (right (right (bodyC cfg.P 65)))))))))))))))))))))))))) fr h20 _
       refine aw_ret (by kernel_rfl) ?_
       replace A : HH g h20 [.obj bp0 (.cells none 2 [rowV rp0_0 p0.c_.Includes.length, rowV r6 x22.length, rowV rp0_2 p0.c_.Exprs.length, .bool p0.c_.Vcs, .bool p0.c_.Backups, .int .i64 p0.c_.Caches, .bool p0.c_.Dated, .int .i64 p0.c_.Newer.Sec, .int .i64 p0.c_.Newer.Nsec, .int .i64 p0.c_.Nth, .int .i64 p0.c_.Strip, .int .i64 p0.c_.Name, .int .i64 p0.c_.Head, .int .i64 p0.c_.States, .str p0.flags_.Text, .bool p0.flags_.Anchored, .bool p0.flags_.Fold, .bool p0.flags_.Slash, .str x4, .int .i64 (IntKind.i64.wrap (p0.at_ + (x3.length : Int))), .map (some bp0_20)]), .obj h5.size (.cells none 2 [.int .i64 x7]), .obj h1.size (.cells none 2 [.int .i64 x21.e_, .int .i64 x21.at_]), .obj h.size (.cells none 2 [.ptr (some (bp0, 0))]), .lst rp0_0 87 (lst e_S_pattern_Rule p0.c_.Includes), .lst r6 87 (lst e_S_pattern_Rule x22), .lst rp0_2 24 (lst e_S_rewrite_Expr p0.c_.Exprs), .obj bp0_20 (.map 2 (encM (fun k : List UInt8 => .str k) (fun v : Bool => .bool v) p0.seen_))] F := (HH.dropF ((((((((A.front 4 rfl).front 4 rfl).front 4 rfl).front 4 rfl).front 9 rfl).front 9 rfl).front 9 rfl).front 7 rfl) 8)
       exact Exists.intro _ (And.intro (Option.some.inj hm).symm (fun e => Or.inr (Or.inl ⟨x21.e_, x21.at_, x22, rfl, e, r6, H.less _ (fun fr => by kernel_rfl), A⟩)))
      ·replace H := H.know 78 hb (by kernel_rfl)
       refine aw_false (x := .tmp 78) (by kernel_rfl) H (fun fr => by kernel_rfl) ?_
       refine aw_skip (by kernel_rfl) ?_
       show AW cfg 65 g (right (right (right (left (left (right (left (left (right (left (right (left (right (right (right (right (right (right (right (bodyC cfg.P 65)))))))))))))))))))) fr h19 _
       refine aw_reg (id := 17) (n := 2) [(0, []), (1, [])] (by kernel_rfl) (by kernel_rfl) ?_
       refine at_seg [(0, []), (1, [])] [(3, .ptr (some (h.size, 0))), (6, .ptr (some (h1.size, 0))), (11, .ptr (some (h5.size, 0))), (12, .str v1), (61, rowV rqw7 x13.length), (62, .int .i64 (x13.length : Int)), (63, .int .i64 (IntKind.i64.wrap (x15 + (1 : Int))))] H (noU_all rfl) (fun fr => by kernel_rfl) ?_
       intro fr H
       refine at_nil ?_
       replace A : HH g h19 [.lst rqw7 9 (lst eS x13), .obj bp0 (.cells none 2 [rowV rp0_0 p0.c_.Includes.length, rowV r6 x22.length, rowV rp0_2 p0.c_.Exprs.length, .bool p0.c_.Vcs, .bool p0.c_.Backups, .int .i64 p0.c_.Caches, .bool p0.c_.Dated, .int .i64 p0.c_.Newer.Sec, .int .i64 p0.c_.Newer.Nsec, .int .i64 p0.c_.Nth, .int .i64 p0.c_.Strip, .int .i64 p0.c_.Name, .int .i64 p0.c_.Head, .int .i64 p0.c_.States, .str p0.flags_.Text, .bool p0.flags_.Anchored, .bool p0.flags_.Fold, .bool p0.flags_.Slash, .str x4, .int .i64 (IntKind.i64.wrap (p0.at_ + (x3.length : Int))), .map (some bp0_20)]), .obj h5.size (.cells none 2 [.int .i64 x7]), .obj h1.size (.cells none 2 [.int .i64 (0 : Int), .int .i64 (0 : Int)]), .obj h.size (.cells none 2 [.ptr (some (bp0, 0))]), .lst rp0_0 87 (lst e_S_pattern_Rule p0.c_.Includes), .lst r6 87 (lst e_S_pattern_Rule x22), .lst rp0_2 24 (lst e_S_rewrite_Expr p0.c_.Exprs), .obj bp0_20 (.map 2 (encM (fun k : List UInt8 => .str k) (fun v : Bool => .bool v) p0.seen_))] F := (HH.dropF (((((((((A.front 4 rfl).front 4 rfl).front 4 rfl).front 4 rfl).front 9 rfl).front 9 rfl).front 9 rfl).front 7 rfl).front 9 rfl) 9)
       exact Exists.intro (x22, IntKind.i64.wrap (x15 + (1 : Int))) (And.intro (Option.some.inj hm).symm ⟨x22, IntKind.i64.wrap (x15 + (1 : Int)), rfl, r6, H.less _ (fun fr => by kernel_rfl), A⟩)
     ·replace H := H.know 64 hb (by kernel_rfl)
      refine aw_false (x := .tmp 64) (by kernel_rfl) H (fun fr => by kernel_rfl) ?_
      refine aw_exit (i := 2) (by kernel_rfl) ?_
      replace A : HH g h15 [.obj bp0 (.cells none 2 [rowV rp0_0 p0.c_.Includes.length, rowV r3 x14.length, rowV rp0_2 p0.c_.Exprs.length, .bool p0.c_.Vcs, .bool p0.c_.Backups, .int .i64 p0.c_.Caches, .bool p0.c_.Dated, .int .i64 p0.c_.Newer.Sec, .int .i64 p0.c_.Newer.Nsec, .int .i64 p0.c_.Nth, .int .i64 p0.c_.Strip, .int .i64 p0.c_.Name, .int .i64 p0.c_.Head, .int .i64 p0.c_.States, .str p0.flags_.Text, .bool p0.flags_.Anchored, .bool p0.flags_.Fold, .bool p0.flags_.Slash, .str x4, .int .i64 (IntKind.i64.wrap (p0.at_ + (x3.length : Int))), .map (some bp0_20)]), .obj h5.size (.cells none 2 [.int .i64 x7]), .obj h1.size (.cells none 2 [.int .i64 (0 : Int), .int .i64 (0 : Int)]), .obj h.size (.cells none 2 [.ptr (some (bp0, 0))]), .lst rp0_0 87 (lst e_S_pattern_Rule p0.c_.Includes), .lst r3 87 (lst e_S_pattern_Rule x14), .lst rp0_2 24 (lst e_S_rewrite_Expr p0.c_.Exprs), .obj bp0_20 (.map 2 (encM (fun k : List UInt8 => .str k) (fun v : Bool => .bool v) p0.seen_))] F := (HH.dropF ((((((((A.front 8 rfl).front 8 rfl).front 8 rfl).front 8 rfl).front 8 rfl).front 8 rfl).front 8 rfl).front 8 rfl) 8)
      exact Exists.intro _ (And.intro (Option.some.inj hm).symm (fun e => Or.inl ⟨x14, rfl, e, r3, H.less _ (fun fr => by kernel_rfl), A⟩))
    ·clear ho
     clear A
     intro e fr h21 hQ
     rcases hQ with ⟨x16, rfl, rfl, r4, H, A⟩ | ⟨x17, x18, x19, rfl, rfl, r5, H, A⟩ | hF
     ·skip
      show AW cfg 65 g (right (left (right (left (right (left (right (right (right (right (right (right (right (bodyC cfg.P 65)))))))))))))) fr h21 _
      refine aw_reg (id := 18) (n := 5) [(0, []), (1, []), (2, []), (3, []), (4, [])] (by kernel_rfl) (by kernel_rfl) ?_
      refine at_step (v := .int .i64 x7) (h1 := h21) [(11, .ptr (some (h5.size, 0))), (12, .str v1), (81, .int .i64 x7)] H (fun fr => by kernel_rfl) (fun fr => .of (s_ld (by kernel_rfl) (A.ld1 1 rfl (o := 0) rfl))) ?_
      intro fr t H
      refine at_seg [(1, []), (2, []), (3, [])] [(11, .ptr (some (h5.size, 0))), (84, .int .i64 (IntKind.i64.wrap (x7 + (v1.length : Int))))] H (noU_all rfl) (fun fr => by kernel_rfl) ?_
      intro fr H
      obtain ⟨h22, hx, A1⟩ := A.st 1 rfl (o := 0) (new := [.int .i64 (IntKind.i64.wrap (x7 + (v1.length : Int)))]) (ds := [.int .i64 (IntKind.i64.wrap (x7 + (v1.length : Int)))]) (Nat.le_of_ble_eq_true rfl) rfl rfl
      replace A : HH g h22 [.obj bp0 (.cells none 2 [rowV rp0_0 p0.c_.Includes.length, rowV r4 x16.length, rowV rp0_2 p0.c_.Exprs.length, .bool p0.c_.Vcs, .bool p0.c_.Backups, .int .i64 p0.c_.Caches, .bool p0.c_.Dated, .int .i64 p0.c_.Newer.Sec, .int .i64 p0.c_.Newer.Nsec, .int .i64 p0.c_.Nth, .int .i64 p0.c_.Strip, .int .i64 p0.c_.Name, .int .i64 p0.c_.Head, .int .i64 p0.c_.States, .str p0.flags_.Text, .bool p0.flags_.Anchored, .bool p0.flags_.Fold, .bool p0.flags_.Slash, .str x4, .int .i64 (IntKind.i64.wrap (p0.at_ + (x3.length : Int))), .map (some bp0_20)]), .obj h5.size (.cells none 2 [.int .i64 (IntKind.i64.wrap (x7 + (v1.length : Int)))]), .obj h1.size (.cells none 2 [.int .i64 (0 : Int), .int .i64 (0 : Int)]), .obj h.size (.cells none 2 [.ptr (some (bp0, 0))]), .lst rp0_0 87 (lst e_S_pattern_Rule p0.c_.Includes), .lst r4 87 (lst e_S_pattern_Rule x16), .lst rp0_2 24 (lst e_S_rewrite_Expr p0.c_.Exprs), .obj bp0_20 (.map 2 (encM (fun k : List UInt8 => .str k) (fun v : Bool => .bool v) p0.seen_))] F := A1
      refine at_step (v := .tuple []) (h1 := h22) [] H (fun fr => by kernel_rfl) (fun fr => .of (s_st (by kernel_rfl) rfl hx)) ?_
      intro fr t H
      refine at_nil ?_
      have e1 := Option.some.inj hm
      subst e1
      exact ⟨rfl, _, ⟨IntKind.i64.wrap (x7 + (v1.length : Int)), x16, rfl, r4, rfl⟩, A⟩
     ·skip
      have e1 := Option.some.inj hm
      subst e1
      exact ⟨rfl, _, Or.inl ⟨x7, x17, x18, x19, rfl, r5, rfl⟩, A⟩
     ·exact hF.elim
   ·intro h1 l F1 R hYR B A
    obtain ⟨v1, h2, hr, _, F2, B, A⟩ := ok_strings_Lines_1_sYP (av := [.yfn l, .ptr (some (bqw6_10, 0))]) ho (by kernel_rfl) hYR B A
    exact ⟨v1, h2, F2, _, hr, B, rfl, A⟩
   ·clear ho A
    intro s2 h23 Lc Lu ey hP hU A
    subst ey
    obtain ⟨x7, x8, rfl, r1, rfl⟩ := hP
    subst hU
    replace A : HH g h23 [.obj bqw6_10 (.cells none 2 [.str x25]), .obj bp0 (.cells none 2 [rowV rp0_0 p0.c_.Includes.length, rowV r1 x8.length, rowV rp0_2 p0.c_.Exprs.length, .bool p0.c_.Vcs, .bool p0.c_.Backups, .int .i64 p0.c_.Caches, .bool p0.c_.Dated, .int .i64 p0.c_.Newer.Sec, .int .i64 p0.c_.Newer.Nsec, .int .i64 p0.c_.Nth, .int .i64 p0.c_.Strip, .int .i64 p0.c_.Name, .int .i64 p0.c_.Head, .int .i64 p0.c_.States, .str p0.flags_.Text, .bool p0.flags_.Anchored, .bool p0.flags_.Fold, .bool p0.flags_.Slash, .str x4, .int .i64 (IntKind.i64.wrap (p0.at_ + (x3.length : Int))), .map (some bp0_20)]), .obj h5.size (.cells none 2 [.int .i64 x7]), .obj h1.size (.cells none 2 [.int .i64 (0 : Int), .int .i64 (0 : Int)]), .obj h.size (.cells none 2 [.ptr (some (bp0, 0))]), .lst rp0_0 87 (lst e_S_pattern_Rule p0.c_.Includes), .lst r1 87 (lst e_S_pattern_Rule x8), .lst rp0_2 24 (lst e_S_rewrite_Expr p0.c_.Exprs), .obj bp0_20 (.map 2 (encM (fun k : List UInt8 => .str k) (fun v : Bool => .bool v) p0.seen_))] F := A
    show AW cfg 65 g (right (right (right (right (right (right (right (right (bodyC cfg.P 65))))))))) fr h23 _
    refine aw_seq (by kernel_rfl) ?_
    refine aw_reg (id := 19) (n := 2) [(0, []), (1, [])] (by kernel_rfl) (by kernel_rfl) ?_
    have A1 := A.cut 0
    obtain ⟨x26, hx, hm⟩ := bind_some hm
    obtain ⟨v1, h24, hr, rfl, A1⟩ := ok_option_none (av := []) hx (by kernel_rfl) A1
    replace A : HH g h24 [.obj bqw6_10 (.cells none 2 [.str x25]), .obj bp0 (.cells none 2 [rowV rp0_0 p0.c_.Includes.length, rowV r1 x8.length, rowV rp0_2 p0.c_.Exprs.length, .bool p0.c_.Vcs, .bool p0.c_.Backups, .int .i64 p0.c_.Caches, .bool p0.c_.Dated, .int .i64 p0.c_.Newer.Sec, .int .i64 p0.c_.Newer.Nsec, .int .i64 p0.c_.Nth, .int .i64 p0.c_.Strip, .int .i64 p0.c_.Name, .int .i64 p0.c_.Head, .int .i64 p0.c_.States, .str p0.flags_.Text, .bool p0.flags_.Anchored, .bool p0.flags_.Fold, .bool p0.flags_.Slash, .str x4, .int .i64 (IntKind.i64.wrap (p0.at_ + (x3.length : Int))), .map (some bp0_20)]), .obj h5.size (.cells none 2 [.int .i64 x7]), .obj h1.size (.cells none 2 [.int .i64 (0 : Int), .int .i64 (0 : Int)]), .obj h.size (.cells none 2 [.ptr (some (bp0, 0))]), .lst rp0_0 87 (lst e_S_pattern_Rule p0.c_.Includes), .lst r1 87 (lst e_S_pattern_Rule x8), .lst rp0_2 24 (lst e_S_rewrite_Expr p0.c_.Exprs), .obj bp0_20 (.map 2 (encM (fun k : List UInt8 => .str k) (fun v : Bool => .bool v) p0.seen_))] F := A.glue0 (n := 0) A1
    refine at_step (v := .agg [.int .i64 x26.e_, .int .i64 x26.at_]) (h1 := h24) [(6, .ptr (some (h1.size, 0))), (85, .agg [.int .i64 x26.e_, .int .i64 x26.at_])] H (fun fr => by kernel_rfl) (fun fr => Steps.call (by kernel_rfl) hr) ?_
    intro fr t H
    obtain ⟨h25, hx, A1⟩ := A.st 3 rfl (o := 0) (new := [.int .i64 x26.e_, .int .i64 x26.at_]) (ds := [.int .i64 x26.e_, .int .i64 x26.at_]) (Nat.le_of_ble_eq_true rfl) rfl rfl
    replace A : HH g h25 [.obj bqw6_10 (.cells none 2 [.str x25]), .obj bp0 (.cells none 2 [rowV rp0_0 p0.c_.Includes.length, rowV r1 x8.length, rowV rp0_2 p0.c_.Exprs.length, .bool p0.c_.Vcs, .bool p0.c_.Backups, .int .i64 p0.c_.Caches, .bool p0.c_.Dated, .int .i64 p0.c_.Newer.Sec, .int .i64 p0.c_.Newer.Nsec, .int .i64 p0.c_.Nth, .int .i64 p0.c_.Strip, .int .i64 p0.c_.Name, .int .i64 p0.c_.Head, .int .i64 p0.c_.States, .str p0.flags_.Text, .bool p0.flags_.Anchored, .bool p0.flags_.Fold, .bool p0.flags_.Slash, .str x4, .int .i64 (IntKind.i64.wrap (p0.at_ + (x3.length : Int))), .map (some bp0_20)]), .obj h5.size (.cells none 2 [.int .i64 x7]), .obj h1.size (.cells none 2 [.int .i64 x26.e_, .int .i64 x26.at_]), .obj h.size (.cells none 2 [.ptr (some (bp0, 0))]), .lst rp0_0 87 (lst e_S_pattern_Rule p0.c_.Includes), .lst r1 87 (lst e_S_pattern_Rule x8), .lst rp0_2 24 (lst e_S_rewrite_Expr p0.c_.Exprs), .obj bp0_20 (.map 2 (encM (fun k : List UInt8 => .str k) (fun v : Bool => .bool v) p0.seen_))] F := A1
    refine at_step (v := .tuple []) (h1 := h25) [(6, .ptr (some (h1.size, 0)))] H (fun fr => by kernel_rfl) (fun fr => .of (s_stG (by kernel_rfl) (stG_st hx rfl))) ?_
    intro fr t H
    refine at_nil ?_
    show AW cfg 65 g (right (right (right (right (right (right (right (right (right (bodyC cfg.P 65)))))))))) fr h25 _
    refine aw_ret (by kernel_rfl) ?_
    have e0 := Option.some.inj hm
    obtain ⟨y0, z0⟩ := Prod.mk.inj e0
    obtain ⟨y1, z1⟩ := Prod.mk.inj z0
    subst y0
    subst y1
    subst z1
    refine ⟨.inl rfl, .agg [.int .i64 x26.e_, .int .i64 x26.at_], resL_one (.cell (resT H (fun fr => by kernel_rfl)) (load_ldA (by kernel_rfl) (by kernel_rfl) (A.ldA 3 rfl (o := 0) (n := 2) ⟨Nat.le_of_ble_eq_true rfl, rfl⟩)) .nil), ?_⟩
    replace A : HH g h25 [.obj bp0 (.cells none 2 [rowV rp0_0 p0.c_.Includes.length, rowV r1 x8.length, rowV rp0_2 p0.c_.Exprs.length, .bool p0.c_.Vcs, .bool p0.c_.Backups, .int .i64 p0.c_.Caches, .bool p0.c_.Dated, .int .i64 p0.c_.Newer.Sec, .int .i64 p0.c_.Newer.Nsec, .int .i64 p0.c_.Nth, .int .i64 p0.c_.Strip, .int .i64 p0.c_.Name, .int .i64 p0.c_.Head, .int .i64 p0.c_.States, .str p0.flags_.Text, .bool p0.flags_.Anchored, .bool p0.flags_.Fold, .bool p0.flags_.Slash, .str x4, .int .i64 (IntKind.i64.wrap (p0.at_ + (x3.length : Int))), .map (some bp0_20)]), .lst rp0_0 87 (lst e_S_pattern_Rule p0.c_.Includes), .lst r1 87 (lst e_S_pattern_Rule x8), .lst rp0_2 24 (lst e_S_rewrite_Expr p0.c_.Exprs), .obj bp0_20 (.map 2 (encM (fun k : List UInt8 => .str k) (fun v : Bool => .bool v) p0.seen_))] F := (HH.dropF (((((A.front 8 rfl).front 8 rfl).front 8 rfl).front 8 rfl).front 5 rfl) 5)
    exact ⟨r1, rfl, A⟩
   ·clear ho A
    intro r2 h23 Lc Lu e ey he hP hU A
    subst ey
    subst hU
    rcases hP with ⟨x9, x10, x11, x12, rfl, r2, rfl⟩ | hF
    ·obtain rfl := exitCode_ret he
     replace A : HH g h23 [.obj bqw6_10 (.cells none 2 [.str x25]), .obj bp0 (.cells none 2 [rowV rp0_0 p0.c_.Includes.length, rowV r2 x12.length, rowV rp0_2 p0.c_.Exprs.length, .bool p0.c_.Vcs, .bool p0.c_.Backups, .int .i64 p0.c_.Caches, .bool p0.c_.Dated, .int .i64 p0.c_.Newer.Sec, .int .i64 p0.c_.Newer.Nsec, .int .i64 p0.c_.Nth, .int .i64 p0.c_.Strip, .int .i64 p0.c_.Name, .int .i64 p0.c_.Head, .int .i64 p0.c_.States, .str p0.flags_.Text, .bool p0.flags_.Anchored, .bool p0.flags_.Fold, .bool p0.flags_.Slash, .str x4, .int .i64 (IntKind.i64.wrap (p0.at_ + (x3.length : Int))), .map (some bp0_20)]), .obj h5.size (.cells none 2 [.int .i64 x9]), .obj h1.size (.cells none 2 [.int .i64 x10, .int .i64 x11]), .obj h.size (.cells none 2 [.ptr (some (bp0, 0))]), .lst rp0_0 87 (lst e_S_pattern_Rule p0.c_.Includes), .lst r2 87 (lst e_S_pattern_Rule x12), .lst rp0_2 24 (lst e_S_rewrite_Expr p0.c_.Exprs), .obj bp0_20 (.map 2 (encM (fun k : List UInt8 => .str k) (fun v : Bool => .bool v) p0.seen_))] F := A
     have e0 := Option.some.inj hm
     obtain ⟨y0, z0⟩ := Prod.mk.inj e0
     obtain ⟨y1, z1⟩ := Prod.mk.inj z0
     subst y0
     subst y1
     subst z1
     refine ⟨.inl rfl, .agg [.int .i64 x10, .int .i64 x11], resL_one (.cell (resT H (fun fr => by kernel_rfl)) (load_ldA (by kernel_rfl) (by kernel_rfl) (A.ldA 3 rfl (o := 0) (n := 2) ⟨Nat.le_of_ble_eq_true rfl, rfl⟩)) .nil), ?_⟩
     replace A : HH g h23 [.obj bp0 (.cells none 2 [rowV rp0_0 p0.c_.Includes.length, rowV r2 x12.length, rowV rp0_2 p0.c_.Exprs.length, .bool p0.c_.Vcs, .bool p0.c_.Backups, .int .i64 p0.c_.Caches, .bool p0.c_.Dated, .int .i64 p0.c_.Newer.Sec, .int .i64 p0.c_.Newer.Nsec, .int .i64 p0.c_.Nth, .int .i64 p0.c_.Strip, .int .i64 p0.c_.Name, .int .i64 p0.c_.Head, .int .i64 p0.c_.States, .str p0.flags_.Text, .bool p0.flags_.Anchored, .bool p0.flags_.Fold, .bool p0.flags_.Slash, .str x4, .int .i64 (IntKind.i64.wrap (p0.at_ + (x3.length : Int))), .map (some bp0_20)]), .lst rp0_0 87 (lst e_S_pattern_Rule p0.c_.Includes), .lst r2 87 (lst e_S_pattern_Rule x12), .lst rp0_2 24 (lst e_S_rewrite_Expr p0.c_.Exprs), .obj bp0_20 (.map 2 (encM (fun k : List UInt8 => .str k) (fun v : Bool => .bool v) p0.seen_))] F := (HH.dropF (((((A.front 8 rfl).front 8 rfl).front 8 rfl).front 8 rfl).front 5 rfl) 5)
     exact ⟨r2, rfl, A⟩
    ·exact hF.elim
   ·exact fun _ => ⟨.ret, rfl⟩
/-! ### boulter/option.words$9 -/
noncomputable def M_option_words_9_sPOOOSII (p0 : S_option_reading) (p1 : List UInt8) (p2 : Int) (p3 : Int) : Option (S_option_flaw × S_option_reading × (List S_pattern_Rule)) :=
 (M_option_reading_lines_sPOOOSI p0 p1 p3).bind fun (x1, x2, x3) => some (x1, (⟨(⟨p0.c_.Includes, x3, p0.c_.Exprs, x2.c_.Vcs, x2.c_.Backups, x2.c_.Caches, x2.c_.Dated, x2.c_.Newer, x2.c_.Nth, x2.c_.Strip, x2.c_.Name, x2.c_.Head, x2.c_.States⟩ : S_option_Config), x2.flags_, x2.rest_, x2.at_, p0.seen_⟩ : S_option_reading), x3)
theorem ok_option_words_9_sPOOOSII {g : Gd} {h : AHeap} {F : List Ck} {p0 : S_option_reading} {p1 : List UInt8} {p2 : Int} {p3 : Int} {bp0 : Nat} {rp0_0 : Option Nat} {rp0_1 : Option Nat} {rp0_2 : Option Nat} {bp0_20 : Nat} {q0 : S_option_flaw} {u0 : S_option_reading} {u2 : List S_pattern_Rule} {av : List AVal} (hm : M_option_words_9_sPOOOSII p0 p1 p2 p3 = some (q0, u0, u2)) (hc : canL (cfg.still 64) av = [.ptr (some (bp0, 0)), .str p1, .int .i64 p2, .int .i64 p3]) (A : HH g h [.obj bp0 (.cells none 2 [rowV rp0_0 p0.c_.Includes.length, rowV rp0_1 p0.c_.Excludes.length, rowV rp0_2 p0.c_.Exprs.length, .bool p0.c_.Vcs, .bool p0.c_.Backups, .int .i64 p0.c_.Caches, .bool p0.c_.Dated, .int .i64 p0.c_.Newer.Sec, .int .i64 p0.c_.Newer.Nsec, .int .i64 p0.c_.Nth, .int .i64 p0.c_.Strip, .int .i64 p0.c_.Name, .int .i64 p0.c_.Head, .int .i64 p0.c_.States, .str p0.flags_.Text, .bool p0.flags_.Anchored, .bool p0.flags_.Fold, .bool p0.flags_.Slash, .str p0.rest_, .int .i64 p0.at_, .map (some bp0_20)]), .lst rp0_0 87 (lst e_S_pattern_Rule p0.c_.Includes), .lst rp0_1 87 (lst e_S_pattern_Rule p0.c_.Excludes), .lst rp0_2 24 (lst e_S_rewrite_Expr p0.c_.Exprs), .obj bp0_20 (.map 2 (encM (fun k : List UInt8 => .str k) (fun v : Bool => .bool v) p0.seen_))] F) : ∃ v h', Runs cfg g h 64 av v h' ∧ ∃ (r'2 : Option Nat), v = .agg [.int .i64 q0.e_, .int .i64 q0.at_] ∧ HH g h' [.obj bp0 (.cells none 2 [rowV rp0_0 p0.c_.Includes.length, rowV r'2 u2.length, rowV rp0_2 p0.c_.Exprs.length, .bool u0.c_.Vcs, .bool u0.c_.Backups, .int .i64 u0.c_.Caches, .bool u0.c_.Dated, .int .i64 u0.c_.Newer.Sec, .int .i64 u0.c_.Newer.Nsec, .int .i64 u0.c_.Nth, .int .i64 u0.c_.Strip, .int .i64 u0.c_.Name, .int .i64 u0.c_.Head, .int .i64 u0.c_.States, .str u0.flags_.Text, .bool u0.flags_.Anchored, .bool u0.flags_.Fold, .bool u0.flags_.Slash, .str u0.rest_, .int .i64 u0.at_, .map (some bp0_20)]), .lst rp0_0 87 (lst e_S_pattern_Rule p0.c_.Includes), .lst r'2 87 (lst e_S_pattern_Rule u2), .lst rp0_2 24 (lst e_S_rewrite_Expr p0.c_.Exprs), .obj bp0_20 (.map 2 (encM (fun k : List UInt8 => .str k) (fun v : Bool => .bool v) p0.seen_))] F := by
 refine runsQ1 (n := 13) (rs := [.cell 8 96]) (by kernel_rfl) hc (by kernel_rfl) ?_
 clear hc
 unfold M_option_words_9_sPOOOSII at hm
 refine start (n := 13) [(0, .ptr (some (bp0, 0))), (1, .str p1), (3, .int .i64 p3)] (by kernel_rfl) (by kernel_rfl) ?_
 intro fr H
 refine aw_seq (by kernel_rfl) ?_
 refine aw_reg (id := 0) (n := 1) [(0, [])] (by kernel_rfl) (by kernel_rfl) ?_
 obtain ⟨h1, e1⟩ : ∃ x, x = h.push (.cells none 2 [.int .i64 (0 : Int), .int .i64 (0 : Int)]) := ⟨_, rfl⟩
 replace A := (A.push _).to e1
 refine at_step (v := .ptr (some (h.size, 0))) (h1 := h1) [(0, .ptr (some (bp0, 0))), (1, .str p1), (3, .int .i64 p3), (8, .ptr (some (h.size, 0)))] H (fun fr => by kernel_rfl) (fun fr => .of (s_n' (by kernel_rfl) (congrArg some e1.symm))) ?_
 intro fr t H
 refine at_nil ?_
 show AW cfg 64 g (right (bodyC cfg.P 64)) fr h1 _
 refine aw_seq (by kernel_rfl) ?_
 refine aw_reg (id := 1) (n := 5) [(0, []), (1, []), (2, []), (3, []), (4, [])] (by kernel_rfl) (by kernel_rfl) ?_
 refine at_seg [(0, []), (1, []), (2, [])] [(8, .ptr (some (h.size, 0))), (9, .ptr (some (bp0, 0))), (10, .str p1), (11, .int .i64 p3)] H (noU_all rfl) (fun fr => by kernel_rfl) ?_
 intro fr H
 replace A : HH g h1 [.obj bp0 (.cells none 2 [rowV rp0_0 p0.c_.Includes.length, rowV rp0_1 p0.c_.Excludes.length, rowV rp0_2 p0.c_.Exprs.length, .bool p0.c_.Vcs, .bool p0.c_.Backups, .int .i64 p0.c_.Caches, .bool p0.c_.Dated, .int .i64 p0.c_.Newer.Sec, .int .i64 p0.c_.Newer.Nsec, .int .i64 p0.c_.Nth, .int .i64 p0.c_.Strip, .int .i64 p0.c_.Name, .int .i64 p0.c_.Head, .int .i64 p0.c_.States, .str p0.flags_.Text, .bool p0.flags_.Anchored, .bool p0.flags_.Fold, .bool p0.flags_.Slash, .str p0.rest_, .int .i64 p0.at_, .map (some bp0_20)]), .lst rp0_0 87 (lst e_S_pattern_Rule p0.c_.Includes), .lst rp0_1 87 (lst e_S_pattern_Rule p0.c_.Excludes), .lst rp0_2 24 (lst e_S_rewrite_Expr p0.c_.Exprs), .obj bp0_20 (.map 2 (encM (fun k : List UInt8 => .str k) (fun v : Bool => .bool v) p0.seen_)), .obj h.size (.cells none 2 [.int .i64 (0 : Int), .int .i64 (0 : Int)])] F := (((((A.front 5 rfl).front 5 rfl).front 5 rfl).front 5 rfl).front 5 rfl)
 have A1 := A.cut 5
 obtain ⟨⟨x1, x2, x3⟩, hx, hm⟩ := bind_some hm
 obtain ⟨v1, h2, hr, r1, rfl, A1⟩ := ok_option_reading_lines_sPOOOSI (av := [.ptr (some (bp0, 0)), .str p1, .int .i64 p3]) hx (by kernel_rfl) A1
 replace A : HH g h2 [.obj bp0 (.cells none 2 [rowV rp0_0 p0.c_.Includes.length, rowV r1 x3.length, rowV rp0_2 p0.c_.Exprs.length, .bool x2.c_.Vcs, .bool x2.c_.Backups, .int .i64 x2.c_.Caches, .bool x2.c_.Dated, .int .i64 x2.c_.Newer.Sec, .int .i64 x2.c_.Newer.Nsec, .int .i64 x2.c_.Nth, .int .i64 x2.c_.Strip, .int .i64 x2.c_.Name, .int .i64 x2.c_.Head, .int .i64 x2.c_.States, .str x2.flags_.Text, .bool x2.flags_.Anchored, .bool x2.flags_.Fold, .bool x2.flags_.Slash, .str x2.rest_, .int .i64 x2.at_, .map (some bp0_20)]), .lst rp0_0 87 (lst e_S_pattern_Rule p0.c_.Includes), .lst r1 87 (lst e_S_pattern_Rule x3), .lst rp0_2 24 (lst e_S_rewrite_Expr p0.c_.Exprs), .obj bp0_20 (.map 2 (encM (fun k : List UInt8 => .str k) (fun v : Bool => .bool v) p0.seen_)), .obj h.size (.cells none 2 [.int .i64 (0 : Int), .int .i64 (0 : Int)])] F := A.glue0 (n := 5) A1
 refine at_step (v := .agg [.int .i64 x1.e_, .int .i64 x1.at_]) (h1 := h2) [(8, .ptr (some (h.size, 0))), (12, .agg [.int .i64 x1.e_, .int .i64 x1.at_])] H (fun fr => by kernel_rfl) (fun fr => Steps.call (by kernel_rfl) hr) ?_
 intro fr t H
 obtain ⟨h3, hx, A1⟩ := A.st 5 rfl (o := 0) (new := [.int .i64 x1.e_, .int .i64 x1.at_]) (ds := [.int .i64 x1.e_, .int .i64 x1.at_]) (Nat.le_of_ble_eq_true rfl) rfl rfl
 replace A : HH g h3 [.obj bp0 (.cells none 2 [rowV rp0_0 p0.c_.Includes.length, rowV r1 x3.length, rowV rp0_2 p0.c_.Exprs.length, .bool x2.c_.Vcs, .bool x2.c_.Backups, .int .i64 x2.c_.Caches, .bool x2.c_.Dated, .int .i64 x2.c_.Newer.Sec, .int .i64 x2.c_.Newer.Nsec, .int .i64 x2.c_.Nth, .int .i64 x2.c_.Strip, .int .i64 x2.c_.Name, .int .i64 x2.c_.Head, .int .i64 x2.c_.States, .str x2.flags_.Text, .bool x2.flags_.Anchored, .bool x2.flags_.Fold, .bool x2.flags_.Slash, .str x2.rest_, .int .i64 x2.at_, .map (some bp0_20)]), .lst rp0_0 87 (lst e_S_pattern_Rule p0.c_.Includes), .lst r1 87 (lst e_S_pattern_Rule x3), .lst rp0_2 24 (lst e_S_rewrite_Expr p0.c_.Exprs), .obj bp0_20 (.map 2 (encM (fun k : List UInt8 => .str k) (fun v : Bool => .bool v) p0.seen_)), .obj h.size (.cells none 2 [.int .i64 x1.e_, .int .i64 x1.at_])] F := A1
 refine at_step (v := .tuple []) (h1 := h3) [(8, .ptr (some (h.size, 0)))] H (fun fr => by kernel_rfl) (fun fr => .of (s_stG (by kernel_rfl) (stG_st hx rfl))) ?_
 intro fr t H
 refine at_nil ?_
 show AW cfg 64 g (right (right (bodyC cfg.P 64))) fr h3 _
 refine aw_ret (by kernel_rfl) ?_
 have e0 := Option.some.inj hm
 obtain ⟨y0, z0⟩ := Prod.mk.inj e0
 obtain ⟨y1, z1⟩ := Prod.mk.inj z0
 subst y0
 subst y1
 subst z1
 refine ⟨.inl rfl, .agg [.int .i64 x1.e_, .int .i64 x1.at_], resL_one (.cell (resT H (fun fr => by kernel_rfl)) (load_ldA (by kernel_rfl) (by kernel_rfl) (A.ldA 5 rfl (o := 0) (n := 2) ⟨Nat.le_of_ble_eq_true rfl, rfl⟩)) .nil), ?_⟩
 replace A : HH g h3 [.obj bp0 (.cells none 2 [rowV rp0_0 p0.c_.Includes.length, rowV r1 x3.length, rowV rp0_2 p0.c_.Exprs.length, .bool x2.c_.Vcs, .bool x2.c_.Backups, .int .i64 x2.c_.Caches, .bool x2.c_.Dated, .int .i64 x2.c_.Newer.Sec, .int .i64 x2.c_.Newer.Nsec, .int .i64 x2.c_.Nth, .int .i64 x2.c_.Strip, .int .i64 x2.c_.Name, .int .i64 x2.c_.Head, .int .i64 x2.c_.States, .str x2.flags_.Text, .bool x2.flags_.Anchored, .bool x2.flags_.Fold, .bool x2.flags_.Slash, .str x2.rest_, .int .i64 x2.at_, .map (some bp0_20)]), .lst rp0_0 87 (lst e_S_pattern_Rule p0.c_.Includes), .lst r1 87 (lst e_S_pattern_Rule x3), .lst rp0_2 24 (lst e_S_rewrite_Expr p0.c_.Exprs), .obj bp0_20 (.map 2 (encM (fun k : List UInt8 => .str k) (fun v : Bool => .bool v) p0.seen_))] F := (HH.dropF (((((A.front 4 rfl).front 4 rfl).front 4 rfl).front 4 rfl).front 4 rfl) 5)
 exact ⟨r1, rfl, A⟩
/-! ### slices.Equal[[]boulter/pattern.Rule,boulter/pattern.Rule] -/
noncomputable def M_slices_Equal_boulter_pattern_Rule_boulter_pattern_Rule_L0 (p0 : List S_pattern_Rule) (p1 : List S_pattern_Rule) (s : Int) : Option ((Int) ⊕ ((Unit) ⊕ (Bool))) :=
 match s with
 | x1 => iteB (decide (x1 < (p0.length : Int))) ((ixV p0 x1).bind fun x3 => (ixV p1 x1).bind fun x4 => (eqG cfg.P 87 [.str x3.Text, .bool x3.Anchored, .bool x3.Fold, .bool x3.Slash] [.str x4.Text, .bool x4.Anchored, .bool x4.Fold, .bool x4.Slash]).bind fun x5 => iteB (!x5) (some (.inr (.inr false))) (some (.inl (IntKind.i64.wrap (x1 + (1 : Int)))))) (some (.inr (.inl ())))
noncomputable def M_slices_Equal_boulter_pattern_Rule_boulter_pattern_Rule (p0 : List S_pattern_Rule) (p1 : List S_pattern_Rule) : Option (Bool) :=
 iteB ((p0.length : Int) != (p1.length : Int)) (some false) ((loop (M_slices_Equal_boulter_pattern_Rule_boulter_pattern_Rule_L0 p0 p1) (0 : Int)).bind fun o1 => (match o1 with | .inl _ => some true | .inr x2 => some x2))
theorem ok_slices_Equal_boulter_pattern_Rule_boulter_pattern_Rule {g : Gd} {h : AHeap} {F : List Ck} {p0 : List S_pattern_Rule} {p1 : List S_pattern_Rule} {q0 : Bool} {av : List AVal} (hm : M_slices_Equal_boulter_pattern_Rule_boulter_pattern_Rule p0 p1 = some q0) (hc : canL (cfg.still 39) av = [vs e_S_pattern_Rule p0, vs e_S_pattern_Rule p1]) (A : HH g h [] F) : ∃ v h', Runs cfg g h 39 av v h' ∧ v = .bool q0 ∧ HH g h' [] F := by
 refine runsQ1 (n := 26) (rs := [.tmp 4]) (by kernel_rfl) hc (by kernel_rfl) ?_
 clear hc
 unfold M_slices_Equal_boulter_pattern_Rule_boulter_pattern_Rule at hm
 refine start (n := 26) [(0, vs e_S_pattern_Rule p0), (1, vs e_S_pattern_Rule p1)] (by kernel_rfl) (by kernel_rfl) ?_
 intro fr H
 refine aw_seq (by kernel_rfl) ?_
 refine aw_reg (id := 0) (n := 1) [(0, [])] (by kernel_rfl) (by kernel_rfl) ?_
 refine at_seg [(0, [])] [(0, vs e_S_pattern_Rule p0), (1, vs e_S_pattern_Rule p1)] H (noU_all rfl) (fun fr => by kernel_rfl) ?_
 intro fr H
 refine at_nil ?_
 show AW cfg 39 g (right (bodyC cfg.P 39)) fr h _
 refine aw_seq (by kernel_rfl) ?_
 refine aw_seq (by kernel_rfl) ?_
 refine aw_reg (id := 1) (n := 5) [(0, []), (1, []), (2, []), (3, []), (4, [])] (by kernel_rfl) (by kernel_rfl) ?_
 refine at_seg [(0, []), (1, []), (2, []), (3, []), (4, [])] [(0, vs e_S_pattern_Rule p0), (1, vs e_S_pattern_Rule p1), (10, .bool ((p0.length : Int) != (p1.length : Int)))] H (noU_all rfl) (fun fr => by kernel_rfl) ?_
 intro fr H
 refine at_nil ?_
 show AW cfg 39 g (right (left (right (bodyC cfg.P 39)))) fr h _
 rcases iteB_some hm with ⟨hb, hm⟩ | ⟨hb, hm⟩
 ·replace H := H.know 10 hb (by kernel_rfl)
  refine aw_true (x := .tmp 10) (by kernel_rfl) H (fun fr => by kernel_rfl) ?_
  refine aw_seq (by kernel_rfl) ?_
  refine aw_reg (id := 2) (n := 1) [(0, [])] (by kernel_rfl) (by kernel_rfl) ?_
  refine at_seg [(0, [])] [(4, .bool false)] H (noU_all rfl) (fun fr => by kernel_rfl) ?_
  intro fr H
  refine at_nil ?_
  show AW cfg 39 g (right (left (right (left (right (bodyC cfg.P 39)))))) fr h _
  refine aw_ret (by kernel_rfl) ?_
  have e1 := Option.some.inj hm
  subst e1
  refine ⟨.inl rfl, .bool false, resH H (fun fr => by kernel_rfl), ?_⟩
  exact ⟨rfl, A⟩
 ·replace H := H.know 10 hb (by kernel_rfl)
  refine aw_false (x := .tmp 10) (by kernel_rfl) H (fun fr => by kernel_rfl) ?_
  refine aw_skip (by kernel_rfl) ?_
  show AW cfg 39 g (right (right (bodyC cfg.P 39))) fr h _
  refine aw_seq (by kernel_rfl) ?_
  refine aw_seq (by kernel_rfl) ?_
  refine aw_reg (id := 3) (n := 3) [(0, []), (1, []), (2, [])] (by kernel_rfl) (by kernel_rfl) ?_
  refine at_seg [(0, []), (1, []), (2, [])] [(0, vs e_S_pattern_Rule p0), (1, vs e_S_pattern_Rule p1), (12, .int .i64 (p0.length : Int)), (13, .int .i64 (0 : Int))] H (noU_all rfl) (fun fr => by kernel_rfl) ?_
  intro fr H
  refine at_nil ?_
  show AW cfg 39 g (right (left (right (right (bodyC cfg.P 39))))) fr h _
  refine aw_block (id := 0) (by kernel_rfl) ?_
  obtain ⟨o1, ho, hm⟩ := bind_some hm
  refine aw_mono (Q' := fun e fr' h' => (e = .exit 0 ∧ .inl () = o1 ∧ Has fr' 26 [] ∧ HH g h' [] F) ∨ (∃ (x2 : Bool), e = .ret ∧ .inr x2 = o1 ∧ Has fr' 26 [(4, .bool x2)] ∧ HH g h' [] F) ∨ False) ?_ ?_
  ·refine aw_loop (by kernel_rfl) (fun (s : Int) fr' h' => ∃ (x1 : Int), x1 = s ∧ Has fr' 26 [(0, vs e_S_pattern_Rule p0), (1, vs e_S_pattern_Rule p1), (12, .int .i64 (p0.length : Int)), (13, .int .i64 x1)] ∧ HH g h' [] F) ho ⟨(0 : Int), rfl, H.less _ (fun fr => by kernel_rfl), A⟩ ?_
   clear ho hm H A
   intro s q fr h1 hI hm
   obtain ⟨x1, rfl, H, A⟩ := hI
   unfold M_slices_Equal_boulter_pattern_Rule_boulter_pattern_Rule_L0 at hm
   refine aw_seq (by kernel_rfl) ?_
   refine aw_reg (id := 4) (n := 1) [(0, [])] (by kernel_rfl) (by kernel_rfl) ?_
   refine at_seg [(0, [])] [(0, vs e_S_pattern_Rule p0), (1, vs e_S_pattern_Rule p1), (12, .int .i64 (p0.length : Int)), (13, .int .i64 x1), (14, .bool (decide (x1 < (p0.length : Int))))] H (noU_all rfl) (fun fr => by kernel_rfl) ?_
   intro fr H
   refine at_nil ?_
   show AW cfg 39 g (right (left (left (right (left (right (right (bodyC cfg.P 39)))))))) fr h1 _
   refine aw_seq (by kernel_rfl) ?_
   rcases iteB_some hm with ⟨hb, hm⟩ | ⟨hb, hm⟩
   ·replace H := H.know 14 hb (by kernel_rfl)
    refine aw_true (x := .tmp 14) (by kernel_rfl) H (fun fr => by kernel_rfl) ?_
    refine aw_skip (by kernel_rfl) ?_
    show AW cfg 39 g (right (right (left (left (right (left (right (right (bodyC cfg.P 39))))))))) fr h1 _
    refine aw_seq (by kernel_rfl) ?_
    refine aw_block (id := 1) (by kernel_rfl) ?_
    refine aw_seq (by kernel_rfl) ?_
    refine aw_reg (id := 5) (n := 2) [(0, []), (1, [])] (by kernel_rfl) (by kernel_rfl) ?_
    refine at_seg [(0, []), (1, [])] [(0, vs e_S_pattern_Rule p0), (1, vs e_S_pattern_Rule p1), (5, .int .i64 x1), (12, .int .i64 (p0.length : Int)), (13, .int .i64 x1)] H (noU_all rfl) (fun fr => by kernel_rfl) ?_
    intro fr H
    refine at_nil ?_
    show AW cfg 39 g (right (left (left (right (right (left (left (right (left (right (right (bodyC cfg.P 39)))))))))))) fr h1 _
    refine aw_seq (by kernel_rfl) ?_
    refine aw_draw (id := 6) (n := 9) (by kernel_rfl) [(0, []), (1, []), (2, []), (3, []), (4, []), (5, []), (6, []), (7, []), (8, [])] (by kernel_rfl) ?_
    refine at_seg [(0, []), (1, [])] [(0, vs e_S_pattern_Rule p0), (1, vs e_S_pattern_Rule p1), (5, .int .i64 x1), (12, .int .i64 (p0.length : Int)), (13, .int .i64 x1), (16, vs e_S_pattern_Rule p0), (17, .int .i64 x1)] H (noU_all rfl) (fun fr => by kernel_rfl) ?_
    intro fr H
    obtain ⟨x3, hx, hm⟩ := bind_some hm
    refine at_step (v := .vptr (e_S_pattern_Rule x3)) (h1 := h1) [(0, vs e_S_pattern_Rule p0), (1, vs e_S_pattern_Rule p1), (5, .int .i64 x1), (12, .int .i64 (p0.length : Int)), (13, .int .i64 x1), (18, .vptr (e_S_pattern_Rule x3))] H (fun fr => by kernel_rfl) (fun fr => .of (s_ixV (e := e_S_pattern_Rule) (x := x3) enc_S_pattern_Rule (by decide) (by kernel_rfl) hx)) ?_
    intro fr t H
    refine at_step (v := .agg (e_S_pattern_Rule x3)) (h1 := h1) [(0, vs e_S_pattern_Rule p0), (1, vs e_S_pattern_Rule p1), (5, .int .i64 x1), (12, .int .i64 (p0.length : Int)), (13, .int .i64 x1), (19, .agg (e_S_pattern_Rule x3))] H (fun fr => by kernel_rfl) (fun fr => .of (s_lv (by kernel_rfl))) ?_
    intro fr t H
    refine at_seg [(4, []), (5, [])] [(0, vs e_S_pattern_Rule p0), (1, vs e_S_pattern_Rule p1), (12, .int .i64 (p0.length : Int)), (13, .int .i64 x1), (19, .agg (e_S_pattern_Rule x3)), (20, vs e_S_pattern_Rule p1), (21, .int .i64 x1)] H (noU_all rfl) (fun fr => by kernel_rfl) ?_
    intro fr H
    obtain ⟨x4, hx, hm⟩ := bind_some hm
    refine at_step (v := .vptr (e_S_pattern_Rule x4)) (h1 := h1) [(0, vs e_S_pattern_Rule p0), (1, vs e_S_pattern_Rule p1), (12, .int .i64 (p0.length : Int)), (13, .int .i64 x1), (19, .agg (e_S_pattern_Rule x3)), (22, .vptr (e_S_pattern_Rule x4))] H (fun fr => by kernel_rfl) (fun fr => .of (s_ixV (e := e_S_pattern_Rule) (x := x4) enc_S_pattern_Rule (by decide) (by kernel_rfl) hx)) ?_
    intro fr t H
    refine at_step (v := .agg (e_S_pattern_Rule x4)) (h1 := h1) [(0, vs e_S_pattern_Rule p0), (1, vs e_S_pattern_Rule p1), (12, .int .i64 (p0.length : Int)), (13, .int .i64 x1), (19, .agg (e_S_pattern_Rule x3)), (23, .agg (e_S_pattern_Rule x4))] H (fun fr => by kernel_rfl) (fun fr => .of (s_lv (by kernel_rfl))) ?_
    intro fr t H
    obtain ⟨x5, hx, hm⟩ := bind_some hm
    refine at_step (v := .bool (!x5)) (h1 := h1) [(0, vs e_S_pattern_Rule p0), (1, vs e_S_pattern_Rule p1), (12, .int .i64 (p0.length : Int)), (13, .int .i64 x1), (24, .bool (!x5))] H (fun fr => by kernel_rfl) (fun fr => .of (s_neG (by kernel_rfl) hx)) ?_
    intro fr t H
    refine at_nil ?_
    show AW cfg 39 g (right (right (left (left (right (right (left (left (right (left (right (right (bodyC cfg.P 39))))))))))))) fr h1 _
    rcases iteB_some hm with ⟨hb, hm⟩ | ⟨hb, hm⟩
    ·replace H := H.know 24 hb (by kernel_rfl)
     refine aw_true (x := .tmp 24) (by kernel_rfl) H (fun fr => by kernel_rfl) ?_
     refine aw_seq (by kernel_rfl) ?_
     refine aw_reg (id := 7) (n := 1) [(0, [])] (by kernel_rfl) (by kernel_rfl) ?_
     refine at_seg [(0, [])] [(4, .bool false)] H (noU_all rfl) (fun fr => by kernel_rfl) ?_
     intro fr H
     refine at_nil ?_
     show AW cfg 39 g (right (left (right (right (left (left (right (right (left (left (right (left (right (right (bodyC cfg.P 39))))))))))))))) fr h1 _
     refine aw_ret (by kernel_rfl) ?_
     exact Exists.intro _ (And.intro (Option.some.inj hm).symm (fun e => Or.inr (Or.inl ⟨false, rfl, e, H.less _ (fun fr => by kernel_rfl), A⟩)))
    ·replace H := H.know 24 hb (by kernel_rfl)
     refine aw_false (x := .tmp 24) (by kernel_rfl) H (fun fr => by kernel_rfl) ?_
     refine aw_skip (by kernel_rfl) ?_
     show AW cfg 39 g (right (right (right (left (left (right (left (right (right (bodyC cfg.P 39)))))))))) fr h1 _
     refine aw_reg (id := 8) (n := 2) [(0, []), (1, [])] (by kernel_rfl) (by kernel_rfl) ?_
     refine at_seg [(0, []), (1, [])] [(0, vs e_S_pattern_Rule p0), (1, vs e_S_pattern_Rule p1), (12, .int .i64 (p0.length : Int)), (13, .int .i64 (IntKind.i64.wrap (x1 + (1 : Int))))] H (noU_all rfl) (fun fr => by kernel_rfl) ?_
     intro fr H
     refine at_nil ?_
     exact Exists.intro (IntKind.i64.wrap (x1 + (1 : Int))) (And.intro (Option.some.inj hm).symm ⟨IntKind.i64.wrap (x1 + (1 : Int)), rfl, H.less _ (fun fr => by kernel_rfl), A⟩)
   ·replace H := H.know 14 hb (by kernel_rfl)
    refine aw_false (x := .tmp 14) (by kernel_rfl) H (fun fr => by kernel_rfl) ?_
    refine aw_exit (i := 0) (by kernel_rfl) ?_
    exact Exists.intro _ (And.intro (Option.some.inj hm).symm (fun e => Or.inl ⟨rfl, e, H.less _ (fun fr => by kernel_rfl), A⟩))
  ·clear ho
   clear A
   intro e fr h2 hQ
   rcases hQ with ⟨rfl, rfl, H, A⟩ | ⟨x2, rfl, rfl, H, A⟩ | hF
   ·skip
    show AW cfg 39 g (right (right (right (bodyC cfg.P 39)))) fr h2 _
    refine aw_seq (by kernel_rfl) ?_
    refine aw_reg (id := 9) (n := 1) [(0, [])] (by kernel_rfl) (by kernel_rfl) ?_
    refine at_seg [(0, [])] [(4, .bool true)] H (noU_all rfl) (fun fr => by kernel_rfl) ?_
    intro fr H
    refine at_nil ?_
    show AW cfg 39 g (right (right (right (right (bodyC cfg.P 39))))) fr h2 _
    refine aw_ret (by kernel_rfl) ?_
    have e1 := Option.some.inj hm
    subst e1
    refine ⟨.inl rfl, .bool true, resH H (fun fr => by kernel_rfl), ?_⟩
    exact ⟨rfl, A⟩
   ·skip
    have e1 := Option.some.inj hm
    subst e1
    refine ⟨.inl rfl, .bool x2, resH H (fun fr => by kernel_rfl), ?_⟩
    exact ⟨rfl, A⟩
   ·exact hF.elim
end Go.Av.L
