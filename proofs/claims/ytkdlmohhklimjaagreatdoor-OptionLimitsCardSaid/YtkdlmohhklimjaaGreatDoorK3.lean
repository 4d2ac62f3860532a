/-
 Models of functions, and that the abstract run tells them. Written by lift2.py.
-/
import Derived.Test.YtkdlmohhklimjaaGreatDoorKCfg
import Derived.Test.YtkdlmohhklimjaaGreatDoorK0
import Derived.Test.YtkdlmohhklimjaaGreatDoorK1
import Derived.Test.YtkdlmohhklimjaaGreatDoorK2
namespace Go.Av.L
open Go.Av Go.Lib
set_option maxRecDepth 10000
set_option linter.unusedVariables false
set_option linter.unusedSimpArgs false
/-! ### (*boulter/option.reading).line -/
noncomputable def M_option_reading_line_sPOOOSIK (p0 : S_option_reading) (p1 : List UInt8) (p2 : Int) : Option (S_option_flaw × S_option_reading × (List S_pattern_Rule) × (List S_pattern_Rule) × (List ((List UInt8) × Bool))) :=
 (iteB (p1 == ([] : List UInt8)) (some true) ((ixS p1 (0 : Int)).bind fun x2 => some (x2 == (35 : Int))) : Option (Bool)).bind fun x1 => iteB x1 ((M_option_none).bind fun x3 => some (x3, p0, p0.c_.Includes, p0.c_.Excludes, p0.seen_)) (need (decide (p1.length ≤ 4294967280)) <| iteB (((Lib.cut p1 ([32] : List UInt8)).1) == ([97, 110, 99, 104, 111, 114, 101, 100] : List UInt8)) none (iteB (((Lib.cut p1 ([32] : List UInt8)).1) == ([117, 110, 97, 110, 99, 104, 111, 114, 101, 100] : List UInt8)) none (iteB (((Lib.cut p1 ([32] : List UInt8)).1) == ([102, 111, 108, 100] : List UInt8)) none (iteB (((Lib.cut p1 ([32] : List UInt8)).1) == ([110, 111, 102, 111, 108, 100] : List UInt8)) none (iteB (((Lib.cut p1 ([32] : List UInt8)).1) == ([115, 108, 97, 115, 104] : List UInt8)) none (iteB (((Lib.cut p1 ([32] : List UInt8)).1) == ([110, 111, 115, 108, 97, 115, 104] : List UInt8)) none (iteB (((Lib.cut p1 ([32] : List UInt8)).1) == ([105, 110, 99, 108, 117, 100, 101] : List UInt8)) (iteB ((!(((Lib.cut p1 ([32] : List UInt8)).2.2) == true)) || false) (some ((⟨(11 : Int), p2⟩ : S_option_flaw), p0, p0.c_.Includes, p0.c_.Excludes, p0.seen_)) ((M_option_words_7_sPOOOSII (⟨p0.c_, p0.flags_, p0.rest_, p0.at_, (mput p0.seen_ ((Lib.cut p1 ([32] : List UInt8)).1) true)⟩ : S_option_reading) ((Lib.cut p1 ([32] : List UInt8)).2.1) p2 (IntKind.i64.wrap ((IntKind.i64.wrap (p2 + (((Lib.cut p1 ([32] : List UInt8)).1).length : Int))) + (1 : Int)))).bind fun (x4, x5) => some (x4, (⟨(⟨x5, p0.c_.Excludes, p0.c_.Exprs, p0.c_.Vcs, p0.c_.Backups, p0.c_.Caches, p0.c_.Dated, p0.c_.Newer, p0.c_.Nth, p0.c_.Strip, p0.c_.Name, p0.c_.Head, p0.c_.States⟩ : S_option_Config), p0.flags_, p0.rest_, p0.at_, (mput p0.seen_ ((Lib.cut p1 ([32] : List UInt8)).1) true)⟩ : S_option_reading), x5, p0.c_.Excludes, (mput p0.seen_ ((Lib.cut p1 ([32] : List UInt8)).1) true)))) (iteB (((Lib.cut p1 ([32] : List UInt8)).1) == ([101, 120, 99, 108, 117, 100, 101] : List UInt8)) (iteB ((!(((Lib.cut p1 ([32] : List UInt8)).2.2) == true)) || false) (some ((⟨(11 : Int), p2⟩ : S_option_flaw), p0, p0.c_.Includes, p0.c_.Excludes, p0.seen_)) ((M_option_words_8_sPOOOSII (⟨p0.c_, p0.flags_, p0.rest_, p0.at_, (mput p0.seen_ ((Lib.cut p1 ([32] : List UInt8)).1) true)⟩ : S_option_reading) ((Lib.cut p1 ([32] : List UInt8)).2.1) p2 (IntKind.i64.wrap ((IntKind.i64.wrap (p2 + (((Lib.cut p1 ([32] : List UInt8)).1).length : Int))) + (1 : Int)))).bind fun (x6, x7) => some (x6, (⟨(⟨p0.c_.Includes, x7, p0.c_.Exprs, p0.c_.Vcs, p0.c_.Backups, p0.c_.Caches, p0.c_.Dated, p0.c_.Newer, p0.c_.Nth, p0.c_.Strip, p0.c_.Name, p0.c_.Head, p0.c_.States⟩ : S_option_Config), p0.flags_, p0.rest_, p0.at_, (mput p0.seen_ ((Lib.cut p1 ([32] : List UInt8)).1) true)⟩ : S_option_reading), p0.c_.Includes, x7, (mput p0.seen_ ((Lib.cut p1 ([32] : List UInt8)).1) true)))) (iteB (((Lib.cut p1 ([32] : List UInt8)).1) == ([101, 120, 99, 108, 117, 100, 101, 45, 108, 105, 110, 101, 115] : List UInt8)) (iteB ((!(((Lib.cut p1 ([32] : List UInt8)).2.2) == true)) || false) (some ((⟨(11 : Int), p2⟩ : S_option_flaw), p0, p0.c_.Includes, p0.c_.Excludes, p0.seen_)) ((M_option_words_9_sPOOOSII (⟨p0.c_, p0.flags_, p0.rest_, p0.at_, (mput p0.seen_ ((Lib.cut p1 ([32] : List UInt8)).1) true)⟩ : S_option_reading) ((Lib.cut p1 ([32] : List UInt8)).2.1) p2 (IntKind.i64.wrap ((IntKind.i64.wrap (p2 + (((Lib.cut p1 ([32] : List UInt8)).1).length : Int))) + (1 : Int)))).bind fun (x8, x9, x10) => some (x8, (⟨(⟨p0.c_.Includes, x10, p0.c_.Exprs, x9.c_.Vcs, x9.c_.Backups, x9.c_.Caches, x9.c_.Dated, x9.c_.Newer, x9.c_.Nth, x9.c_.Strip, x9.c_.Name, x9.c_.Head, x9.c_.States⟩ : S_option_Config), x9.flags_, x9.rest_, x9.at_, (mput p0.seen_ ((Lib.cut p1 ([32] : List UInt8)).1) true)⟩ : S_option_reading), p0.c_.Includes, x10, (mput p0.seen_ ((Lib.cut p1 ([32] : List UInt8)).1) true)))) (iteB (((Lib.cut p1 ([32] : List UInt8)).1) == ([118, 99, 115] : List UInt8)) none (iteB (((Lib.cut p1 ([32] : List UInt8)).1) == ([98, 97, 99, 107, 117, 112, 115] : List UInt8)) none (iteB (((Lib.cut p1 ([32] : List UInt8)).1) == ([99, 97, 99, 104, 101, 115] : List UInt8)) none (iteB (((Lib.cut p1 ([32] : List UInt8)).1) == ([110, 101, 119, 101, 114] : List UInt8)) none (iteB (((Lib.cut p1 ([32] : List UInt8)).1) == ([110, 116, 104] : List UInt8)) none (iteB (((Lib.cut p1 ([32] : List UInt8)).1) == ([115, 116, 114, 105, 112] : List UInt8)) none (iteB (((Lib.cut p1 ([32] : List UInt8)).1) == ([116, 114, 97, 110, 115, 102, 111, 114, 109] : List UInt8)) none (iteB (((Lib.cut p1 ([32] : List UInt8)).1) == ([99, 97, 112, 45, 110, 97, 109, 101] : List UInt8)) none (iteB (((Lib.cut p1 ([32] : List UInt8)).1) == ([99, 97, 112, 45, 104, 101, 97, 100] : List UInt8)) none (iteB (((Lib.cut p1 ([32] : List UInt8)).1) == ([99, 97, 112, 45, 115, 116, 97, 116, 101, 115] : List UInt8)) none (some ((⟨(11 : Int), p2⟩ : S_option_flaw), p0, p0.c_.Includes, p0.c_.Excludes, p0.seen_)))))))))))))))))))))
theorem ok_option_reading_line_sPOOOSIK {g : Gd} {h : AHeap} {F : List Ck} {p0 : S_option_reading} {p1 : List UInt8} {p2 : Int} {bp0 : Nat} {rp0_0 : Option Nat} {rp0_1 : Option Nat} {rp0_2 : Option Nat} {bp0_20 : Nat} {bp3 : Nat} {q0 : S_option_flaw} {u0 : S_option_reading} {u1 : List S_pattern_Rule} {u2 : List S_pattern_Rule} {u4 : List ((List UInt8) × Bool)} {av : List AVal} (hm : M_option_reading_line_sPOOOSIK p0 p1 p2 = some (q0, u0, u1, u2, u4)) (hc : canL (cfg.still 37) av = [.ptr (some (bp0, 0)), .str p1, .int .i64 p2, .map (some bp3)]) (A : HH g h [.obj bp0 (.cells none 2 [rowV rp0_0 p0.c_.Includes.length, rowV rp0_1 p0.c_.Excludes.length, rowV rp0_2 p0.c_.Exprs.length, .bool p0.c_.Vcs, .bool p0.c_.Backups, .int .i64 p0.c_.Caches, .bool p0.c_.Dated, .int .i64 p0.c_.Newer.Sec, .int .i64 p0.c_.Newer.Nsec, .int .i64 p0.c_.Nth, .int .i64 p0.c_.Strip, .int .i64 p0.c_.Name, .int .i64 p0.c_.Head, .int .i64 p0.c_.States, .str p0.flags_.Text, .bool p0.flags_.Anchored, .bool p0.flags_.Fold, .bool p0.flags_.Slash, .str p0.rest_, .int .i64 p0.at_, .map (some bp0_20)]), .lst rp0_0 87 (lst e_S_pattern_Rule p0.c_.Includes), .lst rp0_1 87 (lst e_S_pattern_Rule p0.c_.Excludes), .lst rp0_2 24 (lst e_S_rewrite_Expr p0.c_.Exprs), .obj bp0_20 (.map 2 (encM (fun k : List UInt8 => .str k) (fun v : Bool => .bool v) p0.seen_)), .obj bp3 (.map 2 LA.km35)] F) : ∃ v h', Runs cfg g h 37 av v h' ∧ ∃ (r'1 : Option Nat) (r'2 : Option Nat), v = .agg [.int .i64 q0.e_, .int .i64 q0.at_] ∧ HH g h' [.obj bp0 (.cells none 2 [rowV r'1 u1.length, rowV r'2 u2.length, rowV rp0_2 p0.c_.Exprs.length, .bool u0.c_.Vcs, .bool u0.c_.Backups, .int .i64 u0.c_.Caches, .bool u0.c_.Dated, .int .i64 u0.c_.Newer.Sec, .int .i64 u0.c_.Newer.Nsec, .int .i64 u0.c_.Nth, .int .i64 u0.c_.Strip, .int .i64 u0.c_.Name, .int .i64 u0.c_.Head, .int .i64 u0.c_.States, .str u0.flags_.Text, .bool u0.flags_.Anchored, .bool u0.flags_.Fold, .bool u0.flags_.Slash, .str u0.rest_, .int .i64 u0.at_, .map (some bp0_20)]), .lst r'1 87 (lst e_S_pattern_Rule u1), .lst r'2 87 (lst e_S_pattern_Rule u2), .lst rp0_2 24 (lst e_S_rewrite_Expr p0.c_.Exprs), .obj bp0_20 (.map 2 (encM (fun k : List UInt8 => .str k) (fun v : Bool => .bool v) u4)), .obj bp3 (.map 2 LA.km35)] F := by
 refine runsQ1 (n := 72) (rs := [.cell 8 96]) (by kernel_rfl) hc (by kernel_rfl) ?_
 clear hc
 unfold M_option_reading_line_sPOOOSIK at hm
 refine start (n := 72) [(0, .ptr (some (bp0, 0))), (1, .str p1), (2, .int .i64 p2), (3, .map (some bp3))] (by kernel_rfl) (by kernel_rfl) ?_
 intro fr H
 refine aw_seq (by kernel_rfl) ?_
 refine aw_reg (id := 0) (n := 1) [(0, [])] (by kernel_rfl) (by kernel_rfl) ?_
 obtain ⟨h1, e1⟩ : ∃ x, x = h.push (.cells none 2 [.int .i64 (0 : Int), .int .i64 (0 : Int)]) := ⟨_, rfl⟩
 replace A := (A.push _).to e1
 refine at_step (v := .ptr (some (h.size, 0))) (h1 := h1) [(0, .ptr (some (bp0, 0))), (1, .str p1), (2, .int .i64 p2), (3, .map (some bp3)), (8, .ptr (some (h.size, 0)))] H (fun fr => by kernel_rfl) (fun fr => .of (s_n' (by kernel_rfl) (congrArg some e1.symm))) ?_
 intro fr t H
 refine at_nil ?_
 show AW cfg 37 g (right (bodyC cfg.P 37)) fr h1 _
 refine aw_seq (by kernel_rfl) ?_
 refine aw_seq (by kernel_rfl) ?_
 refine aw_reg (id := 1) (n := 7) [(0, []), (1, []), (2, []), (3, []), (4, []), (5, []), (6, [])] (by kernel_rfl) (by kernel_rfl) ?_
 refine at_seg [(0, []), (1, []), (2, [])] [(0, .ptr (some (bp0, 0))), (1, .str p1), (2, .int .i64 p2), (3, .map (some bp3)), (8, .ptr (some (h.size, 0))), (16, .bool (p1 == ([] : List UInt8)))] H (noU_all rfl) (fun fr => by kernel_rfl) ?_
 intro fr H
 obtain ⟨x1, ho, hm⟩ := bind_some hm
 refine at_cut [(3, []), (4, []), (5, []), (6, [])] (fun fr' h' => Has fr' 72 [(0, .ptr (some (bp0, 0))), (1, .str p1), (2, .int .i64 p2), (3, .map (some bp3)), (8, .ptr (some (h.size, 0))), (20, .bool x1)] ∧ HH g h' [.obj h.size (.cells none 2 [.int .i64 (0 : Int), .int .i64 (0 : Int)]), .obj bp0 (.cells none 2 [rowV rp0_0 p0.c_.Includes.length, rowV rp0_1 p0.c_.Excludes.length, rowV rp0_2 p0.c_.Exprs.length, .bool p0.c_.Vcs, .bool p0.c_.Backups, .int .i64 p0.c_.Caches, .bool p0.c_.Dated, .int .i64 p0.c_.Newer.Sec, .int .i64 p0.c_.Newer.Nsec, .int .i64 p0.c_.Nth, .int .i64 p0.c_.Strip, .int .i64 p0.c_.Name, .int .i64 p0.c_.Head, .int .i64 p0.c_.States, .str p0.flags_.Text, .bool p0.flags_.Anchored, .bool p0.flags_.Fold, .bool p0.flags_.Slash, .str p0.rest_, .int .i64 p0.at_, .map (some bp0_20)]), .lst rp0_0 87 (lst e_S_pattern_Rule p0.c_.Includes), .lst rp0_1 87 (lst e_S_pattern_Rule p0.c_.Excludes), .lst rp0_2 24 (lst e_S_rewrite_Expr p0.c_.Exprs), .obj bp0_20 (.map 2 (encM (fun k : List UInt8 => .str k) (fun v : Bool => .bool v) p0.seen_)), .obj bp3 (.map 2 LA.km35)] F) ?_ ?_
 ·rcases iteB_some ho with ⟨hb, hm⟩ | ⟨hb, hm⟩
  ·replace H := H.know 16 hb (by kernel_rfl)
   refine at_seg [(3, []), (4, []), (5, []), (6, [])] [(0, .ptr (some (bp0, 0))), (1, .str p1), (2, .int .i64 p2), (3, .map (some bp3)), (8, .ptr (some (h.size, 0))), (20, .bool true)] H (noU_all rfl) (fun fr => by kernel_rfl) ?_
   intro fr H
   have e1 := Option.some.inj hm
   subst e1
   exact at_nil ⟨H.less _ (fun fr => by kernel_rfl), A⟩
  ·replace H := H.know 16 hb (by kernel_rfl)
   refine at_seg [(3, [])] [(0, .ptr (some (bp0, 0))), (1, .str p1), (2, .int .i64 p2), (3, .map (some bp3)), (8, .ptr (some (h.size, 0))), (16, .bool false), (17, .str p1)] H (noU_all rfl) (fun fr => by kernel_rfl) ?_
   intro fr H
   obtain ⟨x2, hx, hm⟩ := bind_some hm
   refine at_step (v := .int .u8 x2) (h1 := h1) [(0, .ptr (some (bp0, 0))), (1, .str p1), (2, .int .i64 p2), (3, .map (some bp3)), (8, .ptr (some (h.size, 0))), (16, .bool false), (18, .int .u8 x2)] H (fun fr => by kernel_rfl) (fun fr => .of (s_ixS (by kernel_rfl) hx)) ?_
   intro fr t H
   refine at_seg [(5, []), (6, [])] [(0, .ptr (some (bp0, 0))), (1, .str p1), (2, .int .i64 p2), (3, .map (some bp3)), (8, .ptr (some (h.size, 0))), (20, .bool (x2 == (35 : Int)))] H (noU_all rfl) (fun fr => by kernel_rfl) ?_
   intro fr H
   have e1 := Option.some.inj hm
   subst e1
   exact at_nil ⟨H.less _ (fun fr => by kernel_rfl), A⟩
 ·clear A
  intro t fr h2 hK
  obtain ⟨H, A⟩ := hK
  refine at_nil ?_
  show AW cfg 37 g (right (left (right (bodyC cfg.P 37)))) fr h2 _
  rcases iteB_some hm with ⟨hb, hm⟩ | ⟨hb, hm⟩
  ·replace H := H.know 20 hb (by kernel_rfl)
   refine aw_true (x := .tmp 20) (by kernel_rfl) H (fun fr => by kernel_rfl) ?_
   refine aw_seq (by kernel_rfl) ?_
   refine aw_reg (id := 2) (n := 2) [(0, []), (1, [])] (by kernel_rfl) (by kernel_rfl) ?_
   have A1 := A.cut 0
   obtain ⟨x3, hx, hm⟩ := bind_some hm
   obtain ⟨v1, h3, hr, rfl, A1⟩ := ok_option_none (av := []) hx (by kernel_rfl) A1
   replace A : HH g h3 [.obj h.size (.cells none 2 [.int .i64 (0 : Int), .int .i64 (0 : Int)]), .obj bp0 (.cells none 2 [rowV rp0_0 p0.c_.Includes.length, rowV rp0_1 p0.c_.Excludes.length, rowV rp0_2 p0.c_.Exprs.length, .bool p0.c_.Vcs, .bool p0.c_.Backups, .int .i64 p0.c_.Caches, .bool p0.c_.Dated, .int .i64 p0.c_.Newer.Sec, .int .i64 p0.c_.Newer.Nsec, .int .i64 p0.c_.Nth, .int .i64 p0.c_.Strip, .int .i64 p0.c_.Name, .int .i64 p0.c_.Head, .int .i64 p0.c_.States, .str p0.flags_.Text, .bool p0.flags_.Anchored, .bool p0.flags_.Fold, .bool p0.flags_.Slash, .str p0.rest_, .int .i64 p0.at_, .map (some bp0_20)]), .lst rp0_0 87 (lst e_S_pattern_Rule p0.c_.Includes), .lst rp0_1 87 (lst e_S_pattern_Rule p0.c_.Excludes), .lst rp0_2 24 (lst e_S_rewrite_Expr p0.c_.Exprs), .obj bp0_20 (.map 2 (encM (fun k : List UInt8 => .str k) (fun v : Bool => .bool v) p0.seen_)), .obj bp3 (.map 2 LA.km35)] F := A.glue0 (n := 0) A1
   refine at_step (v := .agg [.int .i64 x3.e_, .int .i64 x3.at_]) (h1 := h3) [(8, .ptr (some (h.size, 0))), (21, .agg [.int .i64 x3.e_, .int .i64 x3.at_])] H (fun fr => by kernel_rfl) (fun fr => Steps.call (by kernel_rfl) hr) ?_
   intro fr t H
   obtain ⟨h4, hx, A1⟩ := A.st 0 rfl (o := 0) (new := [.int .i64 x3.e_, .int .i64 x3.at_]) (ds := [.int .i64 x3.e_, .int .i64 x3.at_]) (Nat.le_of_ble_eq_true rfl) rfl rfl
   replace A : HH g h4 [.obj h.size (.cells none 2 [.int .i64 x3.e_, .int .i64 x3.at_]), .obj bp0 (.cells none 2 [rowV rp0_0 p0.c_.Includes.length, rowV rp0_1 p0.c_.Excludes.length, rowV rp0_2 p0.c_.Exprs.length, .bool p0.c_.Vcs, .bool p0.c_.Backups, .int .i64 p0.c_.Caches, .bool p0.c_.Dated, .int .i64 p0.c_.Newer.Sec, .int .i64 p0.c_.Newer.Nsec, .int .i64 p0.c_.Nth, .int .i64 p0.c_.Strip, .int .i64 p0.c_.Name, .int .i64 p0.c_.Head, .int .i64 p0.c_.States, .str p0.flags_.Text, .bool p0.flags_.Anchored, .bool p0.flags_.Fold, .bool p0.flags_.Slash, .str p0.rest_, .int .i64 p0.at_, .map (some bp0_20)]), .lst rp0_0 87 (lst e_S_pattern_Rule p0.c_.Includes), .lst rp0_1 87 (lst e_S_pattern_Rule p0.c_.Excludes), .lst rp0_2 24 (lst e_S_rewrite_Expr p0.c_.Exprs), .obj bp0_20 (.map 2 (encM (fun k : List UInt8 => .str k) (fun v : Bool => .bool v) p0.seen_)), .obj bp3 (.map 2 LA.km35)] F := A1
   refine at_step (v := .tuple []) (h1 := h4) [(8, .ptr (some (h.size, 0)))] H (fun fr => by kernel_rfl) (fun fr => .of (s_stG (by kernel_rfl) (stG_st hx rfl))) ?_
   intro fr t H
   refine at_nil ?_
   show AW cfg 37 g (right (left (right (left (right (bodyC cfg.P 37)))))) fr h4 _
   refine aw_ret (by kernel_rfl) ?_
   have e0 := Option.some.inj hm
   obtain ⟨y0, z0⟩ := Prod.mk.inj e0
   obtain ⟨y1, z1⟩ := Prod.mk.inj z0
   obtain ⟨y2, z2⟩ := Prod.mk.inj z1
   obtain ⟨y3, z3⟩ := Prod.mk.inj z2
   subst y0
   subst y1
   subst y2
   subst y3
   subst z3
   refine ⟨.inl rfl, .agg [.int .i64 x3.e_, .int .i64 x3.at_], resL_one (.cell (resT H (fun fr => by kernel_rfl)) (load_ldA (by kernel_rfl) (by kernel_rfl) (A.ldA 0 rfl (o := 0) (n := 2) ⟨Nat.le_of_ble_eq_true rfl, rfl⟩)) .nil), ?_⟩
   replace A : HH g h4 [.obj bp0 (.cells none 2 [rowV rp0_0 p0.c_.Includes.length, rowV rp0_1 p0.c_.Excludes.length, rowV rp0_2 p0.c_.Exprs.length, .bool p0.c_.Vcs, .bool p0.c_.Backups, .int .i64 p0.c_.Caches, .bool p0.c_.Dated, .int .i64 p0.c_.Newer.Sec, .int .i64 p0.c_.Newer.Nsec, .int .i64 p0.c_.Nth, .int .i64 p0.c_.Strip, .int .i64 p0.c_.Name, .int .i64 p0.c_.Head, .int .i64 p0.c_.States, .str p0.flags_.Text, .bool p0.flags_.Anchored, .bool p0.flags_.Fold, .bool p0.flags_.Slash, .str p0.rest_, .int .i64 p0.at_, .map (some bp0_20)]), .lst rp0_0 87 (lst e_S_pattern_Rule p0.c_.Includes), .lst rp0_1 87 (lst e_S_pattern_Rule p0.c_.Excludes), .lst rp0_2 24 (lst e_S_rewrite_Expr p0.c_.Exprs), .obj bp0_20 (.map 2 (encM (fun k : List UInt8 => .str k) (fun v : Bool => .bool v) p0.seen_)), .obj bp3 (.map 2 LA.km35)] F := (HH.dropF ((((((A.front 6 rfl).front 6 rfl).front 6 rfl).front 6 rfl).front 6 rfl).front 6 rfl) 6)
   exact ⟨rp0_0, rp0_1, rfl, A⟩
  ·replace H := H.know 20 hb (by kernel_rfl)
   refine aw_false (x := .tmp 20) (by kernel_rfl) H (fun fr => by kernel_rfl) ?_
   refine aw_skip (by kernel_rfl) ?_
   show AW cfg 37 g (right (right (bodyC cfg.P 37))) fr h2 _
   refine aw_seq (by kernel_rfl) ?_
   refine aw_reg (id := 3) (n := 9) [(0, []), (1, []), (2, []), (3, []), (4, []), (5, []), (6, []), (7, []), (8, [])] (by kernel_rfl) (by kernel_rfl) ?_
   refine at_seg [(0, [])] [(0, .ptr (some (bp0, 0))), (2, .int .i64 p2), (3, .map (some bp3)), (8, .ptr (some (h.size, 0))), (23, .str p1)] H (noU_all rfl) (fun fr => by kernel_rfl) ?_
   intro fr H
   obtain ⟨hb, hm⟩ := need_some hm
   refine at_step (v := .tuple [.str ((Lib.cut p1 ([32] : List UInt8)).1), .str ((Lib.cut p1 ([32] : List UInt8)).2.1), .bool ((Lib.cut p1 ([32] : List UInt8)).2.2)]) (h1 := h2) [(0, .ptr (some (bp0, 0))), (2, .int .i64 p2), (3, .map (some bp3)), (8, .ptr (some (h.size, 0))), (24, .tuple [.str ((Lib.cut p1 ([32] : List UInt8)).1), .str ((Lib.cut p1 ([32] : List UInt8)).2.1), .bool ((Lib.cut p1 ([32] : List UInt8)).2.2)])] H (fun fr => by kernel_rfl) (fun fr => Steps.call (by kernel_rfl) (runsCut (C := cfg) (f := 36) (a := 0) (by kernel_rfl) (l := exts) rfl (by kernel_rfl) hb)) ?_
   intro fr t H
   refine at_seg [(2, []), (3, []), (4, []), (5, []), (6, []), (7, []), (8, [])] [(0, .ptr (some (bp0, 0))), (2, .int .i64 p2), (3, .map (some bp3)), (8, .ptr (some (h.size, 0))), (9, .str ((Lib.cut p1 ([32] : List UInt8)).1)), (10, .str ((Lib.cut p1 ([32] : List UInt8)).2.1)), (11, .bool ((Lib.cut p1 ([32] : List UInt8)).2.2))] H (noU_all rfl) (fun fr => by kernel_rfl) ?_
   intro fr H
   refine at_nil ?_
   show AW cfg 37 g (right (right (right (bodyC cfg.P 37)))) fr h2 _
   refine aw_seq (by kernel_rfl) ?_
   refine aw_reg (id := 4) (n := 9) [(0, []), (1, []), (2, []), (3, []), (4, []), (5, []), (6, []), (7, []), (8, [])] (by kernel_rfl) (by kernel_rfl) ?_
   refine at_seg [(0, []), (1, [])] [(0, .ptr (some (bp0, 0))), (2, .int .i64 p2), (8, .ptr (some (h.size, 0))), (9, .str ((Lib.cut p1 ([32] : List UInt8)).1)), (10, .str ((Lib.cut p1 ([32] : List UInt8)).2.1)), (11, .bool ((Lib.cut p1 ([32] : List UInt8)).2.2)), (29, .map (some bp3)), (30, .str ((Lib.cut p1 ([32] : List UInt8)).1))] H (noU_all rfl) (fun fr => by kernel_rfl) ?_
   intro fr H
   rcases iteB_some hm with ⟨hb, hm⟩ | ⟨hk1, hm⟩
   ·cases hm
   ·skip
    rcases iteB_some hm with ⟨hb, hm⟩ | ⟨hk2, hm⟩
    ·cases hm
    ·skip
     rcases iteB_some hm with ⟨hb, hm⟩ | ⟨hk3, hm⟩
     ·cases hm
     ·skip
      rcases iteB_some hm with ⟨hb, hm⟩ | ⟨hk4, hm⟩
      ·cases hm
      ·skip
       rcases iteB_some hm with ⟨hb, hm⟩ | ⟨hk5, hm⟩
       ·cases hm
       ·skip
        rcases iteB_some hm with ⟨hb, hm⟩ | ⟨hk6, hm⟩
        ·cases hm
        ·skip
         rcases iteB_some hm with ⟨hb, hm⟩ | ⟨hk7, hm⟩
         ·skip
          refine at_step (v := .tuple [.agg [.bool true, .bool false, .func (.func 61) [] []], .bool true]) (h1 := h2) [(0, .ptr (some (bp0, 0))), (2, .int .i64 p2), (8, .ptr (some (h.size, 0))), (9, .str ((Lib.cut p1 ([32] : List UInt8)).1)), (10, .str ((Lib.cut p1 ([32] : List UInt8)).2.1)), (11, .bool ((Lib.cut p1 ([32] : List UInt8)).2.2)), (31, .tuple [.agg [.bool true, .bool false, .func (.func 61) [] []], .bool true])] H (fun fr => by kernel_rfl) (fun fr => .of (s_lkT (by kernel_rfl) (HH.mlookC (P := cfg.P) A 6 rfl (t := 91) (kt := 9) (et := 129) (by kernel_rfl) (by kernel_rfl) (s := ((Lib.cut p1 ([32] : List UInt8)).1)) (.miss hk1 (.miss hk2 (.miss hk3 (.miss hk4 (.miss hk5 (.miss hk6 (.hit hb)))))))))) ?_
          intro fr t H
          refine at_seg [(3, []), (4, []), (5, [])] [(0, .ptr (some (bp0, 0))), (2, .int .i64 p2), (8, .ptr (some (h.size, 0))), (9, .str ((Lib.cut p1 ([32] : List UInt8)).1)), (10, .str ((Lib.cut p1 ([32] : List UInt8)).2.1)), (11, .bool ((Lib.cut p1 ([32] : List UInt8)).2.2)), (32, .agg [.bool true, .bool false, .func (.func 61) [] []]), (33, .bool true)] H (noU_all rfl) (fun fr => by kernel_rfl) ?_
          intro fr H
          obtain ⟨h5, e2⟩ : ∃ x, x = h2.push (.cells none 2 [.bool false, .bool false, .nilFunc]) := ⟨_, rfl⟩
          replace A := (A.push _).to e2
          refine at_step (v := .ptr (some (h2.size, 0))) (h1 := h5) [(0, .ptr (some (bp0, 0))), (2, .int .i64 p2), (8, .ptr (some (h.size, 0))), (9, .str ((Lib.cut p1 ([32] : List UInt8)).1)), (10, .str ((Lib.cut p1 ([32] : List UInt8)).2.1)), (11, .bool ((Lib.cut p1 ([32] : List UInt8)).2.2)), (12, .ptr (some (h2.size, 0))), (32, .agg [.bool true, .bool false, .func (.func 61) [] []]), (33, .bool true)] H (fun fr => by kernel_rfl) (fun fr => .of (s_n' (by kernel_rfl) (congrArg some e2.symm))) ?_
          intro fr t H
          obtain ⟨h6, hx, A1⟩ := A.st 0 rfl (o := 0) (new := [.bool true, .bool false, .func (.func 61) [] []]) (ds := [.bool true, .bool false, .func (.func 61) [] []]) (Nat.le_of_ble_eq_true rfl) rfl rfl
          replace A : HH g h6 [.obj h2.size (.cells none 2 [.bool true, .bool false, .func (.func 61) [] []]), .obj h.size (.cells none 2 [.int .i64 (0 : Int), .int .i64 (0 : Int)]), .obj bp0 (.cells none 2 [rowV rp0_0 p0.c_.Includes.length, rowV rp0_1 p0.c_.Excludes.length, rowV rp0_2 p0.c_.Exprs.length, .bool p0.c_.Vcs, .bool p0.c_.Backups, .int .i64 p0.c_.Caches, .bool p0.c_.Dated, .int .i64 p0.c_.Newer.Sec, .int .i64 p0.c_.Newer.Nsec, .int .i64 p0.c_.Nth, .int .i64 p0.c_.Strip, .int .i64 p0.c_.Name, .int .i64 p0.c_.Head, .int .i64 p0.c_.States, .str p0.flags_.Text, .bool p0.flags_.Anchored, .bool p0.flags_.Fold, .bool p0.flags_.Slash, .str p0.rest_, .int .i64 p0.at_, .map (some bp0_20)]), .lst rp0_0 87 (lst e_S_pattern_Rule p0.c_.Includes), .lst rp0_1 87 (lst e_S_pattern_Rule p0.c_.Excludes), .lst rp0_2 24 (lst e_S_rewrite_Expr p0.c_.Exprs), .obj bp0_20 (.map 2 (encM (fun k : List UInt8 => .str k) (fun v : Bool => .bool v) p0.seen_)), .obj bp3 (.map 2 LA.km35)] F := A1
          refine at_step (v := .tuple []) (h1 := h6) [(0, .ptr (some (bp0, 0))), (2, .int .i64 p2), (8, .ptr (some (h.size, 0))), (9, .str ((Lib.cut p1 ([32] : List UInt8)).1)), (10, .str ((Lib.cut p1 ([32] : List UInt8)).2.1)), (11, .bool ((Lib.cut p1 ([32] : List UInt8)).2.2)), (12, .ptr (some (h2.size, 0))), (33, .bool true)] H (fun fr => by kernel_rfl) (fun fr => .of (s_stG (by kernel_rfl) (stG_st hx rfl))) ?_
          intro fr t H
          refine at_seg [(8, [])] [(0, .ptr (some (bp0, 0))), (2, .int .i64 p2), (8, .ptr (some (h.size, 0))), (9, .str ((Lib.cut p1 ([32] : List UInt8)).1)), (10, .str ((Lib.cut p1 ([32] : List UInt8)).2.1)), (11, .bool ((Lib.cut p1 ([32] : List UInt8)).2.2)), (12, .ptr (some (h2.size, 0))), (13, .bool true)] H (noU_all rfl) (fun fr => by kernel_rfl) ?_
          intro fr H
          refine at_nil ?_
          show AW cfg 37 g (right (right (right (right (bodyC cfg.P 37))))) fr h6 _
          refine aw_seq (by kernel_rfl) ?_
          refine aw_seq (by kernel_rfl) ?_
          refine aw_reg (id := 5) (n := 20) [(0, []), (1, []), (2, []), (3, []), (4, []), (5, []), (6, []), (7, []), (8, []), (9, []), (10, []), (11, []), (12, []), (13, []), (14, []), (15, []), (16, []), (17, []), (18, []), (19, [])] (by kernel_rfl) (by kernel_rfl) ?_
          refine at_seg [(0, []), (1, []), (2, []), (3, []), (4, [])] [(0, .ptr (some (bp0, 0))), (2, .int .i64 p2), (8, .ptr (some (h.size, 0))), (9, .str ((Lib.cut p1 ([32] : List UInt8)).1)), (10, .str ((Lib.cut p1 ([32] : List UInt8)).2.1)), (12, .ptr (some (h2.size, 0))), (36, .bool false), (37, .bool ((Lib.cut p1 ([32] : List UInt8)).2.2)), (38, .ptr (some (h2.size, 0)))] H (noU_all rfl) (fun fr => by kernel_rfl) ?_
          intro fr H
          refine at_step (v := .bool true) (h1 := h6) [(0, .ptr (some (bp0, 0))), (2, .int .i64 p2), (8, .ptr (some (h.size, 0))), (9, .str ((Lib.cut p1 ([32] : List UInt8)).1)), (10, .str ((Lib.cut p1 ([32] : List UInt8)).2.1)), (12, .ptr (some (h2.size, 0))), (36, .bool false), (37, .bool ((Lib.cut p1 ([32] : List UInt8)).2.2)), (39, .bool true)] H (fun fr => by kernel_rfl) (fun fr => .of (s_ld (by kernel_rfl) (A.ld1 0 rfl (o := 0) rfl))) ?_
          intro fr t H
          refine at_seg [(6, []), (7, []), (8, [])] [(0, .ptr (some (bp0, 0))), (2, .int .i64 p2), (8, .ptr (some (h.size, 0))), (9, .str ((Lib.cut p1 ([32] : List UInt8)).1)), (10, .str ((Lib.cut p1 ([32] : List UInt8)).2.1)), (12, .ptr (some (h2.size, 0))), (42, .bool (!(((Lib.cut p1 ([32] : List UInt8)).2.2) == true)))] H (noU_all rfl) (fun fr => by kernel_rfl) ?_
          intro fr H
          refine at_cut [(9, []), (10, []), (11, []), (12, []), (13, []), (14, []), (15, []), (16, []), (17, []), (18, []), (19, [])] (fun fr' h' => h6 = h' ∧ Has fr' 72 [(0, .ptr (some (bp0, 0))), (2, .int .i64 p2), (8, .ptr (some (h.size, 0))), (9, .str ((Lib.cut p1 ([32] : List UInt8)).1)), (10, .str ((Lib.cut p1 ([32] : List UInt8)).2.1)), (12, .ptr (some (h2.size, 0))), (53, .bool ((!(((Lib.cut p1 ([32] : List UInt8)).2.2) == true)) || false))]) ?_ ?_
          ·cases hb : (!(((Lib.cut p1 ([32] : List UInt8)).2.2) == true) : Bool) with
           | true =>
            replace H := H.know 42 hb (by kernel_rfl)
            refine at_seg [(9, []), (10, []), (11, []), (12, []), (13, []), (14, []), (15, []), (16, []), (17, []), (18, []), (19, [])] [(0, .ptr (some (bp0, 0))), (2, .int .i64 p2), (8, .ptr (some (h.size, 0))), (9, .str ((Lib.cut p1 ([32] : List UInt8)).1)), (10, .str ((Lib.cut p1 ([32] : List UInt8)).2.1)), (12, .ptr (some (h2.size, 0))), (53, .bool true)] H (noU_all rfl) (fun fr => by kernel_rfl) ?_
            intro fr H
            exact at_nil ⟨rfl, by first | exact H.less _ (fun fr => by rfl) | exact H.less _ (fun fr => by rw [hb]; rfl)⟩
           | false =>
            replace H := H.know 42 hb (by kernel_rfl)
            refine at_seg [(9, [])] [(0, .ptr (some (bp0, 0))), (2, .int .i64 p2), (8, .ptr (some (h.size, 0))), (9, .str ((Lib.cut p1 ([32] : List UInt8)).1)), (10, .str ((Lib.cut p1 ([32] : List UInt8)).2.1)), (12, .ptr (some (h2.size, 0))), (42, .bool false), (43, .ptr (some (h2.size, 1)))] H (noU_all rfl) (fun fr => by kernel_rfl) ?_
            intro fr H
            refine at_step (v := .bool false) (h1 := h6) [(0, .ptr (some (bp0, 0))), (2, .int .i64 p2), (8, .ptr (some (h.size, 0))), (9, .str ((Lib.cut p1 ([32] : List UInt8)).1)), (10, .str ((Lib.cut p1 ([32] : List UInt8)).2.1)), (12, .ptr (some (h2.size, 0))), (42, .bool false), (44, .bool false)] H (fun fr => by kernel_rfl) (fun fr => .of (s_ld (by kernel_rfl) (A.ld1 0 rfl (o := 1) rfl))) ?_
            intro fr t H
            refine at_seg [(11, []), (12, []), (13, []), (14, []), (15, []), (16, []), (17, []), (18, []), (19, [])] [(0, .ptr (some (bp0, 0))), (2, .int .i64 p2), (8, .ptr (some (h.size, 0))), (9, .str ((Lib.cut p1 ([32] : List UInt8)).1)), (10, .str ((Lib.cut p1 ([32] : List UInt8)).2.1)), (12, .ptr (some (h2.size, 0))), (53, .bool false)] H (noU_all rfl) (fun fr => by kernel_rfl) ?_
            intro fr H
            exact at_nil ⟨rfl, by first | exact H.less _ (fun fr => by rfl) | exact H.less _ (fun fr => by rw [hb]; rfl)⟩
          ·intro t fr h' hK
           obtain ⟨e, H⟩ := hK
           subst e
           refine at_nil ?_
           show AW cfg 37 g (right (left (right (right (right (right (bodyC cfg.P 37))))))) fr h6 _
           rcases iteB_some hm with ⟨hb, hm⟩ | ⟨hb, hm⟩
           ·replace H := H.know 53 hb (by kernel_rfl)
            refine aw_true (x := .tmp 53) (by kernel_rfl) H (fun fr => by kernel_rfl) ?_
            refine aw_seq (by kernel_rfl) ?_
            refine aw_reg (id := 6) (n := 3) [(0, []), (1, []), (2, [])] (by kernel_rfl) (by kernel_rfl) ?_
            refine at_seg [(0, []), (1, [])] [(8, .ptr (some (h.size, 0))), (55, .agg [.int .i64 (11 : Int), .int .i64 p2])] H (noU_all rfl) (fun fr => by kernel_rfl) ?_
            intro fr H
            obtain ⟨h7, hx, A1⟩ := A.st 1 rfl (o := 0) (new := [.int .i64 (11 : Int), .int .i64 p2]) (ds := [.int .i64 (11 : Int), .int .i64 p2]) (Nat.le_of_ble_eq_true rfl) rfl rfl
            replace A : HH g h7 [.obj h2.size (.cells none 2 [.bool true, .bool false, .func (.func 61) [] []]), .obj h.size (.cells none 2 [.int .i64 (11 : Int), .int .i64 p2]), .obj bp0 (.cells none 2 [rowV rp0_0 p0.c_.Includes.length, rowV rp0_1 p0.c_.Excludes.length, rowV rp0_2 p0.c_.Exprs.length, .bool p0.c_.Vcs, .bool p0.c_.Backups, .int .i64 p0.c_.Caches, .bool p0.c_.Dated, .int .i64 p0.c_.Newer.Sec, .int .i64 p0.c_.Newer.Nsec, .int .i64 p0.c_.Nth, .int .i64 p0.c_.Strip, .int .i64 p0.c_.Name, .int .i64 p0.c_.Head, .int .i64 p0.c_.States, .str p0.flags_.Text, .bool p0.flags_.Anchored, .bool p0.flags_.Fold, .bool p0.flags_.Slash, .str p0.rest_, .int .i64 p0.at_, .map (some bp0_20)]), .lst rp0_0 87 (lst e_S_pattern_Rule p0.c_.Includes), .lst rp0_1 87 (lst e_S_pattern_Rule p0.c_.Excludes), .lst rp0_2 24 (lst e_S_rewrite_Expr p0.c_.Exprs), .obj bp0_20 (.map 2 (encM (fun k : List UInt8 => .str k) (fun v : Bool => .bool v) p0.seen_)), .obj bp3 (.map 2 LA.km35)] F := A1
            refine at_step (v := .tuple []) (h1 := h7) [(8, .ptr (some (h.size, 0)))] H (fun fr => by kernel_rfl) (fun fr => .of (s_stG (by kernel_rfl) (stG_st hx rfl))) ?_
            intro fr t H
            refine at_nil ?_
            show AW cfg 37 g (right (left (right (left (right (right (right (right (bodyC cfg.P 37))))))))) fr h7 _
            refine aw_ret (by kernel_rfl) ?_
            have e0 := Option.some.inj hm
            obtain ⟨y0, z0⟩ := Prod.mk.inj e0
            obtain ⟨y1, z1⟩ := Prod.mk.inj z0
            obtain ⟨y2, z2⟩ := Prod.mk.inj z1
            obtain ⟨y3, z3⟩ := Prod.mk.inj z2
            subst y0
            subst y1
            subst y2
            subst y3
            subst z3
            refine ⟨.inl rfl, .agg [.int .i64 (11 : Int), .int .i64 p2], resL_one (.cell (resT H (fun fr => by kernel_rfl)) (load_ldA (by kernel_rfl) (by kernel_rfl) (A.ldA 1 rfl (o := 0) (n := 2) ⟨Nat.le_of_ble_eq_true rfl, rfl⟩)) .nil), ?_⟩
            replace A : HH g h7 [.obj bp0 (.cells none 2 [rowV rp0_0 p0.c_.Includes.length, rowV rp0_1 p0.c_.Excludes.length, rowV rp0_2 p0.c_.Exprs.length, .bool p0.c_.Vcs, .bool p0.c_.Backups, .int .i64 p0.c_.Caches, .bool p0.c_.Dated, .int .i64 p0.c_.Newer.Sec, .int .i64 p0.c_.Newer.Nsec, .int .i64 p0.c_.Nth, .int .i64 p0.c_.Strip, .int .i64 p0.c_.Name, .int .i64 p0.c_.Head, .int .i64 p0.c_.States, .str p0.flags_.Text, .bool p0.flags_.Anchored, .bool p0.flags_.Fold, .bool p0.flags_.Slash, .str p0.rest_, .int .i64 p0.at_, .map (some bp0_20)]), .lst rp0_0 87 (lst e_S_pattern_Rule p0.c_.Includes), .lst rp0_1 87 (lst e_S_pattern_Rule p0.c_.Excludes), .lst rp0_2 24 (lst e_S_rewrite_Expr p0.c_.Exprs), .obj bp0_20 (.map 2 (encM (fun k : List UInt8 => .str k) (fun v : Bool => .bool v) p0.seen_)), .obj bp3 (.map 2 LA.km35)] F := (HH.dropF ((((((A.front 7 rfl).front 7 rfl).front 7 rfl).front 7 rfl).front 7 rfl).front 7 rfl) 6)
            exact ⟨rp0_0, rp0_1, rfl, A⟩
           ·replace H := H.know 53 hb (by kernel_rfl)
            refine aw_false (x := .tmp 53) (by kernel_rfl) H (fun fr => by kernel_rfl) ?_
            refine aw_skip (by kernel_rfl) ?_
            show AW cfg 37 g (right (right (right (right (right (bodyC cfg.P 37)))))) fr h6 _
            refine aw_seq (by kernel_rfl) ?_
            refine aw_reg (id := 7) (n := 6) [(0, []), (1, []), (2, []), (3, []), (4, []), (5, [])] (by kernel_rfl) (by kernel_rfl) ?_
            refine at_seg [(0, []), (1, []), (2, [])] [(0, .ptr (some (bp0, 0))), (2, .int .i64 p2), (8, .ptr (some (h.size, 0))), (9, .str ((Lib.cut p1 ([32] : List UInt8)).1)), (10, .str ((Lib.cut p1 ([32] : List UInt8)).2.1)), (12, .ptr (some (h2.size, 0))), (58, .ptr (some (bp0, 20)))] H (noU_all rfl) (fun fr => by kernel_rfl) ?_
            intro fr H
            refine at_step (v := .map (some bp0_20)) (h1 := h6) [(0, .ptr (some (bp0, 0))), (2, .int .i64 p2), (8, .ptr (some (h.size, 0))), (9, .str ((Lib.cut p1 ([32] : List UInt8)).1)), (10, .str ((Lib.cut p1 ([32] : List UInt8)).2.1)), (12, .ptr (some (h2.size, 0))), (59, .map (some bp0_20))] H (fun fr => by kernel_rfl) (fun fr => .of (s_ld (by kernel_rfl) (A.ld1 2 rfl (o := 20) rfl))) ?_
            intro fr t H
            refine at_seg [(4, [])] [(0, .ptr (some (bp0, 0))), (2, .int .i64 p2), (8, .ptr (some (h.size, 0))), (9, .str ((Lib.cut p1 ([32] : List UInt8)).1)), (10, .str ((Lib.cut p1 ([32] : List UInt8)).2.1)), (12, .ptr (some (h2.size, 0))), (59, .map (some bp0_20)), (60, .str ((Lib.cut p1 ([32] : List UInt8)).1))] H (noU_all rfl) (fun fr => by kernel_rfl) ?_
            intro fr H
            obtain ⟨h8, hx, A1⟩ := HH.mset (kt := 9) (et := 4) (ek := fun k : List UInt8 => .str k) (ev := fun v : Bool => .bool v) (keyS (by kernel_rfl)) A 6 rfl (t := 88) (by kernel_rfl) ((Lib.cut p1 ([32] : List UInt8)).1) true
            replace A : HH g h8 [.obj h2.size (.cells none 2 [.bool true, .bool false, .func (.func 61) [] []]), .obj h.size (.cells none 2 [.int .i64 (0 : Int), .int .i64 (0 : Int)]), .obj bp0 (.cells none 2 [rowV rp0_0 p0.c_.Includes.length, rowV rp0_1 p0.c_.Excludes.length, rowV rp0_2 p0.c_.Exprs.length, .bool p0.c_.Vcs, .bool p0.c_.Backups, .int .i64 p0.c_.Caches, .bool p0.c_.Dated, .int .i64 p0.c_.Newer.Sec, .int .i64 p0.c_.Newer.Nsec, .int .i64 p0.c_.Nth, .int .i64 p0.c_.Strip, .int .i64 p0.c_.Name, .int .i64 p0.c_.Head, .int .i64 p0.c_.States, .str p0.flags_.Text, .bool p0.flags_.Anchored, .bool p0.flags_.Fold, .bool p0.flags_.Slash, .str p0.rest_, .int .i64 p0.at_, .map (some bp0_20)]), .lst rp0_0 87 (lst e_S_pattern_Rule p0.c_.Includes), .lst rp0_1 87 (lst e_S_pattern_Rule p0.c_.Excludes), .lst rp0_2 24 (lst e_S_rewrite_Expr p0.c_.Exprs), .obj bp0_20 (.map 2 (encM (fun k : List UInt8 => .str k) (fun v : Bool => .bool v) (mput p0.seen_ ((Lib.cut p1 ([32] : List UInt8)).1) true))), .obj bp3 (.map 2 LA.km35)] F := A1
            refine at_step (v := .tuple []) (h1 := h8) [(0, .ptr (some (bp0, 0))), (2, .int .i64 p2), (8, .ptr (some (h.size, 0))), (9, .str ((Lib.cut p1 ([32] : List UInt8)).1)), (10, .str ((Lib.cut p1 ([32] : List UInt8)).2.1)), (12, .ptr (some (h2.size, 0)))] H (fun fr => by kernel_rfl) (fun fr => .of (s_ms (by kernel_rfl) hx)) ?_
            intro fr t H
            refine at_nil ?_
            show AW cfg 37 g (right (right (right (right (right (right (bodyC cfg.P 37))))))) fr h8 _
            refine aw_seq (by kernel_rfl) ?_
            refine aw_reg (id := 8) (n := 12) [(0, []), (1, []), (2, []), (3, []), (4, []), (5, []), (6, []), (7, []), (8, []), (9, []), (10, []), (11, [])] (by kernel_rfl) (by kernel_rfl) ?_
            refine at_seg [(0, [])] [(0, .ptr (some (bp0, 0))), (2, .int .i64 p2), (8, .ptr (some (h.size, 0))), (9, .str ((Lib.cut p1 ([32] : List UInt8)).1)), (10, .str ((Lib.cut p1 ([32] : List UInt8)).2.1)), (61, .ptr (some (h2.size, 2)))] H (noU_all rfl) (fun fr => by kernel_rfl) ?_
            intro fr H
            refine at_step (v := .func (.func 61) [] []) (h1 := h8) [(0, .ptr (some (bp0, 0))), (2, .int .i64 p2), (8, .ptr (some (h.size, 0))), (9, .str ((Lib.cut p1 ([32] : List UInt8)).1)), (10, .str ((Lib.cut p1 ([32] : List UInt8)).2.1)), (62, .func (.func 61) [] [])] H (fun fr => by kernel_rfl) (fun fr => .of (s_ld (by kernel_rfl) (A.ld1 0 rfl (o := 2) rfl))) ?_
            intro fr t H
            refine at_seg [(2, []), (3, []), (4, []), (5, []), (6, []), (7, []), (8, []), (9, [])] [(8, .ptr (some (h.size, 0))), (62, .func (.func 61) [] []), (63, .ptr (some (bp0, 0))), (64, .str ((Lib.cut p1 ([32] : List UInt8)).2.1)), (65, .int .i64 p2), (70, .int .i64 (IntKind.i64.wrap ((IntKind.i64.wrap (p2 + (((Lib.cut p1 ([32] : List UInt8)).1).length : Int))) + (1 : Int))))] H (noU_all rfl) (fun fr => by kernel_rfl) ?_
            intro fr H
            replace A : HH g h8 [.obj bp0 (.cells none 2 [rowV rp0_0 p0.c_.Includes.length, rowV rp0_1 p0.c_.Excludes.length, rowV rp0_2 p0.c_.Exprs.length, .bool p0.c_.Vcs, .bool p0.c_.Backups, .int .i64 p0.c_.Caches, .bool p0.c_.Dated, .int .i64 p0.c_.Newer.Sec, .int .i64 p0.c_.Newer.Nsec, .int .i64 p0.c_.Nth, .int .i64 p0.c_.Strip, .int .i64 p0.c_.Name, .int .i64 p0.c_.Head, .int .i64 p0.c_.States, .str p0.flags_.Text, .bool p0.flags_.Anchored, .bool p0.flags_.Fold, .bool p0.flags_.Slash, .str p0.rest_, .int .i64 p0.at_, .map (some bp0_20)]), .lst rp0_0 87 (lst e_S_pattern_Rule p0.c_.Includes), .lst rp0_1 87 (lst e_S_pattern_Rule p0.c_.Excludes), .lst rp0_2 24 (lst e_S_rewrite_Expr p0.c_.Exprs), .obj bp0_20 (.map 2 (encM (fun k : List UInt8 => .str k) (fun v : Bool => .bool v) (mput p0.seen_ ((Lib.cut p1 ([32] : List UInt8)).1) true))), .obj h2.size (.cells none 2 [.bool true, .bool false, .func (.func 61) [] []]), .obj h.size (.cells none 2 [.int .i64 (0 : Int), .int .i64 (0 : Int)]), .obj bp3 (.map 2 LA.km35)] F := (((((A.front 6 rfl).front 6 rfl).front 6 rfl).front 6 rfl).front 6 rfl)
            have A1 := A.cut 5
            obtain ⟨⟨x4, x5⟩, hx, hm⟩ := bind_some hm
            obtain ⟨v1, h9, hr, r1, rfl, A1⟩ := ok_option_words_7_sPOOOSII (av := [.ptr (some (bp0, 0)), .str ((Lib.cut p1 ([32] : List UInt8)).2.1), .int .i64 p2, .int .i64 (IntKind.i64.wrap ((IntKind.i64.wrap (p2 + (((Lib.cut p1 ([32] : List UInt8)).1).length : Int))) + (1 : Int)))]) hx (by kernel_rfl) A1
            replace A : HH g h9 [.obj bp0 (.cells none 2 [rowV r1 x5.length, rowV rp0_1 p0.c_.Excludes.length, rowV rp0_2 p0.c_.Exprs.length, .bool p0.c_.Vcs, .bool p0.c_.Backups, .int .i64 p0.c_.Caches, .bool p0.c_.Dated, .int .i64 p0.c_.Newer.Sec, .int .i64 p0.c_.Newer.Nsec, .int .i64 p0.c_.Nth, .int .i64 p0.c_.Strip, .int .i64 p0.c_.Name, .int .i64 p0.c_.Head, .int .i64 p0.c_.States, .str p0.flags_.Text, .bool p0.flags_.Anchored, .bool p0.flags_.Fold, .bool p0.flags_.Slash, .str p0.rest_, .int .i64 p0.at_, .map (some bp0_20)]), .lst r1 87 (lst e_S_pattern_Rule x5), .lst rp0_1 87 (lst e_S_pattern_Rule p0.c_.Excludes), .lst rp0_2 24 (lst e_S_rewrite_Expr p0.c_.Exprs), .obj bp0_20 (.map 2 (encM (fun k : List UInt8 => .str k) (fun v : Bool => .bool v) (mput p0.seen_ ((Lib.cut p1 ([32] : List UInt8)).1) true))), .obj h2.size (.cells none 2 [.bool true, .bool false, .func (.func 61) [] []]), .obj h.size (.cells none 2 [.int .i64 (0 : Int), .int .i64 (0 : Int)]), .obj bp3 (.map 2 LA.km35)] F := A.glue0 (n := 5) A1
            refine at_step (v := .agg [.int .i64 x4.e_, .int .i64 x4.at_]) (h1 := h9) [(8, .ptr (some (h.size, 0))), (71, .agg [.int .i64 x4.e_, .int .i64 x4.at_])] H (fun fr => by kernel_rfl) (fun fr => Steps.call (by kernel_rfl) hr) ?_
            intro fr t H
            obtain ⟨h10, hx, A1⟩ := A.st 6 rfl (o := 0) (new := [.int .i64 x4.e_, .int .i64 x4.at_]) (ds := [.int .i64 x4.e_, .int .i64 x4.at_]) (Nat.le_of_ble_eq_true rfl) rfl rfl
            replace A : HH g h10 [.obj bp0 (.cells none 2 [rowV r1 x5.length, rowV rp0_1 p0.c_.Excludes.length, rowV rp0_2 p0.c_.Exprs.length, .bool p0.c_.Vcs, .bool p0.c_.Backups, .int .i64 p0.c_.Caches, .bool p0.c_.Dated, .int .i64 p0.c_.Newer.Sec, .int .i64 p0.c_.Newer.Nsec, .int .i64 p0.c_.Nth, .int .i64 p0.c_.Strip, .int .i64 p0.c_.Name, .int .i64 p0.c_.Head, .int .i64 p0.c_.States, .str p0.flags_.Text, .bool p0.flags_.Anchored, .bool p0.flags_.Fold, .bool p0.flags_.Slash, .str p0.rest_, .int .i64 p0.at_, .map (some bp0_20)]), .lst r1 87 (lst e_S_pattern_Rule x5), .lst rp0_1 87 (lst e_S_pattern_Rule p0.c_.Excludes), .lst rp0_2 24 (lst e_S_rewrite_Expr p0.c_.Exprs), .obj bp0_20 (.map 2 (encM (fun k : List UInt8 => .str k) (fun v : Bool => .bool v) (mput p0.seen_ ((Lib.cut p1 ([32] : List UInt8)).1) true))), .obj h2.size (.cells none 2 [.bool true, .bool false, .func (.func 61) [] []]), .obj h.size (.cells none 2 [.int .i64 x4.e_, .int .i64 x4.at_]), .obj bp3 (.map 2 LA.km35)] F := A1
            refine at_step (v := .tuple []) (h1 := h10) [(8, .ptr (some (h.size, 0)))] H (fun fr => by kernel_rfl) (fun fr => .of (s_stG (by kernel_rfl) (stG_st hx rfl))) ?_
            intro fr t H
            refine at_nil ?_
            show AW cfg 37 g (right (right (right (right (right (right (right (bodyC cfg.P 37)))))))) fr h10 _
            refine aw_ret (by kernel_rfl) ?_
            have e0 := Option.some.inj hm
            obtain ⟨y0, z0⟩ := Prod.mk.inj e0
            obtain ⟨y1, z1⟩ := Prod.mk.inj z0
            obtain ⟨y2, z2⟩ := Prod.mk.inj z1
            obtain ⟨y3, z3⟩ := Prod.mk.inj z2
            subst y0
            subst y1
            subst y2
            subst y3
            subst z3
            refine ⟨.inl rfl, .agg [.int .i64 x4.e_, .int .i64 x4.at_], resL_one (.cell (resT H (fun fr => by kernel_rfl)) (load_ldA (by kernel_rfl) (by kernel_rfl) (A.ldA 6 rfl (o := 0) (n := 2) ⟨Nat.le_of_ble_eq_true rfl, rfl⟩)) .nil), ?_⟩
            replace A : HH g h10 [.obj bp0 (.cells none 2 [rowV r1 x5.length, rowV rp0_1 p0.c_.Excludes.length, rowV rp0_2 p0.c_.Exprs.length, .bool p0.c_.Vcs, .bool p0.c_.Backups, .int .i64 p0.c_.Caches, .bool p0.c_.Dated, .int .i64 p0.c_.Newer.Sec, .int .i64 p0.c_.Newer.Nsec, .int .i64 p0.c_.Nth, .int .i64 p0.c_.Strip, .int .i64 p0.c_.Name, .int .i64 p0.c_.Head, .int .i64 p0.c_.States, .str p0.flags_.Text, .bool p0.flags_.Anchored, .bool p0.flags_.Fold, .bool p0.flags_.Slash, .str p0.rest_, .int .i64 p0.at_, .map (some bp0_20)]), .lst r1 87 (lst e_S_pattern_Rule x5), .lst rp0_1 87 (lst e_S_pattern_Rule p0.c_.Excludes), .lst rp0_2 24 (lst e_S_rewrite_Expr p0.c_.Exprs), .obj bp0_20 (.map 2 (encM (fun k : List UInt8 => .str k) (fun v : Bool => .bool v) (mput p0.seen_ ((Lib.cut p1 ([32] : List UInt8)).1) true))), .obj bp3 (.map 2 LA.km35)] F := (HH.dropF ((((((A.front 7 rfl).front 5 rfl).front 5 rfl).front 5 rfl).front 5 rfl).front 5 rfl) 6)
            exact ⟨r1, rp0_1, rfl, A⟩
         ·skip
          rcases iteB_some hm with ⟨hb, hm⟩ | ⟨hk8, hm⟩
          ·skip
           refine at_step (v := .tuple [.agg [.bool true, .bool false, .func (.func 63) [] []], .bool true]) (h1 := h2) [(0, .ptr (some (bp0, 0))), (2, .int .i64 p2), (8, .ptr (some (h.size, 0))), (9, .str ((Lib.cut p1 ([32] : List UInt8)).1)), (10, .str ((Lib.cut p1 ([32] : List UInt8)).2.1)), (11, .bool ((Lib.cut p1 ([32] : List UInt8)).2.2)), (31, .tuple [.agg [.bool true, .bool false, .func (.func 63) [] []], .bool true])] H (fun fr => by kernel_rfl) (fun fr => .of (s_lkT (by kernel_rfl) (HH.mlookC (P := cfg.P) A 6 rfl (t := 91) (kt := 9) (et := 129) (by kernel_rfl) (by kernel_rfl) (s := ((Lib.cut p1 ([32] : List UInt8)).1)) (.miss hk1 (.miss hk2 (.miss hk3 (.miss hk4 (.miss hk5 (.miss hk6 (.miss hk7 (.hit hb))))))))))) ?_
           intro fr t H
           refine at_seg [(3, []), (4, []), (5, [])] [(0, .ptr (some (bp0, 0))), (2, .int .i64 p2), (8, .ptr (some (h.size, 0))), (9, .str ((Lib.cut p1 ([32] : List UInt8)).1)), (10, .str ((Lib.cut p1 ([32] : List UInt8)).2.1)), (11, .bool ((Lib.cut p1 ([32] : List UInt8)).2.2)), (32, .agg [.bool true, .bool false, .func (.func 63) [] []]), (33, .bool true)] H (noU_all rfl) (fun fr => by kernel_rfl) ?_
           intro fr H
           obtain ⟨h11, e3⟩ : ∃ x, x = h2.push (.cells none 2 [.bool false, .bool false, .nilFunc]) := ⟨_, rfl⟩
           replace A := (A.push _).to e3
           refine at_step (v := .ptr (some (h2.size, 0))) (h1 := h11) [(0, .ptr (some (bp0, 0))), (2, .int .i64 p2), (8, .ptr (some (h.size, 0))), (9, .str ((Lib.cut p1 ([32] : List UInt8)).1)), (10, .str ((Lib.cut p1 ([32] : List UInt8)).2.1)), (11, .bool ((Lib.cut p1 ([32] : List UInt8)).2.2)), (12, .ptr (some (h2.size, 0))), (32, .agg [.bool true, .bool false, .func (.func 63) [] []]), (33, .bool true)] H (fun fr => by kernel_rfl) (fun fr => .of (s_n' (by kernel_rfl) (congrArg some e3.symm))) ?_
           intro fr t H
           obtain ⟨h12, hx, A1⟩ := A.st 0 rfl (o := 0) (new := [.bool true, .bool false, .func (.func 63) [] []]) (ds := [.bool true, .bool false, .func (.func 63) [] []]) (Nat.le_of_ble_eq_true rfl) rfl rfl
           replace A : HH g h12 [.obj h2.size (.cells none 2 [.bool true, .bool false, .func (.func 63) [] []]), .obj h.size (.cells none 2 [.int .i64 (0 : Int), .int .i64 (0 : Int)]), .obj bp0 (.cells none 2 [rowV rp0_0 p0.c_.Includes.length, rowV rp0_1 p0.c_.Excludes.length, rowV rp0_2 p0.c_.Exprs.length, .bool p0.c_.Vcs, .bool p0.c_.Backups, .int .i64 p0.c_.Caches, .bool p0.c_.Dated, .int .i64 p0.c_.Newer.Sec, .int .i64 p0.c_.Newer.Nsec, .int .i64 p0.c_.Nth, .int .i64 p0.c_.Strip, .int .i64 p0.c_.Name, .int .i64 p0.c_.Head, .int .i64 p0.c_.States, .str p0.flags_.Text, .bool p0.flags_.Anchored, .bool p0.flags_.Fold, .bool p0.flags_.Slash, .str p0.rest_, .int .i64 p0.at_, .map (some bp0_20)]), .lst rp0_0 87 (lst e_S_pattern_Rule p0.c_.Includes), .lst rp0_1 87 (lst e_S_pattern_Rule p0.c_.Excludes), .lst rp0_2 24 (lst e_S_rewrite_Expr p0.c_.Exprs), .obj bp0_20 (.map 2 (encM (fun k : List UInt8 => .str k) (fun v : Bool => .bool v) p0.seen_)), .obj bp3 (.map 2 LA.km35)] F := A1
           refine at_step (v := .tuple []) (h1 := h12) [(0, .ptr (some (bp0, 0))), (2, .int .i64 p2), (8, .ptr (some (h.size, 0))), (9, .str ((Lib.cut p1 ([32] : List UInt8)).1)), (10, .str ((Lib.cut p1 ([32] : List UInt8)).2.1)), (11, .bool ((Lib.cut p1 ([32] : List UInt8)).2.2)), (12, .ptr (some (h2.size, 0))), (33, .bool true)] H (fun fr => by kernel_rfl) (fun fr => .of (s_stG (by kernel_rfl) (stG_st hx rfl))) ?_
           intro fr t H
           refine at_seg [(8, [])] [(0, .ptr (some (bp0, 0))), (2, .int .i64 p2), (8, .ptr (some (h.size, 0))), (9, .str ((Lib.cut p1 ([32] : List UInt8)).1)), (10, .str ((Lib.cut p1 ([32] : List UInt8)).2.1)), (11, .bool ((Lib.cut p1 ([32] : List UInt8)).2.2)), (12, .ptr (some (h2.size, 0))), (13, .bool true)] H (noU_all rfl) (fun fr => by kernel_rfl) ?_
           intro fr H
           refine at_nil ?_
           show AW cfg 37 g (right (right (right (right (bodyC cfg.P 37))))) fr h12 _
           refine aw_seq (by kernel_rfl) ?_
           refine aw_seq (by kernel_rfl) ?_
           refine aw_reg (id := 5) (n := 20) [(0, []), (1, []), (2, []), (3, []), (4, []), (5, []), (6, []), (7, []), (8, []), (9, []), (10, []), (11, []), (12, []), (13, []), (14, []), (15, []), (16, []), (17, []), (18, []), (19, [])] (by kernel_rfl) (by kernel_rfl) ?_
           refine at_seg [(0, []), (1, []), (2, []), (3, []), (4, [])] [(0, .ptr (some (bp0, 0))), (2, .int .i64 p2), (8, .ptr (some (h.size, 0))), (9, .str ((Lib.cut p1 ([32] : List UInt8)).1)), (10, .str ((Lib.cut p1 ([32] : List UInt8)).2.1)), (12, .ptr (some (h2.size, 0))), (36, .bool false), (37, .bool ((Lib.cut p1 ([32] : List UInt8)).2.2)), (38, .ptr (some (h2.size, 0)))] H (noU_all rfl) (fun fr => by kernel_rfl) ?_
           intro fr H
           refine at_step (v := .bool true) (h1 := h12) [(0, .ptr (some (bp0, 0))), (2, .int .i64 p2), (8, .ptr (some (h.size, 0))), (9, .str ((Lib.cut p1 ([32] : List UInt8)).1)), (10, .str ((Lib.cut p1 ([32] : List UInt8)).2.1)), (12, .ptr (some (h2.size, 0))), (36, .bool false), (37, .bool ((Lib.cut p1 ([32] : List UInt8)).2.2)), (39, .bool true)] H (fun fr => by kernel_rfl) (fun fr => .of (s_ld (by kernel_rfl) (A.ld1 0 rfl (o := 0) rfl))) ?_
           intro fr t H
           refine at_seg [(6, []), (7, []), (8, [])] [(0, .ptr (some (bp0, 0))), (2, .int .i64 p2), (8, .ptr (some (h.size, 0))), (9, .str ((Lib.cut p1 ([32] : List UInt8)).1)), (10, .str ((Lib.cut p1 ([32] : List UInt8)).2.1)), (12, .ptr (some (h2.size, 0))), (42, .bool (!(((Lib.cut p1 ([32] : List UInt8)).2.2) == true)))] H (noU_all rfl) (fun fr => by kernel_rfl) ?_
           intro fr H
           refine at_cut [(9, []), (10, []), (11, []), (12, []), (13, []), (14, []), (15, []), (16, []), (17, []), (18, []), (19, [])] (fun fr' h' => h12 = h' ∧ Has fr' 72 [(0, .ptr (some (bp0, 0))), (2, .int .i64 p2), (8, .ptr (some (h.size, 0))), (9, .str ((Lib.cut p1 ([32] : List UInt8)).1)), (10, .str ((Lib.cut p1 ([32] : List UInt8)).2.1)), (12, .ptr (some (h2.size, 0))), (53, .bool ((!(((Lib.cut p1 ([32] : List UInt8)).2.2) == true)) || false))]) ?_ ?_
           ·cases hb : (!(((Lib.cut p1 ([32] : List UInt8)).2.2) == true) : Bool) with
            | true =>
             replace H := H.know 42 hb (by kernel_rfl)
             refine at_seg [(9, []), (10, []), (11, []), (12, []), (13, []), (14, []), (15, []), (16, []), (17, []), (18, []), (19, [])] [(0, .ptr (some (bp0, 0))), (2, .int .i64 p2), (8, .ptr (some (h.size, 0))), (9, .str ((Lib.cut p1 ([32] : List UInt8)).1)), (10, .str ((Lib.cut p1 ([32] : List UInt8)).2.1)), (12, .ptr (some (h2.size, 0))), (53, .bool true)] H (noU_all rfl) (fun fr => by kernel_rfl) ?_
             intro fr H
             exact at_nil ⟨rfl, by first | exact H.less _ (fun fr => by rfl) | exact H.less _ (fun fr => by rw [hb]; rfl)⟩
            | false =>
             replace H := H.know 42 hb (by kernel_rfl)
             refine at_seg [(9, [])] [(0, .ptr (some (bp0, 0))), (2, .int .i64 p2), (8, .ptr (some (h.size, 0))), (9, .str ((Lib.cut p1 ([32] : List UInt8)).1)), (10, .str ((Lib.cut p1 ([32] : List UInt8)).2.1)), (12, .ptr (some (h2.size, 0))), (42, .bool false), (43, .ptr (some (h2.size, 1)))] H (noU_all rfl) (fun fr => by kernel_rfl) ?_
             intro fr H
             refine at_step (v := .bool false) (h1 := h12) [(0, .ptr (some (bp0, 0))), (2, .int .i64 p2), (8, .ptr (some (h.size, 0))), (9, .str ((Lib.cut p1 ([32] : List UInt8)).1)), (10, .str ((Lib.cut p1 ([32] : List UInt8)).2.1)), (12, .ptr (some (h2.size, 0))), (42, .bool false), (44, .bool false)] H (fun fr => by kernel_rfl) (fun fr => .of (s_ld (by kernel_rfl) (A.ld1 0 rfl (o := 1) rfl))) ?_
             intro fr t H
             refine at_seg [(11, []), (12, []), (13, []), (14, []), (15, []), (16, []), (17, []), (18, []), (19, [])] [(0, .ptr (some (bp0, 0))), (2, .int .i64 p2), (8, .ptr (some (h.size, 0))), (9, .str ((Lib.cut p1 ([32] : List UInt8)).1)), (10, .str ((Lib.cut p1 ([32] : List UInt8)).2.1)), (12, .ptr (some (h2.size, 0))), (53, .bool false)] H (noU_all rfl) (fun fr => by kernel_rfl) ?_
             intro fr H
             exact at_nil ⟨rfl, by first | exact H.less _ (fun fr => by rfl) | exact H.less _ (fun fr => by rw [hb]; rfl)⟩
           ·intro t fr h' hK
            obtain ⟨e, H⟩ := hK
            subst e
            refine at_nil ?_
            show AW cfg 37 g (right (left (right (right (right (right (bodyC cfg.P 37))))))) fr h12 _
            rcases iteB_some hm with ⟨hb, hm⟩ | ⟨hb, hm⟩
            ·replace H := H.know 53 hb (by kernel_rfl)
             refine aw_true (x := .tmp 53) (by kernel_rfl) H (fun fr => by kernel_rfl) ?_
             refine aw_seq (by kernel_rfl) ?_
             refine aw_reg (id := 6) (n := 3) [(0, []), (1, []), (2, [])] (by kernel_rfl) (by kernel_rfl) ?_
             refine at_seg [(0, []), (1, [])] [(8, .ptr (some (h.size, 0))), (55, .agg [.int .i64 (11 : Int), .int .i64 p2])] H (noU_all rfl) (fun fr => by kernel_rfl) ?_
             intro fr H
             obtain ⟨h13, hx, A1⟩ := A.st 1 rfl (o := 0) (new := [.int .i64 (11 : Int), .int .i64 p2]) (ds := [.int .i64 (11 : Int), .int .i64 p2]) (Nat.le_of_ble_eq_true rfl) rfl rfl
             replace A : HH g h13 [.obj h2.size (.cells none 2 [.bool true, .bool false, .func (.func 63) [] []]), .obj h.size (.cells none 2 [.int .i64 (11 : Int), .int .i64 p2]), .obj bp0 (.cells none 2 [rowV rp0_0 p0.c_.Includes.length, rowV rp0_1 p0.c_.Excludes.length, rowV rp0_2 p0.c_.Exprs.length, .bool p0.c_.Vcs, .bool p0.c_.Backups, .int .i64 p0.c_.Caches, .bool p0.c_.Dated, .int .i64 p0.c_.Newer.Sec, .int .i64 p0.c_.Newer.Nsec, .int .i64 p0.c_.Nth, .int .i64 p0.c_.Strip, .int .i64 p0.c_.Name, .int .i64 p0.c_.Head, .int .i64 p0.c_.States, .str p0.flags_.Text, .bool p0.flags_.Anchored, .bool p0.flags_.Fold, .bool p0.flags_.Slash, .str p0.rest_, .int .i64 p0.at_, .map (some bp0_20)]), .lst rp0_0 87 (lst e_S_pattern_Rule p0.c_.Includes), .lst rp0_1 87 (lst e_S_pattern_Rule p0.c_.Excludes), .lst rp0_2 24 (lst e_S_rewrite_Expr p0.c_.Exprs), .obj bp0_20 (.map 2 (encM (fun k : List UInt8 => .str k) (fun v : Bool => .bool v) p0.seen_)), .obj bp3 (.map 2 LA.km35)] F := A1
             refine at_step (v := .tuple []) (h1 := h13) [(8, .ptr (some (h.size, 0)))] H (fun fr => by kernel_rfl) (fun fr => .of (s_stG (by kernel_rfl) (stG_st hx rfl))) ?_
             intro fr t H
             refine at_nil ?_
             show AW cfg 37 g (right (left (right (left (right (right (right (right (bodyC cfg.P 37))))))))) fr h13 _
             refine aw_ret (by kernel_rfl) ?_
             have e0 := Option.some.inj hm
             obtain ⟨y0, z0⟩ := Prod.mk.inj e0
             obtain ⟨y1, z1⟩ := Prod.mk.inj z0
             obtain ⟨y2, z2⟩ := Prod.mk.inj z1
             obtain ⟨y3, z3⟩ := Prod.mk.inj z2
             subst y0
             subst y1
             subst y2
             subst y3
             subst z3
             refine ⟨.inl rfl, .agg [.int .i64 (11 : Int), .int .i64 p2], resL_one (.cell (resT H (fun fr => by kernel_rfl)) (load_ldA (by kernel_rfl) (by kernel_rfl) (A.ldA 1 rfl (o := 0) (n := 2) ⟨Nat.le_of_ble_eq_true rfl, rfl⟩)) .nil), ?_⟩
             replace A : HH g h13 [.obj bp0 (.cells none 2 [rowV rp0_0 p0.c_.Includes.length, rowV rp0_1 p0.c_.Excludes.length, rowV rp0_2 p0.c_.Exprs.length, .bool p0.c_.Vcs, .bool p0.c_.Backups, .int .i64 p0.c_.Caches, .bool p0.c_.Dated, .int .i64 p0.c_.Newer.Sec, .int .i64 p0.c_.Newer.Nsec, .int .i64 p0.c_.Nth, .int .i64 p0.c_.Strip, .int .i64 p0.c_.Name, .int .i64 p0.c_.Head, .int .i64 p0.c_.States, .str p0.flags_.Text, .bool p0.flags_.Anchored, .bool p0.flags_.Fold, .bool p0.flags_.Slash, .str p0.rest_, .int .i64 p0.at_, .map (some bp0_20)]), .lst rp0_0 87 (lst e_S_pattern_Rule p0.c_.Includes), .lst rp0_1 87 (lst e_S_pattern_Rule p0.c_.Excludes), .lst rp0_2 24 (lst e_S_rewrite_Expr p0.c_.Exprs), .obj bp0_20 (.map 2 (encM (fun k : List UInt8 => .str k) (fun v : Bool => .bool v) p0.seen_)), .obj bp3 (.map 2 LA.km35)] F := (HH.dropF ((((((A.front 7 rfl).front 7 rfl).front 7 rfl).front 7 rfl).front 7 rfl).front 7 rfl) 6)
             exact ⟨rp0_0, rp0_1, rfl, A⟩
            ·replace H := H.know 53 hb (by kernel_rfl)
             refine aw_false (x := .tmp 53) (by kernel_rfl) H (fun fr => by kernel_rfl) ?_
             refine aw_skip (by kernel_rfl) ?_
             show AW cfg 37 g (right (right (right (right (right (bodyC cfg.P 37)))))) fr h12 _
             refine aw_seq (by kernel_rfl) ?_
             refine aw_reg (id := 7) (n := 6) [(0, []), (1, []), (2, []), (3, []), (4, []), (5, [])] (by kernel_rfl) (by kernel_rfl) ?_
             refine at_seg [(0, []), (1, []), (2, [])] [(0, .ptr (some (bp0, 0))), (2, .int .i64 p2), (8, .ptr (some (h.size, 0))), (9, .str ((Lib.cut p1 ([32] : List UInt8)).1)), (10, .str ((Lib.cut p1 ([32] : List UInt8)).2.1)), (12, .ptr (some (h2.size, 0))), (58, .ptr (some (bp0, 20)))] H (noU_all rfl) (fun fr => by kernel_rfl) ?_
             intro fr H
             refine at_step (v := .map (some bp0_20)) (h1 := h12) [(0, .ptr (some (bp0, 0))), (2, .int .i64 p2), (8, .ptr (some (h.size, 0))), (9, .str ((Lib.cut p1 ([32] : List UInt8)).1)), (10, .str ((Lib.cut p1 ([32] : List UInt8)).2.1)), (12, .ptr (some (h2.size, 0))), (59, .map (some bp0_20))] H (fun fr => by kernel_rfl) (fun fr => .of (s_ld (by kernel_rfl) (A.ld1 2 rfl (o := 20) rfl))) ?_
             intro fr t H
             refine at_seg [(4, [])] [(0, .ptr (some (bp0, 0))), (2, .int .i64 p2), (8, .ptr (some (h.size, 0))), (9, .str ((Lib.cut p1 ([32] : List UInt8)).1)), (10, .str ((Lib.cut p1 ([32] : List UInt8)).2.1)), (12, .ptr (some (h2.size, 0))), (59, .map (some bp0_20)), (60, .str ((Lib.cut p1 ([32] : List UInt8)).1))] H (noU_all rfl) (fun fr => by kernel_rfl) ?_
             intro fr H
             obtain ⟨h14, hx, A1⟩ := HH.mset (kt := 9) (et := 4) (ek := fun k : List UInt8 => .str k) (ev := fun v : Bool => .bool v) (keyS (by kernel_rfl)) A 6 rfl (t := 88) (by kernel_rfl) ((Lib.cut p1 ([32] : List UInt8)).1) true
             replace A : HH g h14 [.obj h2.size (.cells none 2 [.bool true, .bool false, .func (.func 63) [] []]), .obj h.size (.cells none 2 [.int .i64 (0 : Int), .int .i64 (0 : Int)]), .obj bp0 (.cells none 2 [rowV rp0_0 p0.c_.Includes.length, rowV rp0_1 p0.c_.Excludes.length, rowV rp0_2 p0.c_.Exprs.length, .bool p0.c_.Vcs, .bool p0.c_.Backups, .int .i64 p0.c_.Caches, .bool p0.c_.Dated, .int .i64 p0.c_.Newer.Sec, .int .i64 p0.c_.Newer.Nsec, .int .i64 p0.c_.Nth, .int .i64 p0.c_.Strip, .int .i64 p0.c_.Name, .int .i64 p0.c_.Head, .int .i64 p0.c_.States, .str p0.flags_.Text, .bool p0.flags_.Anchored, .bool p0.flags_.Fold, .bool p0.flags_.Slash, .str p0.rest_, .int .i64 p0.at_, .map (some bp0_20)]), .lst rp0_0 87 (lst e_S_pattern_Rule p0.c_.Includes), .lst rp0_1 87 (lst e_S_pattern_Rule p0.c_.Excludes), .lst rp0_2 24 (lst e_S_rewrite_Expr p0.c_.Exprs), .obj bp0_20 (.map 2 (encM (fun k : List UInt8 => .str k) (fun v : Bool => .bool v) (mput p0.seen_ ((Lib.cut p1 ([32] : List UInt8)).1) true))), .obj bp3 (.map 2 LA.km35)] F := A1
             refine at_step (v := .tuple []) (h1 := h14) [(0, .ptr (some (bp0, 0))), (2, .int .i64 p2), (8, .ptr (some (h.size, 0))), (9, .str ((Lib.cut p1 ([32] : List UInt8)).1)), (10, .str ((Lib.cut p1 ([32] : List UInt8)).2.1)), (12, .ptr (some (h2.size, 0)))] H (fun fr => by kernel_rfl) (fun fr => .of (s_ms (by kernel_rfl) hx)) ?_
             intro fr t H
             refine at_nil ?_
             show AW cfg 37 g (right (right (right (right (right (right (bodyC cfg.P 37))))))) fr h14 _
             refine aw_seq (by kernel_rfl) ?_
             refine aw_reg (id := 8) (n := 12) [(0, []), (1, []), (2, []), (3, []), (4, []), (5, []), (6, []), (7, []), (8, []), (9, []), (10, []), (11, [])] (by kernel_rfl) (by kernel_rfl) ?_
             refine at_seg [(0, [])] [(0, .ptr (some (bp0, 0))), (2, .int .i64 p2), (8, .ptr (some (h.size, 0))), (9, .str ((Lib.cut p1 ([32] : List UInt8)).1)), (10, .str ((Lib.cut p1 ([32] : List UInt8)).2.1)), (61, .ptr (some (h2.size, 2)))] H (noU_all rfl) (fun fr => by kernel_rfl) ?_
             intro fr H
             refine at_step (v := .func (.func 63) [] []) (h1 := h14) [(0, .ptr (some (bp0, 0))), (2, .int .i64 p2), (8, .ptr (some (h.size, 0))), (9, .str ((Lib.cut p1 ([32] : List UInt8)).1)), (10, .str ((Lib.cut p1 ([32] : List UInt8)).2.1)), (62, .func (.func 63) [] [])] H (fun fr => by kernel_rfl) (fun fr => .of (s_ld (by kernel_rfl) (A.ld1 0 rfl (o := 2) rfl))) ?_
             intro fr t H
             refine at_seg [(2, []), (3, []), (4, []), (5, []), (6, []), (7, []), (8, []), (9, [])] [(8, .ptr (some (h.size, 0))), (62, .func (.func 63) [] []), (63, .ptr (some (bp0, 0))), (64, .str ((Lib.cut p1 ([32] : List UInt8)).2.1)), (65, .int .i64 p2), (70, .int .i64 (IntKind.i64.wrap ((IntKind.i64.wrap (p2 + (((Lib.cut p1 ([32] : List UInt8)).1).length : Int))) + (1 : Int))))] H (noU_all rfl) (fun fr => by kernel_rfl) ?_
             intro fr H
             replace A : HH g h14 [.obj bp0 (.cells none 2 [rowV rp0_0 p0.c_.Includes.length, rowV rp0_1 p0.c_.Excludes.length, rowV rp0_2 p0.c_.Exprs.length, .bool p0.c_.Vcs, .bool p0.c_.Backups, .int .i64 p0.c_.Caches, .bool p0.c_.Dated, .int .i64 p0.c_.Newer.Sec, .int .i64 p0.c_.Newer.Nsec, .int .i64 p0.c_.Nth, .int .i64 p0.c_.Strip, .int .i64 p0.c_.Name, .int .i64 p0.c_.Head, .int .i64 p0.c_.States, .str p0.flags_.Text, .bool p0.flags_.Anchored, .bool p0.flags_.Fold, .bool p0.flags_.Slash, .str p0.rest_, .int .i64 p0.at_, .map (some bp0_20)]), .lst rp0_0 87 (lst e_S_pattern_Rule p0.c_.Includes), .lst rp0_1 87 (lst e_S_pattern_Rule p0.c_.Excludes), .lst rp0_2 24 (lst e_S_rewrite_Expr p0.c_.Exprs), .obj bp0_20 (.map 2 (encM (fun k : List UInt8 => .str k) (fun v : Bool => .bool v) (mput p0.seen_ ((Lib.cut p1 ([32] : List UInt8)).1) true))), .obj h2.size (.cells none 2 [.bool true, .bool false, .func (.func 63) [] []]), .obj h.size (.cells none 2 [.int .i64 (0 : Int), .int .i64 (0 : Int)]), .obj bp3 (.map 2 LA.km35)] F := (((((A.front 6 rfl).front 6 rfl).front 6 rfl).front 6 rfl).front 6 rfl)
             have A1 := A.cut 5
             obtain ⟨⟨x6, x7⟩, hx, hm⟩ := bind_some hm
             obtain ⟨v1, h15, hr, r2, rfl, A1⟩ := ok_option_words_8_sPOOOSII (av := [.ptr (some (bp0, 0)), .str ((Lib.cut p1 ([32] : List UInt8)).2.1), .int .i64 p2, .int .i64 (IntKind.i64.wrap ((IntKind.i64.wrap (p2 + (((Lib.cut p1 ([32] : List UInt8)).1).length : Int))) + (1 : Int)))]) hx (by kernel_rfl) A1
             replace A : HH g h15 [.obj bp0 (.cells none 2 [rowV rp0_0 p0.c_.Includes.length, rowV r2 x7.length, rowV rp0_2 p0.c_.Exprs.length, .bool p0.c_.Vcs, .bool p0.c_.Backups, .int .i64 p0.c_.Caches, .bool p0.c_.Dated, .int .i64 p0.c_.Newer.Sec, .int .i64 p0.c_.Newer.Nsec, .int .i64 p0.c_.Nth, .int .i64 p0.c_.Strip, .int .i64 p0.c_.Name, .int .i64 p0.c_.Head, .int .i64 p0.c_.States, .str p0.flags_.Text, .bool p0.flags_.Anchored, .bool p0.flags_.Fold, .bool p0.flags_.Slash, .str p0.rest_, .int .i64 p0.at_, .map (some bp0_20)]), .lst rp0_0 87 (lst e_S_pattern_Rule p0.c_.Includes), .lst r2 87 (lst e_S_pattern_Rule x7), .lst rp0_2 24 (lst e_S_rewrite_Expr p0.c_.Exprs), .obj bp0_20 (.map 2 (encM (fun k : List UInt8 => .str k) (fun v : Bool => .bool v) (mput p0.seen_ ((Lib.cut p1 ([32] : List UInt8)).1) true))), .obj h2.size (.cells none 2 [.bool true, .bool false, .func (.func 63) [] []]), .obj h.size (.cells none 2 [.int .i64 (0 : Int), .int .i64 (0 : Int)]), .obj bp3 (.map 2 LA.km35)] F := A.glue0 (n := 5) A1
             refine at_step (v := .agg [.int .i64 x6.e_, .int .i64 x6.at_]) (h1 := h15) [(8, .ptr (some (h.size, 0))), (71, .agg [.int .i64 x6.e_, .int .i64 x6.at_])] H (fun fr => by kernel_rfl) (fun fr => Steps.call (by kernel_rfl) hr) ?_
             intro fr t H
             obtain ⟨h16, hx, A1⟩ := A.st 6 rfl (o := 0) (new := [.int .i64 x6.e_, .int .i64 x6.at_]) (ds := [.int .i64 x6.e_, .int .i64 x6.at_]) (Nat.le_of_ble_eq_true rfl) rfl rfl
             replace A : HH g h16 [.obj bp0 (.cells none 2 [rowV rp0_0 p0.c_.Includes.length, rowV r2 x7.length, rowV rp0_2 p0.c_.Exprs.length, .bool p0.c_.Vcs, .bool p0.c_.Backups, .int .i64 p0.c_.Caches, .bool p0.c_.Dated, .int .i64 p0.c_.Newer.Sec, .int .i64 p0.c_.Newer.Nsec, .int .i64 p0.c_.Nth, .int .i64 p0.c_.Strip, .int .i64 p0.c_.Name, .int .i64 p0.c_.Head, .int .i64 p0.c_.States, .str p0.flags_.Text, .bool p0.flags_.Anchored, .bool p0.flags_.Fold, .bool p0.flags_.Slash, .str p0.rest_, .int .i64 p0.at_, .map (some bp0_20)]), .lst rp0_0 87 (lst e_S_pattern_Rule p0.c_.Includes), .lst r2 87 (lst e_S_pattern_Rule x7), .lst rp0_2 24 (lst e_S_rewrite_Expr p0.c_.Exprs), .obj bp0_20 (.map 2 (encM (fun k : List UInt8 => .str k) (fun v : Bool => .bool v) (mput p0.seen_ ((Lib.cut p1 ([32] : List UInt8)).1) true))), .obj h2.size (.cells none 2 [.bool true, .bool false, .func (.func 63) [] []]), .obj h.size (.cells none 2 [.int .i64 x6.e_, .int .i64 x6.at_]), .obj bp3 (.map 2 LA.km35)] F := A1
             refine at_step (v := .tuple []) (h1 := h16) [(8, .ptr (some (h.size, 0)))] H (fun fr => by kernel_rfl) (fun fr => .of (s_stG (by kernel_rfl) (stG_st hx rfl))) ?_
             intro fr t H
             refine at_nil ?_
             show AW cfg 37 g (right (right (right (right (right (right (right (bodyC cfg.P 37)))))))) fr h16 _
             refine aw_ret (by kernel_rfl) ?_
             have e0 := Option.some.inj hm
             obtain ⟨y0, z0⟩ := Prod.mk.inj e0
             obtain ⟨y1, z1⟩ := Prod.mk.inj z0
             obtain ⟨y2, z2⟩ := Prod.mk.inj z1
             obtain ⟨y3, z3⟩ := Prod.mk.inj z2
             subst y0
             subst y1
             subst y2
             subst y3
             subst z3
             refine ⟨.inl rfl, .agg [.int .i64 x6.e_, .int .i64 x6.at_], resL_one (.cell (resT H (fun fr => by kernel_rfl)) (load_ldA (by kernel_rfl) (by kernel_rfl) (A.ldA 6 rfl (o := 0) (n := 2) ⟨Nat.le_of_ble_eq_true rfl, rfl⟩)) .nil), ?_⟩
             replace A : HH g h16 [.obj bp0 (.cells none 2 [rowV rp0_0 p0.c_.Includes.length, rowV r2 x7.length, rowV rp0_2 p0.c_.Exprs.length, .bool p0.c_.Vcs, .bool p0.c_.Backups, .int .i64 p0.c_.Caches, .bool p0.c_.Dated, .int .i64 p0.c_.Newer.Sec, .int .i64 p0.c_.Newer.Nsec, .int .i64 p0.c_.Nth, .int .i64 p0.c_.Strip, .int .i64 p0.c_.Name, .int .i64 p0.c_.Head, .int .i64 p0.c_.States, .str p0.flags_.Text, .bool p0.flags_.Anchored, .bool p0.flags_.Fold, .bool p0.flags_.Slash, .str p0.rest_, .int .i64 p0.at_, .map (some bp0_20)]), .lst rp0_0 87 (lst e_S_pattern_Rule p0.c_.Includes), .lst r2 87 (lst e_S_pattern_Rule x7), .lst rp0_2 24 (lst e_S_rewrite_Expr p0.c_.Exprs), .obj bp0_20 (.map 2 (encM (fun k : List UInt8 => .str k) (fun v : Bool => .bool v) (mput p0.seen_ ((Lib.cut p1 ([32] : List UInt8)).1) true))), .obj bp3 (.map 2 LA.km35)] F := (HH.dropF ((((((A.front 7 rfl).front 5 rfl).front 5 rfl).front 5 rfl).front 5 rfl).front 5 rfl) 6)
             exact ⟨rp0_0, r2, rfl, A⟩
          ·skip
           rcases iteB_some hm with ⟨hb, hm⟩ | ⟨hk9, hm⟩
           ·skip
            refine at_step (v := .tuple [.agg [.bool true, .bool false, .func (.func 64) [] []], .bool true]) (h1 := h2) [(0, .ptr (some (bp0, 0))), (2, .int .i64 p2), (8, .ptr (some (h.size, 0))), (9, .str ((Lib.cut p1 ([32] : List UInt8)).1)), (10, .str ((Lib.cut p1 ([32] : List UInt8)).2.1)), (11, .bool ((Lib.cut p1 ([32] : List UInt8)).2.2)), (31, .tuple [.agg [.bool true, .bool false, .func (.func 64) [] []], .bool true])] H (fun fr => by kernel_rfl) (fun fr => .of (s_lkT (by kernel_rfl) (HH.mlookC (P := cfg.P) A 6 rfl (t := 91) (kt := 9) (et := 129) (by kernel_rfl) (by kernel_rfl) (s := ((Lib.cut p1 ([32] : List UInt8)).1)) (.miss hk1 (.miss hk2 (.miss hk3 (.miss hk4 (.miss hk5 (.miss hk6 (.miss hk7 (.miss hk8 (.hit hb)))))))))))) ?_
            intro fr t H
            refine at_seg [(3, []), (4, []), (5, [])] [(0, .ptr (some (bp0, 0))), (2, .int .i64 p2), (8, .ptr (some (h.size, 0))), (9, .str ((Lib.cut p1 ([32] : List UInt8)).1)), (10, .str ((Lib.cut p1 ([32] : List UInt8)).2.1)), (11, .bool ((Lib.cut p1 ([32] : List UInt8)).2.2)), (32, .agg [.bool true, .bool false, .func (.func 64) [] []]), (33, .bool true)] H (noU_all rfl) (fun fr => by kernel_rfl) ?_
            intro fr H
            obtain ⟨h17, e4⟩ : ∃ x, x = h2.push (.cells none 2 [.bool false, .bool false, .nilFunc]) := ⟨_, rfl⟩
            replace A := (A.push _).to e4
            refine at_step (v := .ptr (some (h2.size, 0))) (h1 := h17) [(0, .ptr (some (bp0, 0))), (2, .int .i64 p2), (8, .ptr (some (h.size, 0))), (9, .str ((Lib.cut p1 ([32] : List UInt8)).1)), (10, .str ((Lib.cut p1 ([32] : List UInt8)).2.1)), (11, .bool ((Lib.cut p1 ([32] : List UInt8)).2.2)), (12, .ptr (some (h2.size, 0))), (32, .agg [.bool true, .bool false, .func (.func 64) [] []]), (33, .bool true)] H (fun fr => by kernel_rfl) (fun fr => .of (s_n' (by kernel_rfl) (congrArg some e4.symm))) ?_
            intro fr t H
            obtain ⟨h18, hx, A1⟩ := A.st 0 rfl (o := 0) (new := [.bool true, .bool false, .func (.func 64) [] []]) (ds := [.bool true, .bool false, .func (.func 64) [] []]) (Nat.le_of_ble_eq_true rfl) rfl rfl
            replace A : HH g h18 [.obj h2.size (.cells none 2 [.bool true, .bool false, .func (.func 64) [] []]), .obj h.size (.cells none 2 [.int .i64 (0 : Int), .int .i64 (0 : Int)]), .obj bp0 (.cells none 2 [rowV rp0_0 p0.c_.Includes.length, rowV rp0_1 p0.c_.Excludes.length, rowV rp0_2 p0.c_.Exprs.length, .bool p0.c_.Vcs, .bool p0.c_.Backups, .int .i64 p0.c_.Caches, .bool p0.c_.Dated, .int .i64 p0.c_.Newer.Sec, .int .i64 p0.c_.Newer.Nsec, .int .i64 p0.c_.Nth, .int .i64 p0.c_.Strip, .int .i64 p0.c_.Name, .int .i64 p0.c_.Head, .int .i64 p0.c_.States, .str p0.flags_.Text, .bool p0.flags_.Anchored, .bool p0.flags_.Fold, .bool p0.flags_.Slash, .str p0.rest_, .int .i64 p0.at_, .map (some bp0_20)]), .lst rp0_0 87 (lst e_S_pattern_Rule p0.c_.Includes), .lst rp0_1 87 (lst e_S_pattern_Rule p0.c_.Excludes), .lst rp0_2 24 (lst e_S_rewrite_Expr p0.c_.Exprs), .obj bp0_20 (.map 2 (encM (fun k : List UInt8 => .str k) (fun v : Bool => .bool v) p0.seen_)), .obj bp3 (.map 2 LA.km35)] F := A1
            refine at_step (v := .tuple []) (h1 := h18) [(0, .ptr (some (bp0, 0))), (2, .int .i64 p2), (8, .ptr (some (h.size, 0))), (9, .str ((Lib.cut p1 ([32] : List UInt8)).1)), (10, .str ((Lib.cut p1 ([32] : List UInt8)).2.1)), (11, .bool ((Lib.cut p1 ([32] : List UInt8)).2.2)), (12, .ptr (some (h2.size, 0))), (33, .bool true)] H (fun fr => by kernel_rfl) (fun fr => .of (s_stG (by kernel_rfl) (stG_st hx rfl))) ?_
            intro fr t H
            refine at_seg [(8, [])] [(0, .ptr (some (bp0, 0))), (2, .int .i64 p2), (8, .ptr (some (h.size, 0))), (9, .str ((Lib.cut p1 ([32] : List UInt8)).1)), (10, .str ((Lib.cut p1 ([32] : List UInt8)).2.1)), (11, .bool ((Lib.cut p1 ([32] : List UInt8)).2.2)), (12, .ptr (some (h2.size, 0))), (13, .bool true)] H (noU_all rfl) (fun fr => by kernel_rfl) ?_
            intro fr H
            refine at_nil ?_
            show AW cfg 37 g (right (right (right (right (bodyC cfg.P 37))))) fr h18 _
            refine aw_seq (by kernel_rfl) ?_
            refine aw_seq (by kernel_rfl) ?_
            refine aw_reg (id := 5) (n := 20) [(0, []), (1, []), (2, []), (3, []), (4, []), (5, []), (6, []), (7, []), (8, []), (9, []), (10, []), (11, []), (12, []), (13, []), (14, []), (15, []), (16, []), (17, []), (18, []), (19, [])] (by kernel_rfl) (by kernel_rfl) ?_
            refine at_seg [(0, []), (1, []), (2, []), (3, []), (4, [])] [(0, .ptr (some (bp0, 0))), (2, .int .i64 p2), (8, .ptr (some (h.size, 0))), (9, .str ((Lib.cut p1 ([32] : List UInt8)).1)), (10, .str ((Lib.cut p1 ([32] : List UInt8)).2.1)), (12, .ptr (some (h2.size, 0))), (36, .bool false), (37, .bool ((Lib.cut p1 ([32] : List UInt8)).2.2)), (38, .ptr (some (h2.size, 0)))] H (noU_all rfl) (fun fr => by kernel_rfl) ?_
            intro fr H
            refine at_step (v := .bool true) (h1 := h18) [(0, .ptr (some (bp0, 0))), (2, .int .i64 p2), (8, .ptr (some (h.size, 0))), (9, .str ((Lib.cut p1 ([32] : List UInt8)).1)), (10, .str ((Lib.cut p1 ([32] : List UInt8)).2.1)), (12, .ptr (some (h2.size, 0))), (36, .bool false), (37, .bool ((Lib.cut p1 ([32] : List UInt8)).2.2)), (39, .bool true)] H (fun fr => by kernel_rfl) (fun fr => .of (s_ld (by kernel_rfl) (A.ld1 0 rfl (o := 0) rfl))) ?_
            intro fr t H
            refine at_seg [(6, []), (7, []), (8, [])] [(0, .ptr (some (bp0, 0))), (2, .int .i64 p2), (8, .ptr (some (h.size, 0))), (9, .str ((Lib.cut p1 ([32] : List UInt8)).1)), (10, .str ((Lib.cut p1 ([32] : List UInt8)).2.1)), (12, .ptr (some (h2.size, 0))), (42, .bool (!(((Lib.cut p1 ([32] : List UInt8)).2.2) == true)))] H (noU_all rfl) (fun fr => by kernel_rfl) ?_
            intro fr H
            refine at_cut [(9, []), (10, []), (11, []), (12, []), (13, []), (14, []), (15, []), (16, []), (17, []), (18, []), (19, [])] (fun fr' h' => h18 = h' ∧ Has fr' 72 [(0, .ptr (some (bp0, 0))), (2, .int .i64 p2), (8, .ptr (some (h.size, 0))), (9, .str ((Lib.cut p1 ([32] : List UInt8)).1)), (10, .str ((Lib.cut p1 ([32] : List UInt8)).2.1)), (12, .ptr (some (h2.size, 0))), (53, .bool ((!(((Lib.cut p1 ([32] : List UInt8)).2.2) == true)) || false))]) ?_ ?_
            ·cases hb : (!(((Lib.cut p1 ([32] : List UInt8)).2.2) == true) : Bool) with
             | true =>
              replace H := H.know 42 hb (by kernel_rfl)
              refine at_seg [(9, []), (10, []), (11, []), (12, []), (13, []), (14, []), (15, []), (16, []), (17, []), (18, []), (19, [])] [(0, .ptr (some (bp0, 0))), (2, .int .i64 p2), (8, .ptr (some (h.size, 0))), (9, .str ((Lib.cut p1 ([32] : List UInt8)).1)), (10, .str ((Lib.cut p1 ([32] : List UInt8)).2.1)), (12, .ptr (some (h2.size, 0))), (53, .bool true)] H (noU_all rfl) (fun fr => by kernel_rfl) ?_
              intro fr H
              exact at_nil ⟨rfl, by first | exact H.less _ (fun fr => by rfl) | exact H.less _ (fun fr => by rw [hb]; rfl)⟩
             | false =>
              replace H := H.know 42 hb (by kernel_rfl)
              refine at_seg [(9, [])] [(0, .ptr (some (bp0, 0))), (2, .int .i64 p2), (8, .ptr (some (h.size, 0))), (9, .str ((Lib.cut p1 ([32] : List UInt8)).1)), (10, .str ((Lib.cut p1 ([32] : List UInt8)).2.1)), (12, .ptr (some (h2.size, 0))), (42, .bool false), (43, .ptr (some (h2.size, 1)))] H (noU_all rfl) (fun fr => by kernel_rfl) ?_
              intro fr H
              refine at_step (v := .bool false) (h1 := h18) [(0, .ptr (some (bp0, 0))), (2, .int .i64 p2), (8, .ptr (some (h.size, 0))), (9, .str ((Lib.cut p1 ([32] : List UInt8)).1)), (10, .str ((Lib.cut p1 ([32] : List UInt8)).2.1)), (12, .ptr (some (h2.size, 0))), (42, .bool false), (44, .bool false)] H (fun fr => by kernel_rfl) (fun fr => .of (s_ld (by kernel_rfl) (A.ld1 0 rfl (o := 1) rfl))) ?_
              intro fr t H
              refine at_seg [(11, []), (12, []), (13, []), (14, []), (15, []), (16, []), (17, []), (18, []), (19, [])] [(0, .ptr (some (bp0, 0))), (2, .int .i64 p2), (8, .ptr (some (h.size, 0))), (9, .str ((Lib.cut p1 ([32] : List UInt8)).1)), (10, .str ((Lib.cut p1 ([32] : List UInt8)).2.1)), (12, .ptr (some (h2.size, 0))), (53, .bool false)] H (noU_all rfl) (fun fr => by kernel_rfl) ?_
              intro fr H
              exact at_nil ⟨rfl, by first | exact H.less _ (fun fr => by rfl) | exact H.less _ (fun fr => by rw [hb]; rfl)⟩
            ·intro t fr h' hK
             obtain ⟨e, H⟩ := hK
             subst e
             refine at_nil ?_
             show AW cfg 37 g (right (left (right (right (right (right (bodyC cfg.P 37))))))) fr h18 _
             rcases iteB_some hm with ⟨hb, hm⟩ | ⟨hb, hm⟩
             ·replace H := H.know 53 hb (by kernel_rfl)
              refine aw_true (x := .tmp 53) (by kernel_rfl) H (fun fr => by kernel_rfl) ?_
              refine aw_seq (by kernel_rfl) ?_
              refine aw_reg (id := 6) (n := 3) [(0, []), (1, []), (2, [])] (by kernel_rfl) (by kernel_rfl) ?_
              refine at_seg [(0, []), (1, [])] [(8, .ptr (some (h.size, 0))), (55, .agg [.int .i64 (11 : Int), .int .i64 p2])] H (noU_all rfl) (fun fr => by kernel_rfl) ?_
              intro fr H
              obtain ⟨h19, hx, A1⟩ := A.st 1 rfl (o := 0) (new := [.int .i64 (11 : Int), .int .i64 p2]) (ds := [.int .i64 (11 : Int), .int .i64 p2]) (Nat.le_of_ble_eq_true rfl) rfl rfl
              replace A : HH g h19 [.obj h2.size (.cells none 2 [.bool true, .bool false, .func (.func 64) [] []]), .obj h.size (.cells none 2 [.int .i64 (11 : Int), .int .i64 p2]), .obj bp0 (.cells none 2 [rowV rp0_0 p0.c_.Includes.length, rowV rp0_1 p0.c_.Excludes.length, rowV rp0_2 p0.c_.Exprs.length, .bool p0.c_.Vcs, .bool p0.c_.Backups, .int .i64 p0.c_.Caches, .bool p0.c_.Dated, .int .i64 p0.c_.Newer.Sec, .int .i64 p0.c_.Newer.Nsec, .int .i64 p0.c_.Nth, .int .i64 p0.c_.Strip, .int .i64 p0.c_.Name, .int .i64 p0.c_.Head, .int .i64 p0.c_.States, .str p0.flags_.Text, .bool p0.flags_.Anchored, .bool p0.flags_.Fold, .bool p0.flags_.Slash, .str p0.rest_, .int .i64 p0.at_, .map (some bp0_20)]), .lst rp0_0 87 (lst e_S_pattern_Rule p0.c_.Includes), .lst rp0_1 87 (lst e_S_pattern_Rule p0.c_.Excludes), .lst rp0_2 24 (lst e_S_rewrite_Expr p0.c_.Exprs), .obj bp0_20 (.map 2 (encM (fun k : List UInt8 => .str k) (fun v : Bool => .bool v) p0.seen_)), .obj bp3 (.map 2 LA.km35)] F := A1
              refine at_step (v := .tuple []) (h1 := h19) [(8, .ptr (some (h.size, 0)))] H (fun fr => by kernel_rfl) (fun fr => .of (s_stG (by kernel_rfl) (stG_st hx rfl))) ?_
              intro fr t H
              refine at_nil ?_
              show AW cfg 37 g (right (left (right (left (right (right (right (right (bodyC cfg.P 37))))))))) fr h19 _
              refine aw_ret (by kernel_rfl) ?_
              have e0 := Option.some.inj hm
              obtain ⟨y0, z0⟩ := Prod.mk.inj e0
              obtain ⟨y1, z1⟩ := Prod.mk.inj z0
              obtain ⟨y2, z2⟩ := Prod.mk.inj z1
              obtain ⟨y3, z3⟩ := Prod.mk.inj z2
              subst y0
              subst y1
              subst y2
              subst y3
              subst z3
              refine ⟨.inl rfl, .agg [.int .i64 (11 : Int), .int .i64 p2], resL_one (.cell (resT H (fun fr => by kernel_rfl)) (load_ldA (by kernel_rfl) (by kernel_rfl) (A.ldA 1 rfl (o := 0) (n := 2) ⟨Nat.le_of_ble_eq_true rfl, rfl⟩)) .nil), ?_⟩
              replace A : HH g h19 [.obj bp0 (.cells none 2 [rowV rp0_0 p0.c_.Includes.length, rowV rp0_1 p0.c_.Excludes.length, rowV rp0_2 p0.c_.Exprs.length, .bool p0.c_.Vcs, .bool p0.c_.Backups, .int .i64 p0.c_.Caches, .bool p0.c_.Dated, .int .i64 p0.c_.Newer.Sec, .int .i64 p0.c_.Newer.Nsec, .int .i64 p0.c_.Nth, .int .i64 p0.c_.Strip, .int .i64 p0.c_.Name, .int .i64 p0.c_.Head, .int .i64 p0.c_.States, .str p0.flags_.Text, .bool p0.flags_.Anchored, .bool p0.flags_.Fold, .bool p0.flags_.Slash, .str p0.rest_, .int .i64 p0.at_, .map (some bp0_20)]), .lst rp0_0 87 (lst e_S_pattern_Rule p0.c_.Includes), .lst rp0_1 87 (lst e_S_pattern_Rule p0.c_.Excludes), .lst rp0_2 24 (lst e_S_rewrite_Expr p0.c_.Exprs), .obj bp0_20 (.map 2 (encM (fun k : List UInt8 => .str k) (fun v : Bool => .bool v) p0.seen_)), .obj bp3 (.map 2 LA.km35)] F := (HH.dropF ((((((A.front 7 rfl).front 7 rfl).front 7 rfl).front 7 rfl).front 7 rfl).front 7 rfl) 6)
              exact ⟨rp0_0, rp0_1, rfl, A⟩
             ·replace H := H.know 53 hb (by kernel_rfl)
              refine aw_false (x := .tmp 53) (by kernel_rfl) H (fun fr => by kernel_rfl) ?_
              refine aw_skip (by kernel_rfl) ?_
              show AW cfg 37 g (right (right (right (right (right (bodyC cfg.P 37)))))) fr h18 _
              refine aw_seq (by kernel_rfl) ?_
              refine aw_reg (id := 7) (n := 6) [(0, []), (1, []), (2, []), (3, []), (4, []), (5, [])] (by kernel_rfl) (by kernel_rfl) ?_
              refine at_seg [(0, []), (1, []), (2, [])] [(0, .ptr (some (bp0, 0))), (2, .int .i64 p2), (8, .ptr (some (h.size, 0))), (9, .str ((Lib.cut p1 ([32] : List UInt8)).1)), (10, .str ((Lib.cut p1 ([32] : List UInt8)).2.1)), (12, .ptr (some (h2.size, 0))), (58, .ptr (some (bp0, 20)))] H (noU_all rfl) (fun fr => by kernel_rfl) ?_
              intro fr H
              refine at_step (v := .map (some bp0_20)) (h1 := h18) [(0, .ptr (some (bp0, 0))), (2, .int .i64 p2), (8, .ptr (some (h.size, 0))), (9, .str ((Lib.cut p1 ([32] : List UInt8)).1)), (10, .str ((Lib.cut p1 ([32] : List UInt8)).2.1)), (12, .ptr (some (h2.size, 0))), (59, .map (some bp0_20))] H (fun fr => by kernel_rfl) (fun fr => .of (s_ld (by kernel_rfl) (A.ld1 2 rfl (o := 20) rfl))) ?_
              intro fr t H
              refine at_seg [(4, [])] [(0, .ptr (some (bp0, 0))), (2, .int .i64 p2), (8, .ptr (some (h.size, 0))), (9, .str ((Lib.cut p1 ([32] : List UInt8)).1)), (10, .str ((Lib.cut p1 ([32] : List UInt8)).2.1)), (12, .ptr (some (h2.size, 0))), (59, .map (some bp0_20)), (60, .str ((Lib.cut p1 ([32] : List UInt8)).1))] H (noU_all rfl) (fun fr => by kernel_rfl) ?_
              intro fr H
              obtain ⟨h20, hx, A1⟩ := HH.mset (kt := 9) (et := 4) (ek := fun k : List UInt8 => .str k) (ev := fun v : Bool => .bool v) (keyS (by kernel_rfl)) A 6 rfl (t := 88) (by kernel_rfl) ((Lib.cut p1 ([32] : List UInt8)).1) true
              replace A : HH g h20 [.obj h2.size (.cells none 2 [.bool true, .bool false, .func (.func 64) [] []]), .obj h.size (.cells none 2 [.int .i64 (0 : Int), .int .i64 (0 : Int)]), .obj bp0 (.cells none 2 [rowV rp0_0 p0.c_.Includes.length, rowV rp0_1 p0.c_.Excludes.length, rowV rp0_2 p0.c_.Exprs.length, .bool p0.c_.Vcs, .bool p0.c_.Backups, .int .i64 p0.c_.Caches, .bool p0.c_.Dated, .int .i64 p0.c_.Newer.Sec, .int .i64 p0.c_.Newer.Nsec, .int .i64 p0.c_.Nth, .int .i64 p0.c_.Strip, .int .i64 p0.c_.Name, .int .i64 p0.c_.Head, .int .i64 p0.c_.States, .str p0.flags_.Text, .bool p0.flags_.Anchored, .bool p0.flags_.Fold, .bool p0.flags_.Slash, .str p0.rest_, .int .i64 p0.at_, .map (some bp0_20)]), .lst rp0_0 87 (lst e_S_pattern_Rule p0.c_.Includes), .lst rp0_1 87 (lst e_S_pattern_Rule p0.c_.Excludes), .lst rp0_2 24 (lst e_S_rewrite_Expr p0.c_.Exprs), .obj bp0_20 (.map 2 (encM (fun k : List UInt8 => .str k) (fun v : Bool => .bool v) (mput p0.seen_ ((Lib.cut p1 ([32] : List UInt8)).1) true))), .obj bp3 (.map 2 LA.km35)] F := A1
              refine at_step (v := .tuple []) (h1 := h20) [(0, .ptr (some (bp0, 0))), (2, .int .i64 p2), (8, .ptr (some (h.size, 0))), (9, .str ((Lib.cut p1 ([32] : List UInt8)).1)), (10, .str ((Lib.cut p1 ([32] : List UInt8)).2.1)), (12, .ptr (some (h2.size, 0)))] H (fun fr => by kernel_rfl) (fun fr => .of (s_ms (by kernel_rfl) hx)) ?_
              intro fr t H
              refine at_nil ?_
              show AW cfg 37 g (right (right (right (right (right (right (bodyC cfg.P 37))))))) fr h20 _
              refine aw_seq (by kernel_rfl) ?_
              refine aw_reg (id := 8) (n := 12) [(0, []), (1, []), (2, []), (3, []), (4, []), (5, []), (6, []), (7, []), (8, []), (9, []), (10, []), (11, [])] (by kernel_rfl) (by kernel_rfl) ?_
              refine at_seg [(0, [])] [(0, .ptr (some (bp0, 0))), (2, .int .i64 p2), (8, .ptr (some (h.size, 0))), (9, .str ((Lib.cut p1 ([32] : List UInt8)).1)), (10, .str ((Lib.cut p1 ([32] : List UInt8)).2.1)), (61, .ptr (some (h2.size, 2)))] H (noU_all rfl) (fun fr => by kernel_rfl) ?_
              intro fr H
              refine at_step (v := .func (.func 64) [] []) (h1 := h20) [(0, .ptr (some (bp0, 0))), (2, .int .i64 p2), (8, .ptr (some (h.size, 0))), (9, .str ((Lib.cut p1 ([32] : List UInt8)).1)), (10, .str ((Lib.cut p1 ([32] : List UInt8)).2.1)), (62, .func (.func 64) [] [])] H (fun fr => by kernel_rfl) (fun fr => .of (s_ld (by kernel_rfl) (A.ld1 0 rfl (o := 2) rfl))) ?_
              intro fr t H
              refine at_seg [(2, []), (3, []), (4, []), (5, []), (6, []), (7, []), (8, []), (9, [])] [(8, .ptr (some (h.size, 0))), (62, .func (.func 64) [] []), (63, .ptr (some (bp0, 0))), (64, .str ((Lib.cut p1 ([32] : List UInt8)).2.1)), (65, .int .i64 p2), (70, .int .i64 (IntKind.i64.wrap ((IntKind.i64.wrap (p2 + (((Lib.cut p1 ([32] : List UInt8)).1).length : Int))) + (1 : Int))))] H (noU_all rfl) (fun fr => by kernel_rfl) ?_
              intro fr H
              replace A : HH g h20 [.obj bp0 (.cells none 2 [rowV rp0_0 p0.c_.Includes.length, rowV rp0_1 p0.c_.Excludes.length, rowV rp0_2 p0.c_.Exprs.length, .bool p0.c_.Vcs, .bool p0.c_.Backups, .int .i64 p0.c_.Caches, .bool p0.c_.Dated, .int .i64 p0.c_.Newer.Sec, .int .i64 p0.c_.Newer.Nsec, .int .i64 p0.c_.Nth, .int .i64 p0.c_.Strip, .int .i64 p0.c_.Name, .int .i64 p0.c_.Head, .int .i64 p0.c_.States, .str p0.flags_.Text, .bool p0.flags_.Anchored, .bool p0.flags_.Fold, .bool p0.flags_.Slash, .str p0.rest_, .int .i64 p0.at_, .map (some bp0_20)]), .lst rp0_0 87 (lst e_S_pattern_Rule p0.c_.Includes), .lst rp0_1 87 (lst e_S_pattern_Rule p0.c_.Excludes), .lst rp0_2 24 (lst e_S_rewrite_Expr p0.c_.Exprs), .obj bp0_20 (.map 2 (encM (fun k : List UInt8 => .str k) (fun v : Bool => .bool v) (mput p0.seen_ ((Lib.cut p1 ([32] : List UInt8)).1) true))), .obj h2.size (.cells none 2 [.bool true, .bool false, .func (.func 64) [] []]), .obj h.size (.cells none 2 [.int .i64 (0 : Int), .int .i64 (0 : Int)]), .obj bp3 (.map 2 LA.km35)] F := (((((A.front 6 rfl).front 6 rfl).front 6 rfl).front 6 rfl).front 6 rfl)
              have A1 := A.cut 5
              obtain ⟨⟨x8, x9, x10⟩, hx, hm⟩ := bind_some hm
              obtain ⟨v1, h21, hr, r3, rfl, A1⟩ := ok_option_words_9_sPOOOSII (av := [.ptr (some (bp0, 0)), .str ((Lib.cut p1 ([32] : List UInt8)).2.1), .int .i64 p2, .int .i64 (IntKind.i64.wrap ((IntKind.i64.wrap (p2 + (((Lib.cut p1 ([32] : List UInt8)).1).length : Int))) + (1 : Int)))]) hx (by kernel_rfl) A1
              replace A : HH g h21 [.obj bp0 (.cells none 2 [rowV rp0_0 p0.c_.Includes.length, rowV r3 x10.length, rowV rp0_2 p0.c_.Exprs.length, .bool x9.c_.Vcs, .bool x9.c_.Backups, .int .i64 x9.c_.Caches, .bool x9.c_.Dated, .int .i64 x9.c_.Newer.Sec, .int .i64 x9.c_.Newer.Nsec, .int .i64 x9.c_.Nth, .int .i64 x9.c_.Strip, .int .i64 x9.c_.Name, .int .i64 x9.c_.Head, .int .i64 x9.c_.States, .str x9.flags_.Text, .bool x9.flags_.Anchored, .bool x9.flags_.Fold, .bool x9.flags_.Slash, .str x9.rest_, .int .i64 x9.at_, .map (some bp0_20)]), .lst rp0_0 87 (lst e_S_pattern_Rule p0.c_.Includes), .lst r3 87 (lst e_S_pattern_Rule x10), .lst rp0_2 24 (lst e_S_rewrite_Expr p0.c_.Exprs), .obj bp0_20 (.map 2 (encM (fun k : List UInt8 => .str k) (fun v : Bool => .bool v) (mput p0.seen_ ((Lib.cut p1 ([32] : List UInt8)).1) true))), .obj h2.size (.cells none 2 [.bool true, .bool false, .func (.func 64) [] []]), .obj h.size (.cells none 2 [.int .i64 (0 : Int), .int .i64 (0 : Int)]), .obj bp3 (.map 2 LA.km35)] F := A.glue0 (n := 5) A1
              refine at_step (v := .agg [.int .i64 x8.e_, .int .i64 x8.at_]) (h1 := h21) [(8, .ptr (some (h.size, 0))), (71, .agg [.int .i64 x8.e_, .int .i64 x8.at_])] H (fun fr => by kernel_rfl) (fun fr => Steps.call (by kernel_rfl) hr) ?_
              intro fr t H
              obtain ⟨h22, hx, A1⟩ := A.st 6 rfl (o := 0) (new := [.int .i64 x8.e_, .int .i64 x8.at_]) (ds := [.int .i64 x8.e_, .int .i64 x8.at_]) (Nat.le_of_ble_eq_true rfl) rfl rfl
              replace A : HH g h22 [.obj bp0 (.cells none 2 [rowV rp0_0 p0.c_.Includes.length, rowV r3 x10.length, rowV rp0_2 p0.c_.Exprs.length, .bool x9.c_.Vcs, .bool x9.c_.Backups, .int .i64 x9.c_.Caches, .bool x9.c_.Dated, .int .i64 x9.c_.Newer.Sec, .int .i64 x9.c_.Newer.Nsec, .int .i64 x9.c_.Nth, .int .i64 x9.c_.Strip, .int .i64 x9.c_.Name, .int .i64 x9.c_.Head, .int .i64 x9.c_.States, .str x9.flags_.Text, .bool x9.flags_.Anchored, .bool x9.flags_.Fold, .bool x9.flags_.Slash, .str x9.rest_, .int .i64 x9.at_, .map (some bp0_20)]), .lst rp0_0 87 (lst e_S_pattern_Rule p0.c_.Includes), .lst r3 87 (lst e_S_pattern_Rule x10), .lst rp0_2 24 (lst e_S_rewrite_Expr p0.c_.Exprs), .obj bp0_20 (.map 2 (encM (fun k : List UInt8 => .str k) (fun v : Bool => .bool v) (mput p0.seen_ ((Lib.cut p1 ([32] : List UInt8)).1) true))), .obj h2.size (.cells none 2 [.bool true, .bool false, .func (.func 64) [] []]), .obj h.size (.cells none 2 [.int .i64 x8.e_, .int .i64 x8.at_]), .obj bp3 (.map 2 LA.km35)] F := A1
              refine at_step (v := .tuple []) (h1 := h22) [(8, .ptr (some (h.size, 0)))] H (fun fr => by kernel_rfl) (fun fr => .of (s_stG (by kernel_rfl) (stG_st hx rfl))) ?_
              intro fr t H
              refine at_nil ?_
              show AW cfg 37 g (right (right (right (right (right (right (right (bodyC cfg.P 37)))))))) fr h22 _
              refine aw_ret (by kernel_rfl) ?_
              have e0 := Option.some.inj hm
              obtain ⟨y0, z0⟩ := Prod.mk.inj e0
              obtain ⟨y1, z1⟩ := Prod.mk.inj z0
              obtain ⟨y2, z2⟩ := Prod.mk.inj z1
              obtain ⟨y3, z3⟩ := Prod.mk.inj z2
              subst y0
              subst y1
              subst y2
              subst y3
              subst z3
              refine ⟨.inl rfl, .agg [.int .i64 x8.e_, .int .i64 x8.at_], resL_one (.cell (resT H (fun fr => by kernel_rfl)) (load_ldA (by kernel_rfl) (by kernel_rfl) (A.ldA 6 rfl (o := 0) (n := 2) ⟨Nat.le_of_ble_eq_true rfl, rfl⟩)) .nil), ?_⟩
              replace A : HH g h22 [.obj bp0 (.cells none 2 [rowV rp0_0 p0.c_.Includes.length, rowV r3 x10.length, rowV rp0_2 p0.c_.Exprs.length, .bool x9.c_.Vcs, .bool x9.c_.Backups, .int .i64 x9.c_.Caches, .bool x9.c_.Dated, .int .i64 x9.c_.Newer.Sec, .int .i64 x9.c_.Newer.Nsec, .int .i64 x9.c_.Nth, .int .i64 x9.c_.Strip, .int .i64 x9.c_.Name, .int .i64 x9.c_.Head, .int .i64 x9.c_.States, .str x9.flags_.Text, .bool x9.flags_.Anchored, .bool x9.flags_.Fold, .bool x9.flags_.Slash, .str x9.rest_, .int .i64 x9.at_, .map (some bp0_20)]), .lst rp0_0 87 (lst e_S_pattern_Rule p0.c_.Includes), .lst r3 87 (lst e_S_pattern_Rule x10), .lst rp0_2 24 (lst e_S_rewrite_Expr p0.c_.Exprs), .obj bp0_20 (.map 2 (encM (fun k : List UInt8 => .str k) (fun v : Bool => .bool v) (mput p0.seen_ ((Lib.cut p1 ([32] : List UInt8)).1) true))), .obj bp3 (.map 2 LA.km35)] F := (HH.dropF ((((((A.front 7 rfl).front 5 rfl).front 5 rfl).front 5 rfl).front 5 rfl).front 5 rfl) 6)
              exact ⟨rp0_0, r3, rfl, A⟩
           ·skip
            rcases iteB_some hm with ⟨hb, hm⟩ | ⟨hk10, hm⟩
            ·cases hm
            ·skip
             rcases iteB_some hm with ⟨hb, hm⟩ | ⟨hk11, hm⟩
             ·cases hm
             ·skip
              rcases iteB_some hm with ⟨hb, hm⟩ | ⟨hk12, hm⟩
              ·cases hm
              ·skip
               rcases iteB_some hm with ⟨hb, hm⟩ | ⟨hk13, hm⟩
               ·cases hm
               ·skip
                rcases iteB_some hm with ⟨hb, hm⟩ | ⟨hk14, hm⟩
                ·cases hm
                ·skip
                 rcases iteB_some hm with ⟨hb, hm⟩ | ⟨hk15, hm⟩
                 ·cases hm
                 ·skip
                  rcases iteB_some hm with ⟨hb, hm⟩ | ⟨hk16, hm⟩
                  ·cases hm
                  ·skip
                   rcases iteB_some hm with ⟨hb, hm⟩ | ⟨hk17, hm⟩
                   ·cases hm
                   ·skip
                    rcases iteB_some hm with ⟨hb, hm⟩ | ⟨hk18, hm⟩
                    ·cases hm
                    ·skip
                     rcases iteB_some hm with ⟨hb, hm⟩ | ⟨hk19, hm⟩
                     ·cases hm
                     ·skip
                      refine at_step (v := .tuple [.agg [.bool false, .bool false, .nilFunc], .bool false]) (h1 := h2) [(0, .ptr (some (bp0, 0))), (2, .int .i64 p2), (8, .ptr (some (h.size, 0))), (9, .str ((Lib.cut p1 ([32] : List UInt8)).1)), (10, .str ((Lib.cut p1 ([32] : List UInt8)).2.1)), (11, .bool ((Lib.cut p1 ([32] : List UInt8)).2.2)), (31, .tuple [.agg [.bool false, .bool false, .nilFunc], .bool false])] H (fun fr => by kernel_rfl) (fun fr => .of (s_lkT (by kernel_rfl) (HH.mlookCN (P := cfg.P) A 6 rfl (t := 91) (kt := 9) (et := 129) (by kernel_rfl) (by kernel_rfl) (z := .agg [.bool false, .bool false, .nilFunc]) (by kernel_rfl) (s := ((Lib.cut p1 ([32] : List UInt8)).1)) (.miss hk1 (.miss hk2 (.miss hk3 (.miss hk4 (.miss hk5 (.miss hk6 (.miss hk7 (.miss hk8 (.miss hk9 (.miss hk10 (.miss hk11 (.miss hk12 (.miss hk13 (.miss hk14 (.miss hk15 (.miss hk16 (.miss hk17 (.miss hk18 (.miss hk19 (.nil))))))))))))))))))))))) ?_
                      intro fr t H
                      refine at_seg [(3, []), (4, []), (5, [])] [(0, .ptr (some (bp0, 0))), (2, .int .i64 p2), (8, .ptr (some (h.size, 0))), (9, .str ((Lib.cut p1 ([32] : List UInt8)).1)), (10, .str ((Lib.cut p1 ([32] : List UInt8)).2.1)), (11, .bool ((Lib.cut p1 ([32] : List UInt8)).2.2)), (32, .agg [.bool false, .bool false, .nilFunc]), (33, .bool false)] H (noU_all rfl) (fun fr => by kernel_rfl) ?_
                      intro fr H
                      obtain ⟨h23, e5⟩ : ∃ x, x = h2.push (.cells none 2 [.bool false, .bool false, .nilFunc]) := ⟨_, rfl⟩
                      replace A := (A.push _).to e5
                      refine at_step (v := .ptr (some (h2.size, 0))) (h1 := h23) [(0, .ptr (some (bp0, 0))), (2, .int .i64 p2), (8, .ptr (some (h.size, 0))), (9, .str ((Lib.cut p1 ([32] : List UInt8)).1)), (10, .str ((Lib.cut p1 ([32] : List UInt8)).2.1)), (11, .bool ((Lib.cut p1 ([32] : List UInt8)).2.2)), (12, .ptr (some (h2.size, 0))), (32, .agg [.bool false, .bool false, .nilFunc]), (33, .bool false)] H (fun fr => by kernel_rfl) (fun fr => .of (s_n' (by kernel_rfl) (congrArg some e5.symm))) ?_
                      intro fr t H
                      obtain ⟨h24, hx, A1⟩ := A.st 0 rfl (o := 0) (new := [.bool false, .bool false, .nilFunc]) (ds := [.bool false, .bool false, .nilFunc]) (Nat.le_of_ble_eq_true rfl) rfl rfl
                      replace A : HH g h24 [.obj h2.size (.cells none 2 [.bool false, .bool false, .nilFunc]), .obj h.size (.cells none 2 [.int .i64 (0 : Int), .int .i64 (0 : Int)]), .obj bp0 (.cells none 2 [rowV rp0_0 p0.c_.Includes.length, rowV rp0_1 p0.c_.Excludes.length, rowV rp0_2 p0.c_.Exprs.length, .bool p0.c_.Vcs, .bool p0.c_.Backups, .int .i64 p0.c_.Caches, .bool p0.c_.Dated, .int .i64 p0.c_.Newer.Sec, .int .i64 p0.c_.Newer.Nsec, .int .i64 p0.c_.Nth, .int .i64 p0.c_.Strip, .int .i64 p0.c_.Name, .int .i64 p0.c_.Head, .int .i64 p0.c_.States, .str p0.flags_.Text, .bool p0.flags_.Anchored, .bool p0.flags_.Fold, .bool p0.flags_.Slash, .str p0.rest_, .int .i64 p0.at_, .map (some bp0_20)]), .lst rp0_0 87 (lst e_S_pattern_Rule p0.c_.Includes), .lst rp0_1 87 (lst e_S_pattern_Rule p0.c_.Excludes), .lst rp0_2 24 (lst e_S_rewrite_Expr p0.c_.Exprs), .obj bp0_20 (.map 2 (encM (fun k : List UInt8 => .str k) (fun v : Bool => .bool v) p0.seen_)), .obj bp3 (.map 2 LA.km35)] F := A1
                      refine at_step (v := .tuple []) (h1 := h24) [(0, .ptr (some (bp0, 0))), (2, .int .i64 p2), (8, .ptr (some (h.size, 0))), (9, .str ((Lib.cut p1 ([32] : List UInt8)).1)), (10, .str ((Lib.cut p1 ([32] : List UInt8)).2.1)), (11, .bool ((Lib.cut p1 ([32] : List UInt8)).2.2)), (12, .ptr (some (h2.size, 0))), (33, .bool false)] H (fun fr => by kernel_rfl) (fun fr => .of (s_stG (by kernel_rfl) (stG_st hx rfl))) ?_
                      intro fr t H
                      refine at_seg [(8, [])] [(0, .ptr (some (bp0, 0))), (2, .int .i64 p2), (8, .ptr (some (h.size, 0))), (9, .str ((Lib.cut p1 ([32] : List UInt8)).1)), (10, .str ((Lib.cut p1 ([32] : List UInt8)).2.1)), (11, .bool ((Lib.cut p1 ([32] : List UInt8)).2.2)), (12, .ptr (some (h2.size, 0))), (13, .bool false)] H (noU_all rfl) (fun fr => by kernel_rfl) ?_
                      intro fr H
                      refine at_nil ?_
                      show AW cfg 37 g (right (right (right (right (bodyC cfg.P 37))))) fr h24 _
                      refine aw_seq (by kernel_rfl) ?_
                      refine aw_seq (by kernel_rfl) ?_
                      refine aw_reg (id := 5) (n := 20) [(0, []), (1, []), (2, []), (3, []), (4, []), (5, []), (6, []), (7, []), (8, []), (9, []), (10, []), (11, []), (12, []), (13, []), (14, []), (15, []), (16, []), (17, []), (18, []), (19, [])] (by kernel_rfl) (by kernel_rfl) ?_
                      refine at_seg [(0, []), (1, []), (2, []), (3, []), (4, []), (5, []), (6, []), (7, []), (8, []), (9, []), (10, []), (11, []), (12, []), (13, []), (14, []), (15, []), (16, []), (17, []), (18, []), (19, [])] [(0, .ptr (some (bp0, 0))), (2, .int .i64 p2), (8, .ptr (some (h.size, 0))), (9, .str ((Lib.cut p1 ([32] : List UInt8)).1)), (10, .str ((Lib.cut p1 ([32] : List UInt8)).2.1)), (12, .ptr (some (h2.size, 0))), (53, .bool true)] H (noU_all rfl) (fun fr => by kernel_rfl) ?_
                      intro fr H
                      refine at_nil ?_
                      show AW cfg 37 g (right (left (right (right (right (right (bodyC cfg.P 37))))))) fr h24 _
                      refine aw_true (x := .tmp 53) (by kernel_rfl) H (fun fr => by kernel_rfl) ?_
                      refine aw_seq (by kernel_rfl) ?_
                      refine aw_reg (id := 6) (n := 3) [(0, []), (1, []), (2, [])] (by kernel_rfl) (by kernel_rfl) ?_
                      refine at_seg [(0, []), (1, [])] [(8, .ptr (some (h.size, 0))), (55, .agg [.int .i64 (11 : Int), .int .i64 p2])] H (noU_all rfl) (fun fr => by kernel_rfl) ?_
                      intro fr H
                      obtain ⟨h25, hx, A1⟩ := A.st 1 rfl (o := 0) (new := [.int .i64 (11 : Int), .int .i64 p2]) (ds := [.int .i64 (11 : Int), .int .i64 p2]) (Nat.le_of_ble_eq_true rfl) rfl rfl
                      replace A : HH g h25 [.obj h2.size (.cells none 2 [.bool false, .bool false, .nilFunc]), .obj h.size (.cells none 2 [.int .i64 (11 : Int), .int .i64 p2]), .obj bp0 (.cells none 2 [rowV rp0_0 p0.c_.Includes.length, rowV rp0_1 p0.c_.Excludes.length, rowV rp0_2 p0.c_.Exprs.length, .bool p0.c_.Vcs, .bool p0.c_.Backups, .int .i64 p0.c_.Caches, .bool p0.c_.Dated, .int .i64 p0.c_.Newer.Sec, .int .i64 p0.c_.Newer.Nsec, .int .i64 p0.c_.Nth, .int .i64 p0.c_.Strip, .int .i64 p0.c_.Name, .int .i64 p0.c_.Head, .int .i64 p0.c_.States, .str p0.flags_.Text, .bool p0.flags_.Anchored, .bool p0.flags_.Fold, .bool p0.flags_.Slash, .str p0.rest_, .int .i64 p0.at_, .map (some bp0_20)]), .lst rp0_0 87 (lst e_S_pattern_Rule p0.c_.Includes), .lst rp0_1 87 (lst e_S_pattern_Rule p0.c_.Excludes), .lst rp0_2 24 (lst e_S_rewrite_Expr p0.c_.Exprs), .obj bp0_20 (.map 2 (encM (fun k : List UInt8 => .str k) (fun v : Bool => .bool v) p0.seen_)), .obj bp3 (.map 2 LA.km35)] F := A1
                      refine at_step (v := .tuple []) (h1 := h25) [(8, .ptr (some (h.size, 0)))] H (fun fr => by kernel_rfl) (fun fr => .of (s_stG (by kernel_rfl) (stG_st hx rfl))) ?_
                      intro fr t H
                      refine at_nil ?_
                      show AW cfg 37 g (right (left (right (left (right (right (right (right (bodyC cfg.P 37))))))))) fr h25 _
                      refine aw_ret (by kernel_rfl) ?_
                      have e0 := Option.some.inj hm
                      obtain ⟨y0, z0⟩ := Prod.mk.inj e0
                      obtain ⟨y1, z1⟩ := Prod.mk.inj z0
                      obtain ⟨y2, z2⟩ := Prod.mk.inj z1
                      obtain ⟨y3, z3⟩ := Prod.mk.inj z2
                      subst y0
                      subst y1
                      subst y2
                      subst y3
                      subst z3
                      refine ⟨.inl rfl, .agg [.int .i64 (11 : Int), .int .i64 p2], resL_one (.cell (resT H (fun fr => by kernel_rfl)) (load_ldA (by kernel_rfl) (by kernel_rfl) (A.ldA 1 rfl (o := 0) (n := 2) ⟨Nat.le_of_ble_eq_true rfl, rfl⟩)) .nil), ?_⟩
                      replace A : HH g h25 [.obj bp0 (.cells none 2 [rowV rp0_0 p0.c_.Includes.length, rowV rp0_1 p0.c_.Excludes.length, rowV rp0_2 p0.c_.Exprs.length, .bool p0.c_.Vcs, .bool p0.c_.Backups, .int .i64 p0.c_.Caches, .bool p0.c_.Dated, .int .i64 p0.c_.Newer.Sec, .int .i64 p0.c_.Newer.Nsec, .int .i64 p0.c_.Nth, .int .i64 p0.c_.Strip, .int .i64 p0.c_.Name, .int .i64 p0.c_.Head, .int .i64 p0.c_.States, .str p0.flags_.Text, .bool p0.flags_.Anchored, .bool p0.flags_.Fold, .bool p0.flags_.Slash, .str p0.rest_, .int .i64 p0.at_, .map (some bp0_20)]), .lst rp0_0 87 (lst e_S_pattern_Rule p0.c_.Includes), .lst rp0_1 87 (lst e_S_pattern_Rule p0.c_.Excludes), .lst rp0_2 24 (lst e_S_rewrite_Expr p0.c_.Exprs), .obj bp0_20 (.map 2 (encM (fun k : List UInt8 => .str k) (fun v : Bool => .bool v) p0.seen_)), .obj bp3 (.map 2 LA.km35)] F := (HH.dropF ((((((A.front 7 rfl).front 7 rfl).front 7 rfl).front 7 rfl).front 7 rfl).front 7 rfl) 6)
                      exact ⟨rp0_0, rp0_1, rfl, A⟩
end Go.Av.L
